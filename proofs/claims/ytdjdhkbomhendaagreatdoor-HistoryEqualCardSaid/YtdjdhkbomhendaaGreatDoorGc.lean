/-
  Walks over the value package's reference: Num. · Walks over the value package's reference: Literal, Text. · Walks over the value package's reference: Text. · The value that a literal can stand for. · The value that a literal can stand for: the candidate.
-/
import Derived.Test.YtdjdhkbomhendaaGreatDoorGb
import Derived.Lib.ParseIntBTie
namespace Go.Proofs.YtdjdhkbomhendaaGreatDoor
set_option linter.unusedVariables false
set_option linter.unusedSimpArgs false
open Go.RowKit
set_option maxHeartbeats 1000000
set_option maxRecDepth 100000

theorem S_data (l : List Nat) : (S l).data.toList = l.map UInt8.ofNat := by simp [S]
theorem dec_small {u : Nat} (h : u < 10) : Lib.decDigits u = [UInt8.ofNat (48 + u)] := by rw [Lib.decDigits, dif_pos h]
theorem dec_big {u : Nat} (h : ¬ u < 10) : Lib.decDigits u = Lib.decDigits (u / 10) ++ [UInt8.ofNat (48 + u % 10)] := by rw [Lib.decDigits, dif_neg h]
theorem dec_len (u : Nat) (h : u < 18446744073709551616) : (Lib.decDigits u).length ≤ 20 := by rw [Lib.decDigits_length]; exact Lib.nDigits_le20 u h

theorem num_pos (n : Int) (w : World) (h0 : 0 ≤ n) (h1 : n ≤ 9223372036854775807) :
    Calls Tryz.prog 85 #[.int .i64 n] w fun e w' => e = .returned (.string (itoB n)) ∧ Ext w w' := by
  obtain ⟨M, rfl⟩ : ∃ M : Nat, n = (M : Int) := ⟨n.toNat, by omega⟩
  have HI : Hid (itoB (M : Int) = ⟨(Lib.decDigits M).toArray⟩) := by
    unfold Hid itoB Lib.itoa
    rw [if_neg (by omega)]
    rfl
  have HD := hid (dec_len M (by omega))
  have hM2 : M ≤ 9223372036854775807 := by omega
  go_enter Tryz.func85, Tryz.ntmps85
  go_wp2_with fail
  go_loopw [3, 5] (fun uv sv wr => ∃ (U : Nat) (X : ByteArray), U ≤ M ∧ uv = .int .u64 (U : Int) ∧ sv = .string X ∧ Lib.decDigits M = Lib.decDigits U ++ X.data.toList ∧ Ext w wr) (fun uv _ _ => (intOf uv).toNat)
  case atStart => exact ⟨M, ⟨#[]⟩, Nat.le_refl _, rfl, rfl, by simp, Ext.refl w⟩
  case round =>
    obtain ⟨U, X, hUM, rfl, rfl, hd2, hxr⟩ := hrel
    have HX := hid hxr
    have hXs : X.size ≤ 20 := by
      have h1 := HD.out
      rw [hd2, List.length_append] at h1
      have : X.size = X.data.toList.length := rfl
      omega
    have hcv := conv_one (P := Tryz.prog) 64 9 5 (48 + U % 10) Tryz.underlying64 Tryz.underlying5 Tryz.underlying9
    have hcast : ((48 + U % 10 : Nat) : Int) = 48 + (U : Int) % 10 := by omega
    rw [hcast] at hcv
    have hs1 : (S [48 + U % 10]).size = 1 := rfl
    have hSd : Hid ((S [48 + U % 10]).data.toList = [UInt8.ofNat (48 + U % 10)]) := S_data _
    have HD2 := hid hd2
    clear hd2 hxr hcast
    generalize S [48 + U % 10] = C at *
    by_cases h9 : U < 10
    · have hq : (U : Int) / 10 = 0 := by omega
      have HR : Hid ((⟨(Lib.decDigits M).toArray⟩ : ByteArray) = C ++ X) := by
        apply t_inj
        show Lib.decDigits M = _
        rw [HD2.out, dec_small h9, ByteArray.data_append, Array.toList_append, hSd.out, Nat.mod_eq_of_lt h9]
      have b0 : (((U : Int) / 10) == 0) = true := by rw [hq]; rfl
      clear h9
      go_wp2_with fail
      go_ret
      exact ⟨ret_str (by rw [HI.out, HR.out]; apply t_inj; simp), HX.out.alloc _⟩
    · have b0 : (((U : Int) / 10) == 0) = false := by simp; omega
      have HQ : Hid (Lib.decDigits M = Lib.decDigits (U / 10) ++ (C ++ X).data.toList) := by
        unfold Hid
        rw [HD2.out, dec_big h9, ByteArray.data_append, Array.toList_append, hSd.out, List.append_assoc]
      have H9 : Hid (¬ U < 10) := h9
      clear h9
      go_wp2_with fail
      go_roundw
      case rel =>
        have := H9.out
        exact ⟨U / 10, _, by omega, by go_num, rfl, HQ.out, HX.out.alloc _⟩
      case measure => have := H9.out; simp [intOf]; omega

theorem num_neg (n : Int) (w : World) (h0 : n < 0) (h1 : -9223372036854775808 ≤ n) :
    Calls Tryz.prog 85 #[.int .i64 n] w fun e w' => e = .returned (.string (itoB n)) ∧ Ext w w' := by
  obtain ⟨M, hM⟩ : ∃ M : Nat, n = -(M : Int) := ⟨n.natAbs, by omega⟩
  have HI : Hid (itoB n = ⟨#[45]⟩ ++ ⟨(Lib.decDigits M).toArray⟩) := by
    have e : n.natAbs = M := by omega
    unfold Hid itoB Lib.itoa
    rw [if_pos (by omega), e]
    apply t_inj
    simp
  have HD := hid (dec_len M (by omega))
  have hM2 : M ≤ 9223372036854775808 := by omega
  have hw : IntKind.u64.wrap (-(IntKind.u64.wrap n)) = (M : Int) := by
    simp [IntKind.wrap, IntKind.bits, IntKind.signed]
    omega
  have hM1 : 1 ≤ M := by omega
  clear hM
  go_enter Tryz.func85, Tryz.ntmps85
  go_wp2_with fail
  go_loopw [3, 5] (fun uv sv wr => ∃ (U : Nat) (X : ByteArray), U ≤ M ∧ uv = .int .u64 (U : Int) ∧ sv = .string X ∧ Lib.decDigits M = Lib.decDigits U ++ X.data.toList ∧ Ext w wr) (fun uv _ _ => (intOf uv).toNat)
  case atStart => exact ⟨M, ⟨#[]⟩, Nat.le_refl _, rfl, rfl, by simp, Ext.refl w⟩
  case round =>
    obtain ⟨U, X, hUM, rfl, rfl, hd2, hxr⟩ := hrel
    have HX := hid hxr
    have hXs : X.size ≤ 20 := by
      have h1 := HD.out
      rw [hd2, List.length_append] at h1
      have : X.size = X.data.toList.length := rfl
      omega
    have hcv := conv_one (P := Tryz.prog) 64 9 5 (48 + U % 10) Tryz.underlying64 Tryz.underlying5 Tryz.underlying9
    have hcast : ((48 + U % 10 : Nat) : Int) = 48 + (U : Int) % 10 := by omega
    rw [hcast] at hcv
    have hs1 : (S [48 + U % 10]).size = 1 := rfl
    have hSd : Hid ((S [48 + U % 10]).data.toList = [UInt8.ofNat (48 + U % 10)]) := S_data _
    have HD2 := hid hd2
    clear hd2 hxr hcast
    generalize S [48 + U % 10] = C at *
    by_cases h9 : U < 10
    · have hq : (U : Int) / 10 = 0 := by omega
      have HR : Hid ((⟨(Lib.decDigits M).toArray⟩ : ByteArray) = C ++ X) := by
        apply t_inj
        show Lib.decDigits M = _
        rw [HD2.out, dec_small h9, ByteArray.data_append, Array.toList_append, hSd.out, Nat.mod_eq_of_lt h9]
      have b0 : (((U : Int) / 10) == 0) = true := by rw [hq]; rfl
      clear h9
      go_wp2_with fail
      go_ret
      exact ⟨ret_str (by rw [HI.out, HR.out]), HX.out.alloc _⟩
    · have b0 : (((U : Int) / 10) == 0) = false := by simp; omega
      have HQ : Hid (Lib.decDigits M = Lib.decDigits (U / 10) ++ (C ++ X).data.toList) := by
        unfold Hid
        rw [HD2.out, dec_big h9, ByteArray.data_append, Array.toList_append, hSd.out, List.append_assoc]
      have H9 : Hid (¬ U < 10) := h9
      clear h9
      go_wp2_with fail
      go_roundw
      case rel =>
        have := H9.out
        exact ⟨U / 10, _, by omega, by go_num, rfl, HQ.out, HX.out.alloc _⟩
      case measure => have := H9.out; simp [intOf]; omega

theorem num_any (n : Int) (w : World) (h0 : -9223372036854775808 ≤ n) (h1 : n ≤ 9223372036854775807) :
    Calls Tryz.prog 85 #[.int .i64 n] w fun e w' => e = .returned (.string (itoB n)) ∧ Ext w w' := by
  by_cases h : n < 0
  · exact num_neg n w h h0
  · exact num_pos n w (by omega) h1

end Go.Proofs.YtdjdhkbomhendaaGreatDoor
namespace Go.Proofs.YtdjdhkbomhendaaGreatDoor
set_option linter.unusedVariables false
set_option linter.unusedSimpArgs false
open Go.RowKit
set_option maxHeartbeats 1000000
set_option maxRecDepth 100000

theorem take1 (t : ByteArray) (k : Nat) (h : k < t.size) : t.data.toList.take (k + 1) = t.data.toList.take k ++ [t[k]] := by
  have hk' : k < t.data.toList.length := by simpa using h
  rw [List.take_succ_eq_append_getElem hk']
  rfl
theorem ext1 (t : ByteArray) (k : Nat) (h : k < t.size) : (t.extract k (k + 1)).data.toList = [t[k]] := by
  have hk' : k < t.data.toList.length := by simpa using h
  rw [Lib.extract_data]
  have : t.data.toList.drop k = t.data.toList[k] :: t.data.toList.drop (k + 1) := List.drop_eq_getElem_cons hk'
  rw [show k + 1 - k = 1 by omega, this]
  rfl
theorem lit_text (t : ByteArray) (w : World) (hs : t.size ≤ 4000000) (hv : validV ⟨2, 0, t⟩ = true) :
    Calls Tryz.prog 53 #[.agg #[.int .i64 2, .int .i64 0, .string t]] w fun e w' => e = .returned (.string (⟨#[39]⟩ ++ quoB t ++ ⟨#[39]⟩)) ∧ Ext w w' := by
  go_enter Tryz.func53, Tryz.ntmps53
  go_wp2_with fail
  refine (rvalid_any 2 0 t _ (by omega)).mono ?_
  rintro e w1 ⟨rfl, hx1⟩
  obtain ⟨c0, c1, c2⟩ := box3 hx1
  have HX1 : Hid (Ext w w1) := ((Ext.refl w).alloc _).trans hx1
  rw [hv]
  clear hx1 hv
  go_wp2_with fail
  go_loop [3, 4] (fun sv i => ∃ (k : Nat) (X : ByteArray), k ≤ t.size ∧ i = .int .i64 k ∧ sv = .string X ∧ X.data.toList = 39 :: quo (t.data.toList.take k)) (fun _ i => t.size - (intOf i).toNat)
  case atStart => exact ⟨0, ⟨#[39]⟩, Nat.zero_le _, rfl, rfl, rfl⟩
  case round =>
    obtain ⟨k, X, hk, rfl, rfl, hX⟩ := hrel
    have hXs : X.size ≤ 8000001 := by
      have h1 := quo_len (t.data.toList.take k)
      have h2 : (t.data.toList.take k).length ≤ k := List.length_take_le _ _
      have : X.size = X.data.toList.length := rfl
      rw [this, hX, List.length_cons]
      omega
    have HX := hid hX
    clear hX
    by_cases hlt : k < t.size
    · have E1 := hid (ext1 t k hlt)
      have e2 : (t.extract k (k + 1)).size = 1 := by
        show (t.extract k (k + 1)).data.toList.length = 1
        rw [ext1 t k hlt]; rfl
      have HT := hid (take1 t k hlt)
      by_cases hq : t[k].toNat = 39
      · have b1 : ((t[k].toNat : Int) == 39) = true := by simp [hq]
        have HQ : Hid (t[k] = 39) := UInt8.toNat_inj.1 hq
        clear hq
        go_wp2_with fail
        go_round
        case rel =>
          refine ⟨k + 1, _, by omega, by go_num, rfl, ?_⟩
          rw [HT.out, quo_app, ByteArray.data_append, Array.toList_append, ByteArray.data_append, Array.toList_append, HX.out, E1.out, HQ.out]
          simp [quo]
        case measure => simp [intOf]; omega
      · have b1 : ((t[k].toNat : Int) == 39) = false := by simp; omega
        have HQ : Hid (¬ t[k] = 39) := fun e => hq (by rw [e]; rfl)
        clear hq
        go_wp2_with fail
        go_round
        case rel =>
          refine ⟨k + 1, _, by omega, by go_num, rfl, ?_⟩
          rw [HT.out, quo_app, ByteArray.data_append, Array.toList_append, HX.out, E1.out]
          simp [quo, HQ.out]
        case measure => simp [intOf]; omega
    · obtain rfl : k = t.size := by omega
      have HR : Hid (X = ⟨#[39]⟩ ++ quoB t) := by
        apply t_inj
        rw [HX.out, List.take_of_length_le (by simp)]
        simp [quoB]
      go_wp2_with fail
      go_ret
      exact ⟨ret_str (by rw [HR.out]), HX1.out⟩

theorem lit_any (k n : Int) (t : ByteArray) (w : World) (hs : t.size ≤ 4000000) (hn : -9223372036854775808 ≤ n ∧ n ≤ 9223372036854775807) :
    Calls Tryz.prog 53 #[.agg #[.int .i64 k, .int .i64 n, .string t]] w fun e w' => e = .returned (.string (fmtV ⟨k, n, t⟩)) ∧ Ext w w' := by
  have HE : Hid (fmtV ⟨k, n, t⟩ = if validV ⟨k, n, t⟩ = true then (if k = 0 then ⟨#[78, 85, 76, 76]⟩ else if k = 1 then itoB n else ⟨#[39]⟩ ++ quoB t ++ ⟨#[39]⟩) else ⟨#[]⟩) := rfl
  have HS : Hid (t.size ≤ 9223372036854775807) := by unfold Hid; omega
  have HNN := hid hn
  clear hn
  cases hv : validV ⟨k, n, t⟩
  · have HV := hid hv
    go_enter Tryz.func53, Tryz.ntmps53
    go_wp2_with fail
    refine (rvalid_any k n t _ HS.out).mono ?_
    rintro e w1 ⟨rfl, hx1⟩
    rw [hv]
    go_wp2_with fail
    go_ret
    exact ⟨ret_str (by rw [HE.out, HV.out]; rfl), ((Ext.refl w).alloc _).trans hx1⟩
  · have HV := hid hv
    by_cases h0 : k = 0
    · have b0 : (k == 0) = true := by simp [h0]
      have H0 := hid h0
      clear h0
      go_enter Tryz.func53, Tryz.ntmps53
      go_wp2_with fail
      refine (rvalid_any k n t _ HS.out).mono ?_
      rintro e w1 ⟨rfl, hx1⟩
      obtain ⟨c0, c1, c2⟩ := box3 hx1
      rw [hv]
      clear hv
      go_wp2_with fail
      go_ret
      exact ⟨ret_str (by rw [HE.out, HV.out, if_pos rfl, if_pos H0.out]), ((Ext.refl w).alloc _).trans hx1⟩
    · by_cases h1 : k = 1
      · have b0 : (k == 0) = false := by simp [h0]
        have b1 : (k == 1) = true := by simp [h1]
        have H0 : Hid (¬ k = 0) := h0
        have H1 := hid h1
        clear h0 h1
        go_enter Tryz.func53, Tryz.ntmps53
        go_wp2_with fail
        refine (rvalid_any k n t _ HS.out).mono ?_
        rintro e w1 ⟨rfl, hx1⟩
        obtain ⟨c0, c1, c2⟩ := box3 hx1
        rw [hv]
        clear hv
        go_wp2_with fail
        refine (num_any n _ HNN.out.1 HNN.out.2).mono ?_
        rintro e w2 ⟨rfl, hx2⟩
        go_wp2_with fail
        go_ret
        exact ⟨ret_str (by rw [HE.out, HV.out, if_pos rfl, if_neg H0.out, if_pos H1.out]), (((Ext.refl w).alloc _).trans hx1).trans hx2⟩
      · have hk2 : k = 2 := by
          rcases validV_k hv with h | h | h
          · exact absurd h h0
          · exact absurd h h1
          · exact h
        subst hk2
        have hn0 : n = 0 := by
          have h := hv
          unfold validV at h
          rw [if_neg (by dsimp only; omega), if_neg (by dsimp only; omega), if_pos rfl] at h
          simp only [Bool.and_eq_true, decide_eq_true_eq] at h
          exact h.1.1
        subst hn0
        have HQ : Hid (fmtV ⟨2, 0, t⟩ = ⟨#[39]⟩ ++ quoB t ++ ⟨#[39]⟩) := by unfold Hid; rw [HE.out, HV.out, if_pos rfl, if_neg h0, if_neg h1]
        rw [HQ.out]
        exact lit_text t w hs hv

end Go.Proofs.YtdjdhkbomhendaaGreatDoor
namespace Go.Proofs.YtdjdhkbomhendaaGreatDoor
set_option linter.unusedVariables false
set_option linter.unusedSimpArgs false
open Go.RowKit
set_option maxHeartbeats 1000000
set_option maxRecDepth 100000

theorem joinTail_snoc (sep : List UInt8) (r : List (List UInt8)) (y : List UInt8) : Lib.joinTail sep (r ++ [y]) = Lib.joinTail sep r ++ (sep ++ y) := by simp [Lib.joinTail]
theorem join_snoc (xs : List (List UInt8)) (y sep : List UInt8) (h : xs ≠ []) : Lib.join (xs ++ [y]) sep = Lib.join xs sep ++ (sep ++ y) := by
  match xs, h with
  | x :: r, _ =>
    rw [List.cons_append, Lib.join_cons, Lib.join_cons, joinTail_snoc, List.append_assoc]
/-- the first k values' texts, joined -/
def jn (l : List Val) (k : Nat) : List UInt8 := Lib.join ((fmtS (l.take k)).map (·.data.toList)) [44, 32]
theorem jn_zero (l : List Val) : jn l 0 = [] := by unfold jn; rw [List.take_zero]; exact Lib.join_nil _
theorem jn_len (w : World) (l : List Val) (k : Nat) (h : ∀ a ∈ l, Can w a.n) : (jn l k).length ≤ 42 * k := by
  unfold jn
  have h1 := join_len [44, 32] 40 ((fmtS (l.take k)).map (·.data.toList)) (fun x hx => by
    rw [List.mem_map] at hx
    obtain ⟨y, hy, rfl⟩ := hx
    unfold fmtS at hy
    rw [List.mem_map] at hy
    obtain ⟨a, ha, rfl⟩ := hy
    exact fmtV_size w a (h a (List.mem_of_mem_take ha)))
  rw [List.length_map] at h1
  have h2 : (fmtS (l.take k)).length ≤ k := by unfold fmtS; rw [List.length_map]; exact List.length_take_le _ _
  have h3 : (fmtS (l.take k)).length * (40 + [(44 : UInt8), 32].length) ≤ k * 42 := Nat.mul_le_mul h2 (Nat.le_refl _)
  omega
theorem jn_step (l : List Val) (k : Nat) (a : Val) (h : l[k]? = some a) : jn l (k + 1) = (if k = 0 then [] else jn l k ++ [44, 32]) ++ (fmtV a).data.toList := by
  obtain ⟨hi, rfl⟩ := List.getElem?_eq_some_iff.1 h
  have e : (fmtS (l.take (k + 1))).map (·.data.toList) = (fmtS (l.take k)).map (·.data.toList) ++ [(fmtV l[k]).data.toList] := by
    rw [List.take_succ_eq_append_getElem hi]
    unfold fmtS
    rw [List.map_append, List.map_append]
    rfl
  unfold jn
  rw [e]
  by_cases hk : k = 0
  · subst hk
    rw [if_pos rfl, List.take_zero]
    exact Lib.join_one _ _
  · rw [if_neg hk, join_snoc _ _ _ ?_, List.append_assoc]
    intro h0
    have := congrArg List.length h0
    rw [List.length_map] at this
    unfold fmtS at this
    rw [List.length_map, List.length_take, List.length_nil] at this
    omega

theorem rtext_any (A : Option Addr) (l : List Val) (n c : Nat) (w : World) (hl : ValsAt w A l) (hn : l.length = n) (hm : n ≤ 4000000) (hs : ∀ a ∈ l, a.t.size ≤ 4000000) (hc : ∀ a ∈ l, Can w a.n) :
    Calls Tryz.prog 67 #[.slice A n c] w fun e w' => e = .returned (.string (fmtRow l)) ∧ Ext w w' := by
  have HN := hid hn
  have HS := hid hs
  have HC := hid hc
  have HL := hid hl
  clear hn hs hc hl
  go_enter Tryz.func67, Tryz.ntmps67
  go_wp2_with fail
  go_loopw [3, 4] (fun sv i wr => ∃ (k : Nat) (X : ByteArray), k ≤ n ∧ i = .int .i64 k ∧ sv = .string X ∧ X.data.toList = jn l k ∧ (l.take k).all validV = true ∧ Ext w wr) (fun _ i _ => n - (intOf i).toNat)
  case atStart => exact ⟨0, ⟨#[]⟩, Nat.zero_le _, rfl, rfl, (jn_zero l).symm, rfl, Ext.refl w⟩
  case round =>
    obtain ⟨k, X, hk, rfl, rfl, hX, hv, hxr⟩ := hrel
    have hXs : X.size ≤ 168000000 := by
      have h1 := jn_len w l k HC.out
      have : X.size = X.data.toList.length := rfl
      rw [this, hX]
      omega
    have HXX := hid hX
    have HV := hid hv
    clear hv hX
    by_cases hlt : k < n
    · obtain ⟨a, ha⟩ : ∃ a, l[k]? = some a := ⟨_, List.getElem?_eq_getElem (by rw [HN.out]; exact hlt)⟩
      obtain ⟨b, off, rfl, c0, c1, c2⟩ := (HL.out.ext hxr) k a ha
      have hsz := HS.out a (List.mem_of_getElem? ha)
      have hcn := (HC.out a (List.mem_of_getElem? ha))
      obtain ⟨F, hF⟩ : ∃ F, F = fmtV a := ⟨_, rfl⟩
      have hfs : F.size ≤ 40 := by rw [hF]; exact fmtV_size w a hcn
      have hfa : ∀ W, Calls Tryz.prog 53 #[.agg #[.int .i64 a.k, .int .i64 a.n, .string a.t]] W fun e w' => e = .returned (.string F) ∧ Ext W w' := fun W => by rw [hF]; exact lit_any a.k a.n a.t W hsz hcn.bd
      have HE : Hid (F.toList.isEmpty = !(validV a)) := by rw [hF]; exact fmtV_empty a
      have HJ : Hid (jn l (k + 1) = (if k = 0 then [] else jn l k ++ [44, 32]) ++ F.data.toList) := by rw [hF]; exact jn_step l k a ha
      have HFA := hid hfa
      have HF := hid hF
      have HT : Hid (l.take (k + 1) = l.take k ++ [a]) := by
        obtain ⟨hi, rfl⟩ := List.getElem?_eq_some_iff.1 ha
        exact List.take_succ_eq_append_getElem hi
      have HA := hid ha
      have HXR := hid hxr
      clear ha hxr hF hfa hcn
      go_wp2_with fail
      refine (HFA.out _).mono ?_
      rintro e w1 ⟨rfl, hx1⟩
      have HX1 : Hid (Ext w w1) := HXR.out.trans hx1
      clear hx1
      cases hv : validV a
      · have he : F.toList.isEmpty = true := by rw [HE.out, hv]; rfl
        have HR : Hid (fmtRow l = ⟨#[]⟩) := by
          unfold Hid fmtRow
          rw [if_neg]
          intro hall
          rw [List.all_eq_true] at hall
          have := hall a (List.mem_of_getElem? HA.out)
          rw [hv] at this
          cases this
        go_wp2_with fail
        go_ret
        exact ⟨ret_str HR.out.symm, HX1.out⟩
      · have he : F.toList.isEmpty = false := by rw [HE.out, hv]; rfl
        have HVA : Hid ((l.take (k + 1)).all validV = true) := by unfold Hid; rw [HT.out, List.all_append, HV.out]; simp [hv]
        clear hv
        by_cases h0 : k = 0
        · have b0 : ¬ (0 : Int) < (k : Int) := by omega
          have HJ2 : Hid (jn l (k + 1) = X.data.toList ++ F.data.toList) := by
            unfold Hid
            rw [HJ.out, if_pos h0, HXX.out, h0, jn_zero]
          have H0 := hid h0
          clear h0
          go_wp2_with fail
          go_roundw
          case rel => exact ⟨k + 1, _, by omega, by go_num, rfl, by rw [HJ2.out, ByteArray.data_append, Array.toList_append], HVA.out, HX1.out⟩
          case measure => simp [intOf]; omega
        · have b0 : (0 : Int) < (k : Int) := by omega
          have HJ2 : Hid (jn l (k + 1) = X.data.toList ++ [44, 32] ++ F.data.toList) := by
            unfold Hid
            rw [HJ.out, if_neg h0, HXX.out]
          clear h0
          go_wp2_with fail
          go_roundw
          case rel => exact ⟨k + 1, _, by omega, by go_num, rfl, by rw [HJ2.out, ByteArray.data_append, Array.toList_append, ByteArray.data_append, Array.toList_append], HVA.out, HX1.out⟩
          case measure => simp [intOf]; omega
    · obtain rfl : k = n := by omega
      have HR : Hid (fmtRow l = ⟨#[40]⟩ ++ X ++ ⟨#[41]⟩) := by
        have h1 := HV.out
        have h2 := HXX.out
        unfold jn at h2
        rw [List.take_of_length_le (by rw [HN.out]; exact Nat.le_refl _)] at h1 h2
        have e : X = ⟨(Lib.join ((fmtS l).map (·.data.toList)) [44, 32]).toArray⟩ := t_inj (by rw [h2])
        unfold Hid fmtRow
        rw [if_pos h1, ← e]
      go_wp2_with fail
      go_ret
      exact ⟨ret_str HR.out.symm, hxr⟩

end Go.Proofs.YtdjdhkbomhendaaGreatDoor
namespace Go.Proofs.YtdjdhkbomhendaaGreatDoor
set_option linter.unusedVariables false
set_option linter.unusedSimpArgs false
set_option maxHeartbeats 400000

theorem idx_no : ∀ l : List UInt8, (39 : UInt8) ∉ l → Lib.index l [39, 39] = -1
  | [], _ => rfl
  | b :: l, h => by
    have hb : ¬ b = 39 := fun e => h (by rw [e]; exact List.mem_cons_self ..)
    have ih := idx_no l (fun hm => h (List.mem_cons_of_mem _ hm))
    rw [Lib.index, ih]
    have : [39, 39].isPrefixOf (b :: l) = false := by simp [List.isPrefixOf]; try (intro e; exact absurd e.symm hb)
    rw [this]
    rfl
theorem idx_at : ∀ (a r : List UInt8), (39 : UInt8) ∉ a → Lib.index (a ++ 39 :: 39 :: r) [39, 39] = a.length
  | [], r, _ => by simp [Lib.index, List.isPrefixOf]
  | b :: a, r, h => by
    have hb : ¬ b = 39 := fun e => h (by rw [e]; exact List.mem_cons_self ..)
    have ih := idx_at a r (fun hm => h (List.mem_cons_of_mem _ hm))
    rw [List.cons_append, Lib.index, ih]
    have : [39, 39].isPrefixOf (b :: (a ++ 39 :: 39 :: r)) = false := by simp [List.isPrefixOf]; try (intro e; exact absurd e.symm hb)
    rw [this]
    have e2 : ((a.length : Int) == -1) = false := by simp <;> omega
    rw [e2]
    simp
theorem unq_pre : ∀ (t a : List UInt8), (39 : UInt8) ∉ a → Lib.replaceK [39, 39] [39] (Lib.count (a ++ quo t) [39, 39]) (a ++ quo t) = a ++ t
  | [], a, h => by
    rw [quo, List.append_nil, Lib.count_miss (idx_no a h)]
    rfl
  | c :: r, a, h => by
    rw [quo]
    by_cases hc : c = 39
    · subst hc
      rw [if_pos rfl]
      have hi := idx_at a (quo r) h
      rw [Lib.count_hit (by simp) hi, Nat.add_comm 1, Lib.replaceK_hit _ _ _ _ a.length hi]
      have hd : (a ++ 39 :: 39 :: quo r).drop (a.length + [39, 39].length) = quo r := by simp [List.drop_append]
      have hd2 : (a ++ 39 :: 39 :: quo r).drop (a.length + [(39 : UInt8), 39].length) = quo r := hd
      rw [hd2]
      have ih := unq_pre r [] (by simp)
      simp only [List.nil_append] at ih
      rw [ih]
      simp
    · rw [if_neg hc]
      have ih := unq_pre r (a ++ [c]) (by simp [h, Ne.symm hc])
      simpa using ih
def unq (s : List UInt8) : List UInt8 := Lib.replaceAll s [39, 39] [39]
theorem unq_K (s : List UInt8) : unq s = Lib.replaceK [39, 39] [39] (Lib.count s [39, 39]) s := by
  unfold unq Lib.replaceAll Lib.replace
  rw [if_neg (by decide)]
  have : Lib.replaceNum s [39, 39] (-1) = Lib.count s [39, 39] := by unfold Lib.replaceNum; rw [if_pos (.inl (by decide))]
  rw [this]
theorem unq_quo (t : List UInt8) : unq (quo t) = t := by
  rw [unq_K]
  have := unq_pre t [] (by simp)
  simpa using this
theorem repK_len (old new : List UInt8) : ∀ (k : Nat) (s : List UInt8), (Lib.replaceK old new k s).length ≤ s.length + k * new.length
  | 0, s => by simp [Lib.replaceK]
  | k + 1, s => by
    rw [Lib.replaceK]
    split
    · omega
    · have ih := repK_len old new k (s.drop ((Lib.index s old).toNat + old.length))
      rw [List.length_append, List.length_append, List.length_take]
      rw [List.length_drop] at ih
      rw [Nat.succ_mul]
      omega
theorem unq_len (s : List UInt8) : (unq s).length ≤ 2 * s.length + 1 := by
  rw [unq_K]
  have h := repK_len [39, 39] [39] (Lib.count s [39, 39]) s
  have h2 := Lib.count_le s [39, 39]
  simp only [List.length_singleton, Nat.mul_one] at h
  omega

theorem pu_app : ∀ (xs ys : List UInt8) (acc : Nat), Lib.parseUint10 acc (xs ++ ys) = match Lib.parseUint10 acc xs with | .ok v => Lib.parseUint10 v ys | .range => .range | e => e
  | [], ys, acc => rfl
  | c :: r, ys, acc => by
    rw [List.cons_append, Lib.parseUint10, Lib.parseUint10]
    split
    · split
      · rfl
      · split
        · rfl
        · exact pu_app r ys _
    · rfl
theorem pu_dec (u : Nat) (h : u < 18446744073709551616) : Lib.parseUint10 0 (Lib.decDigits u) = .ok u := by
  induction u using Nat.strongRecOn with
  | _ u ih =>
    have hb : ∀ d, d < 10 → (UInt8.ofNat (48 + d)).toNat = 48 + d := fun d hd => by simp [UInt8.toNat_ofNat']; omega
    by_cases h9 : u < 10
    · rw [dec_small h9, Lib.parseUint10, hb u h9, if_pos (by omega), if_neg (by omega), if_neg (by omega)]
      show Lib.NumEnd.ok _ = _
      congr 1
      omega
    · rw [dec_big h9, pu_app, ih (u / 10) (by omega) (by omega)]
      dsimp only
      rw [Lib.parseUint10, hb _ (Nat.mod_lt _ (by omega)), if_pos (by omega), if_neg (by omega), if_neg (by omega)]
      show Lib.NumEnd.ok _ = _
      congr 1
      omega
theorem dec_head (u : Nat) : ∃ c r, Lib.decDigits u = c :: r ∧ 48 ≤ c.toNat ∧ c.toNat ≤ 57 := by
  induction u using Nat.strongRecOn with
  | _ u ih =>
    by_cases h9 : u < 10
    · refine ⟨_, _, dec_small h9, ?_⟩
      simp [UInt8.toNat_ofNat']
      omega
    · obtain ⟨c, r, e, h1, h2⟩ := ih (u / 10) (by omega)
      exact ⟨c, r ++ _, by rw [dec_big h9, e]; rfl, h1, h2⟩
theorem pi_itoa (n : Int) (h0 : -9223372036854775808 ≤ n) (h1 : n ≤ 9223372036854775807) : Lib.parseIntB 64 (Lib.itoa n) = .ok n := by
  rw [Lib.parseIntB_64]
  unfold Lib.itoa
  by_cases hn : n < 0
  · rw [if_pos hn]
    have hp := pu_dec n.natAbs (by omega)
    obtain ⟨c, r, e, _⟩ := dec_head n.natAbs
    unfold Lib.atoiAll
    dsimp only
    rw [if_pos (by decide)]
    unfold Lib.parseMag
    rw [if_neg (by rw [e]; simp), hp]
    dsimp only
    rw [if_neg (fun h => h.1 (by decide)), if_neg (by omega), if_pos (by decide)]
    congr 1
    omega
  · rw [if_neg hn]
    have hp := pu_dec n.toNat (by omega)
    obtain ⟨c, r, e, hc1, hc2⟩ := dec_head n.toNat
    rw [e] at hp ⊢
    unfold Lib.atoiAll
    dsimp only
    rw [if_neg (by omega)]
    unfold Lib.parseMag
    rw [if_neg (by simp), hp]
    dsimp only
    rw [if_neg (by omega), if_neg (by omega), if_neg (by omega)]
    congr 1
    omega

end Go.Proofs.YtdjdhkbomhendaaGreatDoor
namespace Go.Proofs.YtdjdhkbomhendaaGreatDoor
set_option linter.unusedVariables false
set_option linter.unusedSimpArgs false
set_option maxHeartbeats 400000

def unqB (s : ByteArray) : ByteArray := ⟨(unq s.data.toList).toArray⟩
theorem unqB_size (s : ByteArray) : (unqB s).size ≤ 2 * s.size + 1 := by
  have := unq_len s.data.toList
  show ((unq s.data.toList).toArray).size ≤ 2 * s.data.size + 1
  simpa using this
def pc (s : ByteArray) : Val :=
  match Lib.parseIntB 64 s.data.toList with
  | .ok n => ⟨1, n, ⟨#[]⟩⟩
  | _ => if 2 ≤ s.size ∧ s.data.toList.head? = some 39 then ⟨2, 0, unqB (s.extract 1 (s.size - 1))⟩ else ⟨0, 0, ⟨#[]⟩⟩
theorem pc_ok {s : ByteArray} {n : Int} (h : Lib.parseIntB 64 s.data.toList = .ok n) : pc s = ⟨1, n, ⟨#[]⟩⟩ := by
  unfold pc
  rw [h]
theorem pc_no {s : ByteArray} (h : ∀ v, Lib.parseIntB 64 s.data.toList ≠ .ok v) : pc s = if 2 ≤ s.size ∧ s.data.toList.head? = some 39 then ⟨2, 0, unqB (s.extract 1 (s.size - 1))⟩ else ⟨0, 0, ⟨#[]⟩⟩ := by
  unfold pc
  split
  · rename_i n e
    exact absurd e (h n)
  · rfl
theorem ok_bd {l : List UInt8} {n : Int} (h : Lib.parseIntB 64 l = .ok n) : -9223372036854775808 ≤ n ∧ n ≤ 9223372036854775807 := by
  rw [Lib.parseIntB_64] at h
  unfold Lib.atoiAll at h
  split at h
  · cases h
  · dsimp only at h
    split at h
    · cases h
    · cases h
    · split at h
      · cases h
      · split at h
        · cases h
        · injection h with h
          split at h <;> omega
theorem no_quote (r : List UInt8) (v : Int) : Lib.parseIntB 64 (39 :: r) ≠ .ok v := by
  rw [Lib.parseIntB_64]
  unfold Lib.atoiAll
  dsimp only
  rw [if_neg (by decide)]
  unfold Lib.parseMag
  rw [if_neg (by simp), Lib.parseUint10, if_neg (by decide)]
  simp
theorem no_null (v : Int) : Lib.parseIntB 64 [78, 85, 76, 76] ≠ .ok v := by
  rw [Lib.parseIntB_64]
  unfold Lib.atoiAll
  dsimp only
  rw [if_neg (by decide)]
  unfold Lib.parseMag
  rw [if_neg (by simp), Lib.parseUint10, if_neg (by decide)]
  simp
theorem no_empty (v : Int) : Lib.parseIntB 64 [] ≠ .ok v := by
  rw [Lib.parseIntB_64]
  unfold Lib.atoiAll
  simp
theorem empty_of {t : ByteArray} (h : (N t).isEmpty = true) : t = ⟨#[]⟩ := by
  rw [empty_size] at h
  simp only [decide_eq_true_eq] at h
  apply t_inj
  have : t.data.toList = [] := List.eq_nil_of_length_eq_zero h
  rw [this]
theorem fmtV_of {a : Val} (h : validV a = true) : fmtV a = if a.k = 0 then ⟨#[78, 85, 76, 76]⟩ else if a.k = 1 then itoB a.n else ⟨#[39]⟩ ++ quoB a.t ++ ⟨#[39]⟩ := by
  unfold fmtV
  rw [if_pos h]
theorem fmtV_no {a : Val} (h : validV a = false) : fmtV a = ⟨#[]⟩ := by
  unfold fmtV
  rw [h]
  rfl
theorem fmtV_ne {a : Val} (h : validV a = true) : fmtV a ≠ ⟨#[]⟩ := by
  intro e
  have := fmtV_empty a
  rw [e, h] at this
  rw [ByteArray.toList_eq] at this
  exact absurd this (by decide)
theorem cand (a : Val) (s : ByteArray) (h : validV a = true) (h0 : -9223372036854775808 ≤ a.n) (h1 : a.n ≤ 9223372036854775807) (hs : fmtV a = s) : pc s = a := by
  rw [fmtV_of h] at hs
  obtain ⟨k, n, t⟩ := a
  dsimp only at hs h0 h1
  unfold validV at h
  dsimp only at h
  by_cases k0 : k = 0
  · rw [if_pos k0] at hs h
    simp only [Bool.and_eq_true, decide_eq_true_eq] at h
    obtain ⟨rfl, ht⟩ := h
    obtain rfl := empty_of ht
    subst hs k0
    rw [pc_no no_null, if_neg (by decide)]
  · rw [if_neg k0] at hs h
    by_cases k1 : k = 1
    · rw [if_pos k1] at hs h
      obtain rfl := empty_of h
      subst hs k1
      exact pc_ok (pi_itoa n h0 h1)
    · rw [if_neg k1] at hs h
      by_cases k2 : k = 2
      · rw [if_pos k2] at h
        simp only [Bool.and_eq_true, decide_eq_true_eq] at h
        obtain ⟨⟨rfl, _⟩, _⟩ := h
        have hd : s.data.toList = 39 :: (quo t.data.toList ++ [39]) := by
          rw [← hs, ByteArray.data_append, Array.toList_append, ByteArray.data_append, Array.toList_append]
          simp [quoB]
        have hsz : s.size = (quo t.data.toList).length + 2 := by
          show s.data.toList.length = _
          rw [hd]; simp
        subst k2
        rw [pc_no (fun v => by rw [hd]; exact no_quote _ v), if_pos ⟨by omega, by rw [hd]; rfl⟩]
        have : unqB (s.extract 1 (s.size - 1)) = t := by
          apply t_inj
          show unq (s.extract 1 (s.size - 1)).data.toList = _
          rw [Lib.extract_data, hd, hsz]
          have : (List.take ((quo t.data.toList).length + 2 - 1 - 1) (List.drop 1 (39 :: (quo t.data.toList ++ [39])))) = quo t.data.toList := by
            rw [show (quo t.data.toList).length + 2 - 1 - 1 = (quo t.data.toList).length by omega]
            simp
          rw [this]
          exact unq_quo _
        rw [this]
      · rw [if_neg k2] at h
        cases h
theorem pc_size (s : ByteArray) : (pc s).t.size ≤ 2 * s.size + 1 := by
  unfold pc
  split
  · exact Nat.zero_le _
  · split
    · refine Nat.le_trans (unqB_size _) ?_
      have : (s.extract 1 (s.size - 1)).size ≤ s.size := by
        rw [ByteArray.size_extract]; omega
      omega
    · exact Nat.zero_le _
theorem pc_bd (s : ByteArray) : -9223372036854775808 ≤ (pc s).n ∧ (pc s).n ≤ 9223372036854775807 := by
  unfold pc
  split
  · rename_i e
    exact ok_bd e
  · split
    · exact ⟨by show (_ : Int) ≤ 0; omega, by show (0 : Int) ≤ _; omega⟩
    · exact ⟨by show (_ : Int) ≤ 0; omega, by show (0 : Int) ≤ _; omega⟩
theorem pc_empty : fmtV (pc ⟨#[]⟩) ≠ ⟨#[]⟩ := by
  rw [pc_no no_empty, if_neg (by decide)]
  exact fmtV_ne (by decide)
/-- what Parse answers -/
def prs (s : ByteArray) : Val × Int := if fmtV (pc s) = s then (pc s, 0) else (⟨0, 0, ⟨#[]⟩⟩, 2)
theorem prs_of (a : Val) (h : validV a = true) (h0 : -9223372036854775808 ≤ a.n) (h1 : a.n ≤ 9223372036854775807) : prs (fmtV a) = (a, 0) := by
  unfold prs
  have := cand a (fmtV a) h h0 h1 rfl
  rw [this, if_pos rfl]
theorem prs_no (a : Val) (h : validV a = false) : prs (fmtV a) = (⟨0, 0, ⟨#[]⟩⟩, 2) := by
  rw [fmtV_no h]
  unfold prs
  rw [if_neg pc_empty]

end Go.Proofs.YtdjdhkbomhendaaGreatDoor
