/-
  Walks: numbers and texts written.
-/
import Derived.Test.YtcdnodjcnofogaaGreatDoorW14
import Derived.WalkSmall
namespace Go.Proofs.YtcdnodjcnofogaaGreatDoor
open Go.RowKit
set_option linter.unusedVariables false
set_option linter.unusedSimpArgs false
set_option maxHeartbeats 4000000
set_option maxRecDepth 100000

theorem t_inj {a b : ByteArray} (h : a.data.toList = b.data.toList) : a = b := by
  obtain ⟨⟨l⟩⟩ := a
  obtain ⟨⟨m⟩⟩ := b
  simp at h
  rw [h]
theorem ext_grow (w : World) (k : Nat) (os : Array Obj) : Ext w (Go.Sort.grow (w.drewN k) os) :=
  ⟨rfl, rfl, rfl, by simp [Go.Sort.grow], fun i hi => by
    show (w.heap ++ os)[i]? = w.heap[i]?
    rw [Array.getElem?_append_left hi]⟩
/-- the table of the powers of ten is as the library lays it -/
def Tab (w : World) : Prop := Lib.TabIs Tryz.prog w "internal/strconv.uint64pow10" .u64 Lib.pow10Tab ∧ 2 ≤ w.heap.size
theorem gTab : Tryz.prog.globalNamed "internal/strconv.uint64pow10" = some 1 := by kernel_rfl
theorem Tab.ext {w w' : World} (h : Tab w) (hx : Ext w w') : Tab w' :=
  ⟨var?_below hx gTab (by have := h.2; omega) h.1, Nat.le_trans h.2 hx.size⟩
/-- a number that FormatInt can be asked for: a small one, or the table is there -/
def Can (w : World) (n : Int) : Prop := (0 ≤ n ∧ n < 100) ∨ (Tab w ∧ -9223372036854775808 ≤ n ∧ n ≤ 9223372036854775807)
theorem Can.ext {w w' : World} {n : Int} (h : Can w n) (hx : Ext w w') : Can w' n := by
  rcases h with h | ⟨h, k⟩
  · exact .inl h
  · exact .inr ⟨h.ext hx, k⟩
theorem fmtint_any (n : Int) (w : World) (h : Can w n) : Calls Tryz.prog 171 #[.int .i64 n, .int .i64 10] w fun e w' => e = .returned (.string (itoB n)) ∧ Ext w w' := by
  rcases h with ⟨h0, h1⟩ | ⟨ht, h0, h1⟩
  · obtain ⟨i, rfl⟩ : ∃ i : Nat, n = (i : Int) := ⟨n.toNat, by omega⟩
    refine (Tryz.strconv_FormatInt_10_small i (by omega) w).mono ?_
    rintro e w' ⟨rfl, rfl⟩
    refine ⟨ret_str ?_, Ext.refl _⟩
    unfold itoB Lib.itoa
    rw [if_neg (by omega)]
    rfl
  · refine (Tryz.strconv_FormatInt_10 n h0 h1 w ht.1).mono ?_
    rintro e w' ⟨rfl, k, os, rfl⟩
    exact ⟨rfl, ext_grow w k os⟩
theorem countB_le (t : ByteArray) : Lib.countB t ⟨#[39]⟩ ≤ t.size + 1 := Lib.count_le t.data.toList [39]
theorem repl_any (t : ByteArray) (w : World) (h : Sh w) (hs : t.size ≤ 1000) : Calls Tryz.prog 153 #[.string t, .string ⟨#[39]⟩, .string ⟨#[39, 39]⟩] w fun e w' => e = .returned (.string (quoB t)) ∧ Ext w w' := by
  obtain ⟨m, hm⟩ := h
  have hc := countB_le t
  have e2 : (⟨#[39, 39]⟩ : ByteArray).size = 2 := rfl
  refine (Tryz.strings_ReplaceAll t ⟨#[39]⟩ ⟨#[39, 39]⟩ m w (by omega) hm (Nat.le_refl 1) (by rw [e2]; omega)).mono ?_
  rintro e w' ⟨rfl, hx⟩
  refine ⟨ret_str ?_, hx⟩
  show (⟨(Lib.replaceAll t.data.toList [39] [39, 39]).toArray⟩ : ByteArray) = quoB t
  rw [repAll_quo]
  rfl
theorem number_any (n : Int) (w : World) (h : Can w n) : Calls Tryz.prog 135 #[.int .i64 n] w fun e w' => e = .returned (.string (itoB n)) ∧ Ext w w' := by
  have H := hid (fmtint_any n w h)
  clear h
  go_enter Tryz.func135, Tryz.ntmps135
  go_wp2_with (go_at_call 171; refine H.out.mono ?_; rintro _ w2 ⟨rfl, hx2⟩)
  go_ret
  exact ⟨rfl, hx2⟩

theorem dec_small {u : Nat} (h : u < 10) : Lib.decDigits u = [UInt8.ofNat (48 + u)] := by rw [Lib.decDigits, dif_pos h]
theorem dec_big {u : Nat} (h : ¬ u < 10) : Lib.decDigits u = Lib.decDigits (u / 10) ++ [UInt8.ofNat (48 + u % 10)] := by rw [Lib.decDigits, dif_neg h]
theorem dec_len (u : Nat) (h : u < 18446744073709551616) : (Lib.decDigits u).length ≤ 20 := by rw [Lib.decDigits_length]; exact Lib.nDigits_le20 u h
theorem S_data (l : List Nat) : (S l).data.toList = l.map UInt8.ofNat := by simp [S]
def decB (u : Nat) : ByteArray := ⟨(Lib.decDigits u).toArray⟩
theorem decB_size (u : Nat) (h : u < 18446744073709551616) : (decB u).size ≤ 20 := by
  have := dec_len u h
  show ((Lib.decDigits u).toArray).size ≤ 20
  simpa using this
theorem decB_small {u : Nat} (h : u < 10) : decB u = S [48 + u] := by
  unfold decB S
  rw [dec_small h]; rfl
theorem decB_big {u : Nat} (h : ¬ u < 10) : decB u = decB (u / 10) ++ decB (u % 10) := by
  apply t_inj
  unfold decB
  rw [dec_big h, dec_small (Nat.mod_lt _ (by omega))]
  simp
theorem rnum_pos : ∀ (u : Nat) (w : World), u ≤ 9223372036854775807 → Calls Tryz.prog 108 #[.int .i64 (u : Int)] w fun e w' => e = .returned (.string (decB u)) ∧ Ext w w' := by
  intro u
  induction u using Nat.strongRecOn with
  | ind u ih =>
    intro w hu
    have d0 : decide ((u : Int) < 0) = false := by simp
    by_cases h9 : u < 10
    · have d1 : decide ((u : Int) < 10) = true := by simp; omega
      have hcv := conv_one (P := Tryz.prog) 142 9 5 (48 + u) Tryz.underlying142 Tryz.underlying5 Tryz.underlying9
      have hcast : ((48 + u : Nat) : Int) = 48 + (u : Int) := by omega
      rw [hcast, ← decB_small h9] at hcv
      clear hcast
      have h9' : (u : Int) < 10 := by omega
      clear h9 ih
      generalize decB u = C at *
      go_enter Tryz.func108, Tryz.ntmps108
      go_wp2_with fail
      go_ret
      exact ⟨rfl, (Ext.refl w).alloc _⟩
    · have d1 : decide ((u : Int) < 10) = false := by simp; omega
      have HB := hid (decB_big h9)
      have H1 := hid (fun W => ih (u / 10) (by omega) W (by omega))
      have H2 := hid (fun W => ih (u % 10) (by have := Nat.mod_lt u (show 10 > 0 by omega); omega) W (by omega))
      have s1 := decB_size (u / 10) (by omega)
      have s2 := decB_size (u % 10) (by omega)
      have e1 : ((u / 10 : Nat) : Int) = (u : Int) / 10 := by omega
      have e2 : ((u % 10 : Nat) : Int) = (u : Int) % 10 := by omega
      rw [e1] at H1
      rw [e2] at H2
      clear e1 e2 ih
      generalize decB (u / 10) = X at *
      generalize decB (u % 10) = Y at *
      have s3 : X.size ≤ 1000 := by omega
      have s4 : Y.size ≤ 1000 := by omega
      have H9 := hid h9
      clear h9 s1 s2
      go_enter Tryz.func108, Tryz.ntmps108
      go_wp2_with (first | (go_at_call 108; (with_reducible refine (H1.out _).mono ?_); rintro _ w2 ⟨rfl, hx2⟩) | (go_at_call 108; (with_reducible refine (H2.out _).mono ?_); rintro _ w3 ⟨rfl, hx3⟩))
      go_ret
      exact ⟨ret_str HB.out.symm, hx2.trans hx3⟩
theorem itoB_pos (u : Nat) : itoB (u : Int) = decB u := by
  unfold itoB Lib.itoa decB
  rw [if_neg (by omega)]; rfl
theorem itoB_neg (n : Int) (h : n < 0) : itoB n = ⟨#[45]⟩ ++ decB n.natAbs := by
  apply t_inj
  unfold itoB Lib.itoa decB
  rw [if_pos h]
  simp
theorem rnum_any (n : Int) (w : World) (h0 : -9223372036854775808 < n) (h1 : n ≤ 9223372036854775807) : Calls Tryz.prog 108 #[.int .i64 n] w fun e w' => e = .returned (.string (itoB n)) ∧ Ext w w' := by
  by_cases hn : n < 0
  · have H := hid (fun W => rnum_pos n.natAbs W (by omega))
    have e1 : (n.natAbs : Int) = -n := by omega
    rw [e1] at H
    have HI := hid (itoB_neg n hn)
    have s := decB_size n.natAbs (by omega)
    have d0 : decide (n < 0) = true := by simpa using hn
    generalize decB n.natAbs = X at *
    have s1 : X.size ≤ 1000 := by omega
    clear e1 s
    go_enter Tryz.func108, Tryz.ntmps108
    go_wp2_with (go_at_call 108; refine (H.out _).mono ?_; rintro _ w2 ⟨rfl, hx2⟩)
    go_ret
    exact ⟨ret_str HI.out.symm, hx2⟩
  · obtain ⟨u, rfl⟩ : ∃ u : Nat, n = (u : Int) := ⟨n.toNat, by omega⟩
    rw [itoB_pos]
    exact rnum_pos u w (by omega)
theorem quo_snoc (s : ByteArray) (k : Nat) (h : k < s.size) : quo (s.data.toList.take (k + 1)) = quo (s.data.toList.take k) ++ (if s[k] = 39 then [39, 39] else [s[k]]) := by
  have hl : k < s.data.toList.length := by simpa using h
  rw [List.take_succ_eq_append_getElem hl, quo_app]
  congr 1
theorem ext1 (s : ByteArray) (k : Nat) (h : k < s.size) : (s.extract k (k + 1)).data.toList = [s[k]] := by
  rw [Lib.extract_data]
  have hl : k < s.data.toList.length := by simpa using h
  rw [show k + 1 - k = 1 by omega, List.drop_eq_getElem_cons hl, Array.getElem_toList]
  rfl
theorem rquote_any (s : ByteArray) (w : World) (hs : s.size ≤ 1000) : Calls Tryz.prog 109 #[.string s] w fun e w' => e = .returned (.string (⟨#[39]⟩ ++ quoB s ++ ⟨#[39]⟩)) ∧ Ext w w' := by
  have HQ : Hid (∀ X : ByteArray, X.data.toList = 39 :: quo s.data.toList → X ++ ⟨#[39]⟩ = ⟨#[39]⟩ ++ quoB s ++ ⟨#[39]⟩) := by
    intro X hX
    apply t_inj
    rw [ByteArray.data_append, Array.toList_append, hX]
    unfold quoB
    simp
  go_enter Tryz.func109, Tryz.ntmps109
  go_wp2_with fail
  go_loop [3, 4] (fun sv iv => ∃ (k : Nat) (X : ByteArray), k ≤ s.size ∧ iv = .int .i64 k ∧ sv = .string X ∧ X.data.toList = 39 :: quo (s.data.toList.take k)) (fun _ i => s.size - (intOf i).toNat)
  case atStart => exact ⟨0, ⟨#[39]⟩, Nat.zero_le _, rfl, rfl, rfl⟩
  case round =>
    obtain ⟨k, X, hk, rfl, rfl, hX⟩ := hrel
    have HX := hid hX
    have hsz : X.size ≤ 2001 := by
      have h1 := quo_len (s.data.toList.take k)
      have h2 : (s.data.toList.take k).length ≤ k := by rw [List.length_take]; omega
      have h3 : X.size = X.data.toList.length := rfl
      rw [h3, hX, List.length_cons]
      omega
    clear hX
    by_cases hlt : k < s.size
    · have HS := hid (quo_snoc s k hlt)
      have HE := hid (ext1 s k hlt)
      have hes : (s.extract k (k + 1)).size ≤ 1 := by
        have : (s.extract k (k + 1)).size = (s.extract k (k + 1)).data.toList.length := rfl
        rw [this, HE.out]; simp
      have i0 : (0 : Int) ≤ (k : Int) := by omega
      by_cases hc : s[k] = 39
      · have b1 : ((s[k].toNat : Int) == 39) = true := by rw [hc]; rfl
        have HR : Hid (((X ++ ⟨#[39]⟩) ++ s.extract k (k + 1)).data.toList = 39 :: quo (s.data.toList.take (k + 1))) := by
          unfold Hid
          rw [HS.out, if_pos hc, ByteArray.data_append, Array.toList_append, ByteArray.data_append, Array.toList_append, HX.out, HE.out, hc]
          simp
        have hs2 : (X ++ ⟨#[39]⟩ : ByteArray).size ≤ 2002 := by rw [ByteArray.size_append]; show X.size + 1 ≤ 2002; omega
        clear hc HS HE
        go_wp2_with fail
        go_round
        case rel => exact ⟨k + 1, _, by omega, by go_num, rfl, HR.out⟩
        case measure => simp [intOf]; omega
      · have b1 : ((s[k].toNat : Int) == 39) = false := by
          rw [beq_eq_false_iff_ne]
          intro h
          apply hc
          apply UInt8.toNat_inj.1
          show s[k].toNat = 39
          omega
        have HR : Hid ((X ++ s.extract k (k + 1)).data.toList = 39 :: quo (s.data.toList.take (k + 1))) := by
          unfold Hid
          rw [HS.out, if_neg hc, ByteArray.data_append, Array.toList_append, HX.out, HE.out]
          simp
        clear hc HS HE
        go_wp2_with fail
        go_round
        case rel => exact ⟨k + 1, _, by omega, by go_num, rfl, HR.out⟩
        case measure => simp [intOf]; omega
    · have HR := hid (HQ.out X (by rw [HX.out, List.take_of_length_le (by simp; omega)]))
      go_wp2_with fail
      go_ret
      exact ⟨ret_str HR.out, Ext.refl w⟩
end Go.Proofs.YtcdnodjcnofogaaGreatDoor
