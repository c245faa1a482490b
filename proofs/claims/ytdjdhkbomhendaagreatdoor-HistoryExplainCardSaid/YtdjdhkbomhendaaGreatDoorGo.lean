/-
  The text of a row is ASCII; no program in sight. · Walks over history: parseRow. · Walks over history: parseRow.
-/
import Derived.Test.YtdjdhkbomhendaaGreatDoorGn
import Derived.Test.YtdjdhkbomhendaaGreatDoorGe
import Derived.Test.YtdjdhkbomhendaaGreatDoorApp
import Derived.Test.YtdjdhkbomhendaaGreatDoorGi
import Derived.Deep.RegionHeldLaw
import Derived.Test.YtdjdhkbomhendaaGreatDoorGb
namespace Go.Proofs.YtdjdhkbomhendaaGreatDoor
open Go.RowKit
set_option linter.unusedVariables false

theorem asc_app {a b : List UInt8} (ha : Asc a) (hb : Asc b) : Asc (a ++ b) := fun c hc => by
  rcases List.mem_append.1 hc with h | h
  · exact ha c h
  · exact hb c h
theorem asc_join (s : List UInt8) (hs : Asc s) (l : List (List UInt8)) (h : ∀ w ∈ l, Asc w) : Asc (Lib.join l s) := by
  cases l with
  | nil => intro c hc; simp [Lib.join_nil] at hc
  | cons a r =>
    rw [Lib.join_cons]
    refine asc_app (h a (List.mem_cons_self ..)) ?_
    have : ∀ r : List (List UInt8), (∀ w ∈ r, Asc w) → Asc (Lib.joinTail s r) := by
      intro r
      induction r with
      | nil => intro _ c hc; simp [Lib.joinTail] at hc
      | cons b r ih =>
        intro hr
        have e : Lib.joinTail s (b :: r) = (s ++ b) ++ Lib.joinTail s r := by simp [Lib.joinTail]
        rw [e]
        exact asc_app (asc_app hs (hr b (List.mem_cons_self ..))) (ih fun w hw => hr w (List.mem_cons_of_mem _ hw))
    exact this r fun w hw => h w (List.mem_cons_of_mem _ hw)
theorem asc_num (n : Int) : Asc (itoB n).data.toList := fun c hc => by
  rcases itoa_mem n c hc with rfl | h
  · decide
  · omega
theorem asc_quo : ∀ t : List UInt8, Asc t → Asc (quo t)
  | [], _ => by intro c hc; simp [quo] at hc
  | d :: t, h => by
    have ih := asc_quo t fun c hc => h c (by simp [hc])
    have hd := h d (by simp)
    rw [quo]
    intro c hc
    split at hc
    · simp only [List.mem_cons] at hc
      rcases hc with rfl | rfl | hc
      · decide
      · decide
      · exact ih c hc
    · simp only [List.mem_cons] at hc
      rcases hc with rfl | hc
      · exact hd
      · exact ih c hc
theorem asc_fmtV {v : Val} (h : validV v = true) : Asc (fmtV v).data.toList := by
  rcases validV_k h with hk | hk | hk
  · rw [(null_of h hk).2]
    intro c hc
    have : c = 78 ∨ c = 85 ∨ c = 76 ∨ c = 76 := by simpa using hc
    rcases this with rfl | rfl | rfl | rfl <;> decide
  · rw [(int_of h hk).2]
    exact asc_num v.n
  · rw [(text_of h hk).2]
    have ht : Asc v.t.data.toList := by
      unfold validV at h
      rw [if_neg (by omega), if_neg (by omega), if_pos hk] at h
      simp only [Bool.and_eq_true, decide_eq_true_eq] at h
      intro c hc
      obtain ⟨i, hi, hc⟩ := List.getElem_of_mem hc
      have hi' : i < v.t.size := by simpa using hi
      rcases Nat.lt_or_ge c.toNat 128 with h1 | h1
      · exact h1
      · exfalso
        have hp := prn_no v.t i hi' (.inr (by
          have : v.t[i] = c := hc
          rw [this]; omega))
        rw [h.1.2] at hp
        cases hp
    intro c hc
    simp only [List.mem_cons, List.mem_append, List.not_mem_nil, or_false] at hc
    rcases hc with rfl | hc | rfl
    · decide
    · exact asc_quo _ ht c hc
    · decide
theorem asc_row (r : List Val) : Asc (fmtRow r).data.toList := by
  cases h : rowV r
  · unfold fmtRow
    rw [if_neg (by unfold rowV at h; rw [h]; simp)]
    intro c hc
    cases hc
  · rw [row_list h]
    intro c hc
    simp only [List.mem_cons, List.mem_append, List.not_mem_nil, or_false] at hc
    rcases hc with rfl | hc | rfl
    · decide
    · refine asc_join [44, 32] ?_ (r.map fun v => (fmtV v).data.toList) (fun w hw => ?_) c hc
      · intro c hc
        have : c = 44 ∨ c = 32 := by simpa using hc
        rcases this with rfl | rfl <;> decide
      · rw [List.mem_map] at hw
        obtain ⟨v, hv, rfl⟩ := hw
        exact asc_fmtV (List.all_eq_true.1 h v hv)
    · decide
theorem rowOf_asc {s : ByteArray} (h : ¬ Asc s.data.toList) : rowOf s = none := by
  cases hr : rowOf s with
  | none => rfl
  | some r =>
    exfalso
    apply h
    rw [← rowOf_some hr]
    exact asc_row r
end Go.Proofs.YtdjdhkbomhendaaGreatDoor
namespace Go.Proofs.YtdjdhkbomhendaaGreatDoor
open Go.RowKit
set_option linter.unusedVariables false
set_option linter.unusedSimpArgs false
set_option maxHeartbeats 4000000
set_option maxRecDepth 100000

theorem info_val : (Tryz.prog.info? 88).map (fun i => (i.zero, i.size, i.bytes)) = some (some (.agg #[.int .i64 0, .int .i64 0, .string ⟨#[]⟩]), 3, 32) := by kernel_rfl
theorem reads_new3 (w : World) (a b c : Value) (e : TypeId) : Reads (w.alloc (.cells #[a, b, c] e)) (w.heap.size + 1) 3 (some ⟨w.heap.size, 0, none⟩) 1 [a, b, c] :=
  ⟨by simp, fun _ => ⟨_, rfl, Nat.lt_succ_self _, news_at w #[a, b, c] e w.heap.size rfl⟩⟩
theorem cutp_any (s p : ByteArray) (w : World) : Calls Tryz.prog 35 #[.string s, .string p] w fun e w' => e = .returned (.tuple #[.string (BA (cutP p.data.toList s.data.toList).1), .bool (cutP p.data.toList s.data.toList).2]) ∧ w' = w := by
  refine (Tryz.strings_CutPrefix s p w).mono ?_
  rintro e w' ⟨rfl, rfl⟩
  refine ⟨ret_two (congrArg Value.string (t_inj ?_)) (congrArg Value.bool ?_), rfl⟩
  · show Lib.trimPrefix s.data.toList p.data.toList = (cutP p.data.toList s.data.toList).1
    unfold Lib.trimPrefix Lib.hasPrefix cutP
    split <;> simp_all
  · unfold Lib.hasPrefix cutP
    split <;> simp_all
theorem prs_e (s : ByteArray) : (prs s).2 = 0 ∨ (prs s).2 = 2 ∧ (prs s).1 = ⟨0, 0, ⟨#[]⟩⟩ := by
  unfold prs
  split
  · exact .inl rfl
  · exact .inr ⟨rfl, rfl⟩
theorem prs_t (s : ByteArray) : (prs s).1.t.size ≤ 16 := by
  rcases prs_e s with h | ⟨_, h⟩
  · exact validV_size (prs_ok h).2.1
  · rw [h]; decide
theorem cutP_len (p s : List UInt8) : (cutP p s).1.length ≤ s.length := by
  unfold cutP
  split
  · simp
  · exact Nat.le_refl _
theorem cutP_asc {p s : List UInt8} (h : Asc s) : Asc (cutP p s).1 := by
  unfold cutP
  split
  · exact fun c hc => h c (List.mem_of_mem_drop hc)
  · exact h
/-- the values in hand -/
def AccOk (l : List Val) : Prop := ∀ a ∈ l, a.t.size ≤ 4000000 ∧ i64 a.n
/-- where the program's loop over a row stands -/
def RowSt (s : ByteArray) (rest : List UInt8) (ok : Bool) (acc : List Val) : Prop :=
  AccOk acc ∧ acc.length ≤ s.size + 1 ∧ rest.length ≤ s.size ∧ (ok = true → acc.length + rest.length ≤ s.size) ∧
    (Asc s.data.toList → Asc rest ∧ (if ok = true then ∃ f, rest.length < f ∧ rowP s.data.toList = rowGo f rest acc else rowP s.data.toList = (acc, false)))
theorem RowSt.start (s : ByteArray) : RowSt s (cutP [40] s.data.toList).1 (cutP [40] s.data.toList).2 [] := by
  have h1 := cutP_len [40] s.data.toList
  have h2 : s.data.toList.length = s.size := rfl
  refine ⟨fun a h => (by cases h), Nat.zero_le _, by omega, fun _ => by simp; omega, fun ha => ⟨cutP_asc ha, ?_⟩⟩
  split
  · rename_i h
    refine ⟨s.data.toList.length + 1, by omega, ?_⟩
    unfold rowP
    rw [if_pos h]
  · rename_i h
    unfold rowP
    rw [if_neg h]
def cutC (rest : List UInt8) (acc : List Val) : List UInt8 × Bool := if acc.length = 0 then (rest, true) else cutP [44, 32] rest
theorem RowSt.step {s : ByteArray} {rest : List UInt8} {acc : List Val} (h : RowSt s rest true acc) (hr : rest ≠ [41]) {n : Nat} (hn : n ≤ (cutC rest acc).1.length) (hl : Asc (cutC rest acc).1 → n = litLen (cutC rest acc).1) :
    RowSt s ((cutC rest acc).1.drop n) ((cutC rest acc).2 && ((prs (BA ((cutC rest acc).1.take n))).2 == 0)) (acc ++ [(prs (BA ((cutC rest acc).1.take n))).1]) := by
  obtain ⟨h1, h2, h3, h4, h5⟩ := h
  have h4 := h4 rfl
  have hc : (cutC rest acc).1.length ≤ rest.length := by
    unfold cutC
    split
    · exact Nat.le_refl _
    · exact cutP_len _ _
  have hd : ((cutC rest acc).1.drop n).length ≤ rest.length := by rw [List.length_drop]; omega
  have hpos : (prs (BA ((cutC rest acc).1.take n))).2 = 0 → 1 ≤ n ∧ ((cutC rest acc).1.drop n).length + 1 ≤ rest.length := by
    intro hp
    have h6 := prs_ok hp
    rcases Nat.eq_zero_or_pos n with rfl | hpos
    · exfalso
      have := fmtV_ne h6.2.1
      rw [h6.1] at this
      exact this rfl
    · refine ⟨hpos, ?_⟩
      rw [List.length_drop]
      omega
  refine ⟨?_, ?_, by omega, ?_, ?_⟩
  · intro a ha
    rcases List.mem_append.1 ha with ha | ha
    · exact h1 a ha
    · obtain rfl := List.mem_singleton.1 ha
      exact ⟨by have := prs_t (BA ((cutC rest acc).1.take n)); omega, prs_bd _⟩
  · rw [List.length_append, List.length_singleton]
    omega
  · intro hk
    rw [Bool.and_eq_true, beq_iff_eq] at hk
    have := hpos hk.2
    rw [List.length_append, List.length_singleton]
    omega
  · intro ha
    obtain ⟨h6, h7⟩ := h5 ha
    have hcA : Asc (cutC rest acc).1 := by
      unfold cutC
      split
      · exact h6
      · exact cutP_asc h6
    have hL := hl hcA
    refine ⟨fun c hc => hcA c (List.mem_of_mem_drop hc), ?_⟩
    rw [if_pos rfl] at h7
    obtain ⟨f, h8, h9⟩ := h7
    obtain ⟨f, rfl⟩ : ∃ g, f = g + 1 := ⟨f - 1, by omega⟩
    rw [rowGo, if_neg hr] at h9
    dsimp only at h9
    change rowP s.data.toList = if ((cutC rest acc).2 && (prs (BA ((cutC rest acc).1.take (litLen (cutC rest acc).1)))).2 == 0) = true then rowGo f ((cutC rest acc).1.drop (litLen (cutC rest acc).1)) (acc ++ [(prs (BA ((cutC rest acc).1.take (litLen (cutC rest acc).1)))).1]) else (acc ++ [(prs (BA ((cutC rest acc).1.take (litLen (cutC rest acc).1)))).1], false) at h9
    rw [← hL] at h9
    split
    · rename_i hk
      rw [if_pos hk] at h9
      rw [Bool.and_eq_true, beq_iff_eq] at hk
      have := hpos hk.2
      exact ⟨f, by omega, h9⟩
    · rename_i hk
      rw [if_neg hk] at h9
      exact h9
/-- the result of parseRow -/
theorem RowSt.fin {s : ByteArray} {rest : List UInt8} {ok : Bool} {acc : List Val} (h : RowSt s rest ok acc) (hr : ok = true → rest = [41]) :
    rowOf s = if ok = true ∧ fmtRow acc = s then some acc else none := by
  obtain ⟨h1, h2, h3, h4, h5⟩ := h
  by_cases ha : Asc s.data.toList
  · have h6 := (h5 ha).2
    unfold rowOf
    split at h6
    · rename_i hk
      obtain ⟨f, h8, h9⟩ := h6
      obtain ⟨f, rfl⟩ : ∃ g, f = g + 1 := ⟨f - 1, by omega⟩
      rw [hr hk, rowGo, if_pos rfl] at h9
      rw [h9, hk]
    · rename_i hk
      rw [h6, if_neg (by simp), if_neg (by simp [hk])]
  · rw [rowOf_asc ha, if_neg]
    rintro ⟨_, hf⟩
    apply ha
    rw [← hf]
    exact asc_row acc
end Go.Proofs.YtdjdhkbomhendaaGreatDoor
namespace Go.Proofs.YtdjdhkbomhendaaGreatDoor
open Go.RowKit
set_option linter.unusedVariables false
set_option linter.unusedSimpArgs false
set_option maxHeartbeats 400000
set_option maxRecDepth 100000

theorem acc_own {w : World} {B n : Nat} {v : Value} {l : List Val} {e : TypeId} (h : w.ownsRow B e 3 v n (valcs l)) : l.length = n := by
  have := h.1
  rw [valcs, flat_len valC 3 (fun _ => rfl)] at this
  omega
theorem blk3c {w : World} {g : Nat} {t : TypeId} {a0 a1 a2 : Value} {r : List Value} (h : Blk w g t (a0 :: a1 :: a2 :: r)) :
    w.cell? ⟨g, 0, none⟩ = some a0 ∧ w.cell? ⟨g, 1, none⟩ = some a1 ∧ w.cell? ⟨g, 2, none⟩ = some a2 := ⟨h.cell_some rfl, h.cell_some rfl, h.cell_some rfl⟩
theorem row_less {rest : List UInt8} {acc : List Val} {n : Nat} (hn : n ≤ (cutC rest acc).1.length) (hp : (prs (BA ((cutC rest acc).1.take n))).2 = 0) : ((cutC rest acc).1.drop n).length < rest.length := by
  have hc : (cutC rest acc).1.length ≤ rest.length := by
    unfold cutC
    split
    · exact Nat.le_refl _
    · exact cutP_len _ _
  have h6 := prs_ok hp
  rcases Nat.eq_zero_or_pos n with rfl | hpos
  · exfalso
    have := fmtV_ne h6.2.1
    rw [h6.1] at this
    exact this rfl
  · rw [List.length_drop]
    omega
def rowMs (rv ov : Value) : Nat := match ov, rv with
  | .bool true, .string t => t.size + 1
  | _, _ => 0
theorem parserow_any (s : ByteArray) (w : World) (hs : s.size ≤ 1000000) (hw : Sh w) (ht : Tab w) (he : Er w) :
    Calls Tryz.prog 36 #[.string s] w fun e w' => (∃ v b acc, e = .returned (.tuple #[v, .bool b]) ∧ rowOf s = (if b = true then some acc else none) ∧ w'.ownsRow w.heap.size 88 3 v acc.length (valcs acc) ∧ acc.length ≤ s.size + 1) ∧ Ext w w' := by
  obtain ⟨i0, hi, hz0, hz1, hz2⟩ := info_parts info_val
  have HSh := hid hw
  have HT := hid ht
  have HE := hid he
  clear hw ht he
  have HCP := hid (fun (t p : ByteArray) (W : World) => cutp_any t p W)
  go_enter Tryz.func36, Tryz.ntmps36
  go_wp2_with (go_at_call 35; refine (HCP.out _ _ _).mono ?_; rintro _ w1 ⟨rfl, rfl⟩)
  have HS0 := hid (RowSt.start s)
  change Hid (RowSt s (cutP (⟨#[40]⟩ : ByteArray).data.toList s.data.toList).1 (cutP (⟨#[40]⟩ : ByteArray).data.toList s.data.toList).2 []) at HS0
  generalize (cutP (⟨#[40]⟩ : ByteArray).data.toList s.data.toList).1 = r0 at *
  generalize (cutP (⟨#[40]⟩ : ByteArray).data.toList s.data.toList).2 = k0 at *
  have HR0 : Hid ((BA r0).data.toList = r0) := rfl
  generalize BA r0 = T0 at *
  go_loopw [4, 5, 6] (fun rv ov sv wr => ∃ (T : ByteArray) (ok : Bool) (acc : List Val), rv = .string T ∧ ov = .bool ok ∧ wr.ownsRow w1.heap.size 88 3 sv acc.length (valcs acc) ∧ RowSt s T.data.toList ok acc ∧ Ext w1 wr)
    (fun rv ov _ _ => rowMs rv ov)
  case atStart => exact ⟨T0, k0, [], rfl, rfl, World.ownsRow_nil _ _ _ _, by rw [HR0.out]; exact HS0.out, Ext.refl _⟩
  case round =>
    obtain ⟨T, ok, acc, rfl, rfl, hown, hst, hxr⟩ := hrel
    have HSt := hid hst
    have HXr := hid hxr
    obtain ⟨na, hna⟩ : ∃ na, acc.length = na := ⟨_, rfl⟩
    have HNA := hid hna
    rw [hna] at hown
    have HO := hid hown
    have hnb : na ≤ 1000001 := by have := hst.2.1; omega
    clear hown hst hxr hna
    cases ok
    · have HF := hid (HSt.out.fin (fun h => by cases h))
      go_wp2_with fail
      go_ret2
      exact ⟨⟨_, false, acc, rfl, by rw [HF.out, if_neg (by simp)]; rfl, by rw [HNA.out]; exact HO.out, HSt.out.2.1⟩, HXr.out⟩
    · by_cases hr : T.data.toList = [41]
      · have HF := hid (HSt.out.fin (fun _ => hr))
        obtain ⟨Ax, cx, hvx⟩ := own_slice HO.out
        subst hvx
        have HFR : Hid (∀ W, Ext wr W → Calls Tryz.prog 64 #[.slice Ax na cx] W fun e w' => e = .returned (.string (fmtRow acc)) ∧ Ext W w') := fun W hW => by
          obtain ⟨A', c', hAc, hvals⟩ := own_row 88 HO.out
          injection hAc with hA1 hA2 hA3
          subst hA1 hA3
          have hst := HSt.out
          exact formatrow_any Ax acc na cx W (hvals.ext hW) HNA.out (by omega) (fun a ha => (hst.1 a ha).1) (HSh.out.ext (HXr.out.trans hW)) fun a ha => .inr ⟨HT.out.ext (HXr.out.trans hW), (hst.1 a ha).2⟩
        obtain ⟨b, hb⟩ : ∃ b, ((fmtRow acc).toList == s.toList) = b := ⟨_, rfl⟩
        have HB : Hid (rowOf s = if b = true then some acc else none) := by
          unfold Hid
          rw [HF.out, ← hb, seq]
          simp
        have e41 : (T.toList == [41]) = true := by rw [ByteArray.toList_eq, hr]; rfl
        clear hr HF
        generalize fmtRow acc = X at *
        go_wp2_with (go_at_call 64; (with_reducible refine (HFR.out _ (Ext.refl _)).mono ?_); rintro _ w2 ⟨rfl, hx2⟩)
        go_ret2
        exact ⟨⟨_, b, acc, rfl, HB.out, by rw [HNA.out]; exact ownN_ext HO.out hx2, HSt.out.2.1⟩, HXr.out.trans hx2⟩
      · have e41 : (T.toList == [41]) = false := by rw [ByteArray.toList_eq, beq_eq_false_iff_ne]; exact hr
        have HNR := hid hr
        obtain ⟨Ax, cx, hvx⟩ := own_slice HO.out
        subst hvx
        clear hr
        obtain ⟨C, hC⟩ : ∃ C, C = cutC T.data.toList acc := ⟨_, rfl⟩
        have HC := hid hC
        obtain ⟨T2, hT2⟩ : ∃ T2, T2 = BA C.1 := ⟨_, rfl⟩
        have HT2 : Hid (T2.data.toList = C.1) := by unfold Hid; rw [hT2]; rfl
        have HT3 := hid hT2
        clear hC hT2
        go_upto_if 22 with fail
        go_cut [4, 5] from 20 to 27 (fun rv ov wx => rv = .string T2 ∧ ov = .bool C.2 ∧ wx = wr)
        case first =>
          by_cases h0 : na = 0
          · have e0 : Hid (C = (T.data.toList, true)) := by unfold Hid; rw [HC.out, cutC, if_pos (by rw [HNA.out]; exact h0)]
            have b0 : ¬ ((0 : Int) < (na : Int)) := by omega
            clear h0
            go_wp2_with fail
            go_meet
            exact ⟨congrArg Value.string (by rw [HT3.out, e0.out]; exact (BA_of T).symm), congrArg Value.bool (by rw [e0.out]), rfl⟩
          · have e0 : Hid (C = cutP [44, 32] T.data.toList) := by unfold Hid; rw [HC.out, cutC, if_neg (by rw [HNA.out]; exact h0)]
            have b0 : (0 : Int) < (na : Int) := by omega
            clear h0
            go_wp2_with (go_at_call 35; refine (HCP.out _ _ _).mono ?_; rintro _ w2 ⟨rfl, rfl⟩)
            go_meet
            exact ⟨congrArg Value.string (by rw [HT3.out, e0.out]), congrArg Value.bool (by rw [e0.out]), rfl⟩
        case rest =>
          obtain ⟨rfl, rfl, rfl⟩ := hcut
          have hT2s : T2.size ≤ 1000000 := by
            have h1 := HSt.out.2.2.1
            have h2 : C.1.length ≤ T.data.toList.length := by
              rw [HC.out]
              unfold cutC
              split
              · exact Nat.le_refl _
              · exact cutP_len _ _
            have h3 : T2.size = C.1.length := by rw [← HT2.out]; rfl
            omega
          have HLit := hid (fun W => literal_any T2 W hT2s)
          go_wp2_with (go_at_call 72; (with_reducible refine (HLit.out _).mono ?_); rintro _ w2 ⟨⟨q, rfl, hq, hqa⟩, hx2⟩)
          have HQ := hid hq
          have HQA : Hid (Asc C.1 → q = litLen C.1) := by rw [← HT2.out]; exact hqa
          have HX2 := hid hx2
          have hps : (T2.extract 0 q).size ≤ 1000000 := by
            rw [ByteArray.size_extract]
            omega
          have HSZ5 : Hid (na + 1 ≤ 1000002) := by unfold Hid; omega
          clear hqa hx2 HLit
          obtain ⟨c1, k2⟩ := C
          dsimp only at *
          have HPe := hid (ext_take T2 q)
          have HDr := hid (ext_drop T2 q)
          obtain ⟨P, hP⟩ : ∃ P, T2.extract 0 q = P := ⟨_, rfl⟩
          have HP := hid hP
          rw [hP] at hps ⊢
          have HPa := hid (fun W (hW : Ext w1 W) => parse_any P W hps (HSh.out.ext hW) (HT.out.ext hW) (HE.out.ext hW))
          clear hps hP
          obtain ⟨x, E, hxe⟩ : ∃ x E, prs P = (x, E) := ⟨_, _, rfl⟩
          rw [hxe] at HPa
          have HXE := hid hxe
          clear hxe
          dsimp only at HPa
          refine (HPa.out _ (HXr.out.trans HX2.out)).mono ?_
          rintro _ w3 ⟨rfl, hx3⟩
          have HX3 := hid (HX2.out.trans hx3)
          clear hx3 HPa
          obtain ⟨xk, xn, xt⟩ := x
          dsimp only
          obtain ⟨eb, heb⟩ : ∃ eb, (E == 0) = eb := ⟨_, rfl⟩
          have HEB := hid heb
          have HB8 := hid (Blk.of_new w3 88 [.int .i64 xk, .int .i64 xn, .string xt])
          have HX8 := hid ((Ext.refl w3).alloc (.cells #[.int .i64 xk, .int .i64 xn, .string xt] 88))
          have HNE : Hid (some w3.heap.size ≠ (Value.slice Ax na cx).ownBlock) := by
            intro hh
            have h1 := own_lt HO.out hh.symm
            have h2 := HX3.out.size
            omega
          have HOw := hid (ownN_ext (ownN_ext HO.out HX3.out) HX8.out)
          have HBase : Hid (w1.heap.size ≤ (w3.alloc (.cells #[.int .i64 xk, .int .i64 xn, .string xt] 88)).heap.size) := ((HXr.out.trans HX3.out).trans HX8.out).size
          have hq0 : (0 : Int) ≤ (q : Int) := by omega
          have hq1 : (q : Int) ≤ (T2.size : Int) := by omega
          have hqc : q ≤ (cutC T.data.toList acc).1.length := by
            rw [← HC.out]
            have h3 : T2.size = c1.length := by rw [← HT2.out]; rfl
            show q ≤ c1.length
            omega
          have HK3 : Hid (RowSt s (T2.extract q T2.size).data.toList (k2 && eb) (acc ++ [⟨xk, xn, xt⟩])) := by
            have hst := RowSt.step HSt.out HNR.out (n := q) hqc (by rw [← HC.out]; exact HQA.out)
            rw [← HC.out] at hst
            have e1 : BA (c1.take q) = P := by rw [← HT2.out, ← HPe.out, HP.out]
            dsimp only at hst
            rw [e1, HXE.out] at hst
            dsimp only at hst
            rw [HEB.out] at hst
            rw [HDr.out, HT2.out]
            exact hst
          have HMs : Hid ((k2 && eb) = true → (T2.extract q T2.size).size < T.size) := by
            intro hk
            rw [Bool.and_eq_true] at hk
            have e1 : BA (c1.take q) = P := by rw [← HT2.out, ← HPe.out, HP.out]
            have h1 := row_less (rest := T.data.toList) (acc := acc) (n := q) hqc (by
              rw [← HC.out]
              dsimp only
              rw [e1, HXE.out]
              have := HEB.out
              rw [hk.2] at this
              simpa using this)
            rw [← HC.out] at h1
            dsimp only at h1
            rw [HDr.out, HT2.out, BA_size]
            exact h1
          clear hqc HSt HNR HC HT3 HPe HDr HP HXE HQA HT2
          generalize hT5 : T2.extract q T2.size = T5 at *
          have HT5 := hid hT5
          clear hT5
          have HX9 := hid (HXr.out.trans (HX3.out.trans HX8.out))
          go_upto_region 8 with fail
          generalize w3.alloc (.cells #[.int .i64 xk, .int .i64 xn, .string xt] 88) = w8 at *
          generalize w3.heap.size = g8 at *
          obtain ⟨e0, e1, e2⟩ := blk3c HB8.out
          cases k2
          all_goals
            go_wp2_with fail
            go_region_held_law (fun w' => w'.cell? ⟨g8, 0, none⟩ = some (.int .i64 xk) ∧ w'.cell? ⟨g8, 1, none⟩ = some (.int .i64 xn) ∧ w'.cell? ⟨g8, 2, none⟩ = some (.string xt))
              (first | go_keep | exact blk3c (HB8.out.ext ((Ext.refl _).drew.alloc _)) | exact blk3c (HB8.out.ext ((Ext.refl _).alloc _)) | exact blk3c ((HB8.out.ext ((Ext.refl _).drew.alloc _)).grown hgr5 HNE.out))
              (first
                | (refine step_append_any _ rfl (.tmp 42) (.tmp 44) 60 rfl w1.heap.size 88 i0 _ 3 32 Tryz.underlying60 hi hz0 hz1 hz2 rfl (by decide) _ na _ rfl (HOw.out.alloc _) _ _ 1 1 [.int .i64 xk, .int .i64 xn, .string xt] rfl (reads_new3 _ _ _ _ _) (by simp [Value.oneCell']) (by have := HSZ5.out; unfold maxLen; omega) (by have := HSZ5.out; omega) (by have := HBase.out; simp; omega) ?_; intro v5 w5 hown5 hgr5 hblk5; dsimp only [List.getElem_toArray, List.getElem_cons_succ, List.getElem_cons_zero]))
            all_goals
              have HO5 : Hid (w5.ownsRow w1.heap.size 88 3 v5 (na + 1) (valcs (acc ++ [⟨xk, xn, xt⟩]))) := by
                unfold Hid
                rw [valcs_app]
                exact hown5
              have HG5 : Hid (Ext w1 w5) := by
                first
                  | exact Ext.grown ((HX9.out.alloc _).drew) hgr5 (fun g hg => own_ge HO.out hg)
                  | exact Ext.grown (HX9.out.drew.alloc _) hgr5 (fun g hg => own_ge HO.out hg)
              rename_i hHeld
              clear hHeld hown5 hgr5 hblk5 e0 e1 e2
              go_wp2_with fail
              go_roundw
              case rel =>
                have hk3 := HK3.out
                simp only [Bool.false_and, Bool.true_and] at hk3
                refine ⟨T5, _, acc ++ [⟨xk, xn, xt⟩], congrArg Value.string HT5.out, rfl, ?_, hk3, HG5.out⟩
                have e : (acc ++ [(⟨xk, xn, xt⟩ : Val)]).length = na + 1 := by rw [List.length_append, HNA.out]; rfl
                rw [e]
                exact HO5.out
              case measure =>
                have hm := HMs.out
                have hsz : T2.size - q = T5.size := by rw [← HT5.out, ByteArray.size_extract]; omega
                cases eb
                · simp [rowMs]
                · first
                    | (simp [rowMs]; done)
                    | (simp [rowMs] at hm ⊢; omega)
end Go.Proofs.YtdjdhkbomhendaaGreatDoor
