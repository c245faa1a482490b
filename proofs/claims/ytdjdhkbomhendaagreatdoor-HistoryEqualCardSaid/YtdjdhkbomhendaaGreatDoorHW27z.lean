/-
  Walks over history: parseReason.
-/
import Derived.Test.YtdjdhkbomhendaaGreatDoorGp
import Derived.Test.YtdjdhkbomhendaaGreatDoorGh
import Derived.Test.YtdjdhkbomhendaaGreatDoorGn
namespace Go.Proofs.YtdjdhkbomhendaaGreatDoor
open Go.RowKit
set_option linter.unusedVariables false
set_option linter.unusedSimpArgs false
set_option maxHeartbeats 4000000
set_option maxRecDepth 100000

/-- the result of parseReason -/
def RsnR (B n : Nat) (r : Option Wt) (e : Ending) (w' : World) : Prop :=
  ∃ tx tb v b row, e = .returned (.tuple #[.agg #[.int .i64 tx, .int .i64 tb, v], .bool b]) ∧ r = (if b = true then some ⟨tx, tb, row⟩ else none) ∧ w'.ownsRow B 88 3 v row.length (valcs row) ∧ row.length ≤ n
theorem RsnR.no {B n : Nat} {r : Option Wt} {w : World} (h : r = none) : RsnR B n r (.returned (.tuple #[.agg #[.int .i64 0, .int .i64 0, .slice none 0 0], .bool false])) w :=
  ⟨0, 0, _, false, [], rfl, by rw [h]; rfl, World.ownsRow_nil _ _ _ _, Nat.zero_le _⟩
theorem rsn_not4 {l : List UInt8} (h : ∀ a b c d, splitW 32 (min 4 (l.length + 1) - 1) l = [a, b, c, d] → a ≠ forW) : rsnP l = none := by
  unfold rsnP
  split
  · rename_i a b c d hs
    rw [if_neg (h a b c d hs)]
  · rfl
theorem rsn_4 {l a b c d : List UInt8} (h : splitW 32 (min 4 (l.length + 1) - 1) l = [a, b, c, d]) (ha : a = forW) : rsnP l = mkW b c d := by
  unfold rsnP
  rw [h]
  exact if_pos ha
theorem split_size (k : Nat) (l : List UInt8) : ∀ x ∈ splitW 32 k l, x.length ≤ l.length := by
  induction k generalizing l with
  | zero => intro x hx; rw [splitW, List.mem_singleton] at hx; rw [hx]; exact Nat.le_refl _
  | succ k ih =>
    intro x hx
    rcases cutW_cases 32 l with ⟨h1, h2⟩ | ⟨wd, r, h1, h2, h3⟩
    · rw [splitW, h2] at hx
      have : x = l := by simpa using hx
      rw [this]; exact Nat.le_refl _
    · rw [splitW, h3, if_pos rfl] at hx
      have hl := congrArg List.length h2
      rw [List.length_append, List.length_cons] at hl
      rcases List.mem_cons.1 hx with hx | hx
      · have hx' : x = wd := hx
        rw [hx']
        omega
      · have := ih r x hx
        omega
theorem parsereason_any (s : ByteArray) (w : World) (hs : s.size ≤ 999990) (hw : Sh w) (ht : Tab w) (he : Er w) :
    Calls Tryz.prog 34 #[.string s] w fun e w' => RsnR w.heap.size (s.size + 1) (rsnP s.data.toList) e w' ∧ Ext w w' := by
  have HSh := hid hw
  have HT := hid ht
  have HE := hid he
  have HSp := hid (fun W hW => splitn_any s W (by omega) (HSh.out.ext (w' := W) hW))
  clear hw ht he
  have HB := hid (Blk.of_new w 62 [.int .i64 0, .int .i64 0, .slice none 0 0])
  have HX := hid ((Ext.refl w).alloc (.cells #[.int .i64 0, .int .i64 0, .slice none 0 0] 62))
  have HSz : Hid (∀ x ∈ splitW 32 (min 4 (s.data.toList.length + 1) - 1) s.data.toList, x.length ≤ s.size) := split_size _ _
  have HN4 := hid (fun h => rsn_not4 (l := s.data.toList) h)
  have H4 : Hid (∀ a b c d : List UInt8, splitW 32 (min 4 (s.data.toList.length + 1) - 1) s.data.toList = [a, b, c, d] → a = forW → rsnP s.data.toList = mkW b c d) := fun a b c d h ha => rsn_4 h ha
  generalize splitW 32 (min 4 (s.data.toList.length + 1) - 1) s.data.toList = L at *
  go_enter Tryz.func34, Tryz.ntmps34
  go_upto_region 1 with fail
  generalize w.alloc (.cells #[.int .i64 0, .int .i64 0, .slice none 0 0] 62) = W1 at *
  obtain ⟨g, hg⟩ : ∃ g, w.heap.size = g := ⟨_, rfl⟩
  have HG := hid hg
  rw [hg] at HB ⊢
  clear hg
  by_cases hL : L.length = 4
  · obtain ⟨la, lb, lc, ld, rfl⟩ : ∃ a b c d, L = [a, b, c, d] := by
      match L, hL with
      | [a, b, c, d], _ => exact ⟨a, b, c, d, rfl⟩
    have HSa := hid (fun x hx => HSz.out x hx)
    clear hL
    have hfor : ∀ W b, TxAt W b [la, lb, lc, ld] → W.cell? ⟨b, 0, none⟩ = some (.string (BA la)) ∧ W.cell? ⟨b, 1, none⟩ = some (.string (BA lb)) ∧ W.cell? ⟨b, 2, none⟩ = some (.string (BA lc)) ∧ W.cell? ⟨b, 3, none⟩ = some (.string (BA ld)) :=
      fun W b h => ⟨h 0 la rfl, h 1 lb rfl, h 2 lc rfl, h 3 ld rfl⟩
    have HFor := hid hfor
    clear hfor
    have hll : ([la, lb, lc, ld] : List (List UInt8)).length = 4 := rfl
    by_cases ha : la = forW
    · subst ha
      have HR := hid (H4.out _ lb lc ld rfl rfl)
      have e3 : ((BA forW).toList == [102, 111, 114]) = true := by rw [ByteArray.toList_eq]; rfl
      have HNb := hid (fun W hW => number_any (BA lb) W (by rw [BA_size]; have := HSz.out lb (by simp); omega) (HT.out.ext (w' := W) hW) (HE.out.ext hW))
      have HNc := hid (fun W hW => number_any (BA lc) W (by rw [BA_size]; have := HSz.out lc (by simp); omega) (HT.out.ext (w' := W) hW) (HE.out.ext hW))
      have HPd := hid (fun W hW => parserow_any (BA ld) W (by rw [BA_size]; have := HSz.out ld (by simp); omega) (HSh.out.ext (w' := W) hW) (HT.out.ext hW) (HE.out.ext hW))
      have HFa : Hid (forW = forW) := rfl
      generalize BA forW = Ta at *
      go_upto_region 4 with (go_at_call 69; (with_reducible refine (HSp.out _ HX.out).mono ?_); rintro _ w2 ⟨⟨b, c, rfl, htx⟩, hx2⟩; have HB2 := hid (HB.out.ext hx2); obtain ⟨c0, c1, c2⟩ := blk3c HB2.out; have f0 := HB2.out.frozen 0; have f1 := HB2.out.frozen 1; have f2 := HB2.out.frozen 2; obtain ⟨t0, t1, t2, t3⟩ := HFor.out _ _ htx)
      have HTx := hid htx
      have HX2 := hid (HX.out.trans hx2)
      clear htx hx2 HSp HN4 H4 HSz
      go_upto_region 8 with (first
        | (go_at_call 36; (with_reducible refine (HPd.out _ ((HX2.out.trans hx3).trans hx4)).mono ?_); rintro _ w5 ⟨⟨v, rb, acc, rfl, hro, hown, hal⟩, hx5⟩; obtain ⟨Av, cv, hvv⟩ := own_slice hown; subst hvv)
        | (go_at_call 70; (with_reducible refine (HNc.out _ (HX2.out.trans hx3)).mono ?_); rintro _ w4 ⟨⟨n2, b2, rfl, hn2, hn2'⟩, hx4⟩; obtain ⟨t4, t5, t6, t7⟩ := HFor.out _ _ (HTx.out.ext (hx3.trans hx4)))
        | (go_at_call 70; (with_reducible refine (HNb.out _ HX2.out).mono ?_); rintro _ w3 ⟨⟨n1, b1, rfl, hn1, hn1'⟩, hx3⟩; obtain ⟨t0, t1, t2, t3⟩ := HFor.out _ _ (HTx.out.ext hx3)))
      have HX5 := hid (HX2.out.trans ((hx3.trans hx4).trans hx5))
      have HBg := hid (HB2.out.ext ((hx3.trans hx4).trans hx5))
      have HN1 : Hid ((numP (BA lb)).isSome = b1 ∧ ∀ n, numP (BA lb) = some n → n1 = n) := ⟨hn1, hn1'⟩
      have HN2 : Hid ((numP (BA lc)).isSome = b2 ∧ ∀ n, numP (BA lc) = some n → n2 = n) := ⟨hn2, hn2'⟩
      have HRO := hid hro
      have HOw := hid hown
      have HAL : Hid (acc.length ≤ s.size + 1) := by
        have h1 := HSa.out ld (by simp)
        rw [BA_size] at hal
        unfold Hid
        omega
      have HBs : Hid (w.heap.size ≤ w2.heap.size) := HX2.out.size
      clear hn1 hn1' hn2 hn2' hro hown hal t0 t1 t2 t3 t4 t5 t6 t7 c0 c1 c2 f0 f1 f2 HNb HNc HPd
      have HBn := hid (Blk.of_new w5 62 [.int .i64 n1, .int .i64 (min n2 8), .slice Av acc.length cv])
      have HX8 := hid ((Ext.refl w5).alloc (.cells #[.int .i64 n1, .int .i64 (min n2 8), .slice Av acc.length cv] 62))
      have HBg8 := hid (HBg.out.ext HX8.out)
      have HOw8 := hid (ownN_ext HOw.out HX8.out)
      have HX9 := hid (HX5.out.trans HX8.out)
      generalize w5.alloc (.cells #[.int .i64 n1, .int .i64 (min n2 8), .slice Av acc.length cv] 62) = w8 at *
      generalize w5.heap.size = g8 at *
      obtain ⟨e0, e1, e2⟩ := blk3c HBn.out
      obtain ⟨z0, z1, z2⟩ := blk3c HBg8.out
      have y0 := HBg8.out.frozen 0
      have y1 := HBg8.out.frozen 1
      have y2 := HBg8.out.frozen 2
      have HAV : Hid (rb = true → AccOk acc) := by
        intro hb
        have h := HRO.out
        rw [hb, if_pos rfl] at h
        obtain ⟨h1, h2, _⟩ := rowOf_ok h
        intro a ha
        exact ⟨by have := validV_size (List.all_eq_true.1 h1 a ha); omega, h2 a ha⟩
      have HRc : Hid (rb = true → ∀ W, Ext w8 W → Calls Tryz.prog 58 #[.agg #[.int .i64 n1, .int .i64 (min n2 8), .slice Av acc.length cv]] W fun e w' => e = .returned (.bool ((Wt.mk n1 (min n2 8) acc).ok)) ∧ Ext W w') := fun hb W hW =>
        reason_any (Wt.mk n1 (min n2 8) acc) (.slice Av acc.length cv) W (own_row 88 (ownN_ext HOw8.out hW)) (by have := HAL.out; show acc.length ≤ _; omega) fun a ha => (HAV.out hb a ha).1
      have HM : Hid (rsnP s.data.toList = if (b1 && b2 && rb && (Wt.mk n1 (min n2 8) acc).ok) = true then some (Wt.mk n1 (min n2 8) acc) else none) := by
        unfold Hid
        rw [HR.out]
        unfold mkW
        change (match numP (BA lb), numP (BA lc), rowOf (BA ld) with
          | some n, some k, some r => if (Wt.mk n (min k 8) r).ok = true then some (Wt.mk n (min k 8) r) else none
          | _, _, _ => none) = _
        have h1 := HN1.out
        have h2 := HN2.out
        rw [HRO.out]
        cases e1 : numP (BA lb) with
        | none =>
          rw [e1] at h1
          have : b1 = false := h1.1.symm
          subst this
          rfl
        | some x =>
          rw [e1] at h1
          have hb : b1 = true := h1.1.symm
          have hx := h1.2 x rfl
          subst hb hx
          cases e2 : numP (BA lc) with
          | none =>
            rw [e2] at h2
            have : b2 = false := h2.1.symm
            subst this
            rfl
          | some y =>
            rw [e2] at h2
            have hb : b2 = true := h2.1.symm
            have hy := h2.2 y rfl
            subst hb hy
            cases rb
            · rfl
            · rfl
      generalize (Wt.mk n1 (min n2 8) acc).ok = V at *
      have HGr : Hid (∀ W : World, W.ownsRow w4.heap.size 88 3 (.slice Av acc.length cv) acc.length (valcs acc) → (((W.setCell ⟨g, 0, none⟩ (.int .i64 n1)).setCell ⟨g, 1, none⟩ (.int .i64 (min n2 8))).setCell ⟨g, 2, none⟩ (.slice Av acc.length cv)).ownsRow w4.heap.size 88 3 (.slice Av acc.length cv) acc.length (valcs acc)) := fun W hW => by
        have hne : (Value.slice Av acc.length cv).ownBlock ≠ some g := by
          intro hh
          have h1 := own_ge HOw8.out hh
          have h2 := HB2.out.lt
          have h3 := (hx3.trans hx4).size
          omega
        exact ownsRow_setCell_other (ownsRow_setCell_other (ownsRow_setCell_other hW hne _) hne _) hne _
      have HEnd : Hid (∀ (W : World) (vb : Bool), vb = (b1 && b2 && rb && V) → Ext w8 W → RsnR w.heap.size (s.size + 1) (rsnP s.data.toList) (.returned (.tuple #[.agg #[.int .i64 n1, .int .i64 (min n2 8), .slice Av acc.length cv], .bool vb])) (((W.setCell ⟨g, 0, none⟩ (.int .i64 n1)).setCell ⟨g, 1, none⟩ (.int .i64 (min n2 8))).setCell ⟨g, 2, none⟩ (.slice Av acc.length cv)) ∧ Ext w (((W.setCell ⟨g, 0, none⟩ (.int .i64 n1)).setCell ⟨g, 1, none⟩ (.int .i64 (min n2 8))).setCell ⟨g, 2, none⟩ (.slice Av acc.length cv))) := fun W vb hvb hx => by
        refine ⟨⟨n1, min n2 8, _, vb, acc, rfl, by rw [HM.out, hvb], own_base (HGr.out W (ownN_ext HOw8.out hx)) ?_, HAL.out⟩, (((HX9.out.trans hx).setCell (Nat.le_of_eq HG.out) _).setCell (Nat.le_of_eq HG.out) _).setCell (Nat.le_of_eq HG.out) _⟩
        have := HBs.out
        have := (hx3.trans hx4).size
        omega
      clear HM HGr HAV HRO HN1 HN2 HOw HOw8 HTx HSa HFor HR HFa
      generalize min n2 8 = m8 at *
      generalize acc.length = na at *
      cases b1
      · first | go_region_with (fail) | fail
        all_goals
          go_wp2_with fail
          have z4 := ((HBg8.out.set 0 (.int .i64 n1)).set 1 (.int .i64 m8)).set 2 (.slice Av na cv)
          have q0 := z4.cell 0
          have q1 := z4.cell 1
          have q2 := z4.cell 2
          exact bodyPost_ret (v := .tuple #[.agg #[.int .i64 n1, .int .i64 m8, .slice Av na cv], .bool false]) (by simp [results, Tryz.results34, go_sem, q0, q1, q2]) rfl (HEnd.out _ false rfl (Ext.refl _).drew)
      · cases b2
        · first | go_region_with (fail) | fail
          all_goals
            go_wp2_with fail
            have z4 := ((HBg8.out.set 0 (.int .i64 n1)).set 1 (.int .i64 m8)).set 2 (.slice Av na cv)
            have q0 := z4.cell 0
            have q1 := z4.cell 1
            have q2 := z4.cell 2
            exact bodyPost_ret (v := .tuple #[.agg #[.int .i64 n1, .int .i64 m8, .slice Av na cv], .bool false]) (by simp [results, Tryz.results34, go_sem, q0, q1, q2]) rfl (HEnd.out _ false rfl (Ext.refl _).drew)
        · cases rb
          · first | go_region_with (fail) | fail
            all_goals
              go_wp2_with fail
              have z4 := ((HBg8.out.set 0 (.int .i64 n1)).set 1 (.int .i64 m8)).set 2 (.slice Av na cv)
              have q0 := z4.cell 0
              have q1 := z4.cell 1
              have q2 := z4.cell 2
              exact bodyPost_ret (v := .tuple #[.agg #[.int .i64 n1, .int .i64 m8, .slice Av na cv], .bool false]) (by simp [results, Tryz.results34, go_sem, q0, q1, q2]) rfl (HEnd.out _ false rfl (Ext.refl _).drew)
          · have HRc2 := hid (HRc.out rfl)
            clear HRc
            first | go_region_with (go_at_call 58; refine (HRc2.out _ (by first | exact (Ext.refl w8).drew | exact ((Ext.refl w8).drew).drew | exact Ext.refl w8)).mono ?_; rintro e w9 ⟨rfl, hx9⟩; have hx9' : Ext w8 w9 := (Ext.refl w8).drew.trans hx9; have HB9 := hid (HBg8.out.ext hx9'); obtain ⟨v0, v1, v2⟩ := blk3c HB9.out; obtain ⟨l0, l1, l2⟩ := blk3c (HBn.out.ext hx9'); have x0 := HB9.out.frozen 0; have x1 := HB9.out.frozen 1; have x2 := HB9.out.frozen 2) | fail
            all_goals
              go_wp2_with fail
              have z4 := ((HB9.out.set 0 (.int .i64 n1)).set 1 (.int .i64 m8)).set 2 (.slice Av na cv)
              have q0 := z4.cell 0
              have q1 := z4.cell 1
              have q2 := z4.cell 2
              exact bodyPost_ret (v := .tuple #[.agg #[.int .i64 n1, .int .i64 m8, .slice Av na cv], .bool V]) (by simp [results, Tryz.results34, go_sem, q0, q1, q2]) rfl (HEnd.out _ V (by simp) hx9')
    · have HR := hid (HN4.out (fun a b c d h => by injection h with h1; rw [← h1]; exact ha))
      have e3 : ((BA la).toList == [102, 111, 114]) = false := by rw [ByteArray.toList_eq, beq_eq_false_iff_ne]; exact ha
      clear ha
      go_wp2_with (go_at_call 69; (with_reducible refine (HSp.out _ HX.out).mono ?_); rintro _ w2 ⟨⟨b, c, rfl, htx⟩, hx2⟩; have HB2 := hid (HB.out.ext hx2); obtain ⟨c0, c1, c2⟩ := blk3c HB2.out; have f0 := HB2.out.frozen 0; have f1 := HB2.out.frozen 1; have f2 := HB2.out.frozen 2; obtain ⟨t0, t1, t2, t3⟩ := HFor.out _ _ htx)
      have s0 : (w2.setCell ⟨g, 0, none⟩ (.int .i64 0)).cell? ⟨g, 0, none⟩ = some (.int .i64 0) := (HB2.out.set 0 _).cell 0
      have s1 : ((w2.setCell ⟨g, 0, none⟩ (.int .i64 0)).setCell ⟨g, 1, none⟩ (.int .i64 0)).cell? ⟨g, 1, none⟩ = some (.int .i64 0) := ((HB2.out.set 0 _).set 1 _).cell 1
      have s2 : (((w2.setCell ⟨g, 0, none⟩ (.int .i64 0)).setCell ⟨g, 1, none⟩ (.int .i64 0)).setCell ⟨g, 2, none⟩ (.slice none 0 0)).cell? ⟨g, 2, none⟩ = some (.slice none 0 0) := (((HB2.out.set 0 _).set 1 _).set 2 _).cell 2
      exact bodyPost_ret (v := .tuple #[.agg #[.int .i64 0, .int .i64 0, .slice none 0 0], .bool false]) (by simp [results, Tryz.results34, go_sem, s0, s1, s2]) rfl ⟨RsnR.no HR.out, (((HX.out.trans hx2).setCell (Nat.le_of_eq HG.out) _).setCell (Nat.le_of_eq HG.out) _).setCell (Nat.le_of_eq HG.out) _⟩
  · have HR := hid (HN4.out (fun a b c d h => absurd (by rw [h]; rfl) hL))
    have b4 : ((L.length : Int) != 4) = true := by rw [bne_iff_ne]; omega
    clear hL
    go_wp2_with (go_at_call 69; (with_reducible refine (HSp.out _ HX.out).mono ?_); rintro _ w2 ⟨⟨b, c, rfl, htx⟩, hx2⟩; have HB2 := hid (HB.out.ext hx2); obtain ⟨c0, c1, c2⟩ := blk3c HB2.out; have f0 := HB2.out.frozen 0; have f1 := HB2.out.frozen 1; have f2 := HB2.out.frozen 2)
    have s0 : (w2.setCell ⟨g, 0, none⟩ (.int .i64 0)).cell? ⟨g, 0, none⟩ = some (.int .i64 0) := (HB2.out.set 0 _).cell 0
    have s1 : ((w2.setCell ⟨g, 0, none⟩ (.int .i64 0)).setCell ⟨g, 1, none⟩ (.int .i64 0)).cell? ⟨g, 1, none⟩ = some (.int .i64 0) := ((HB2.out.set 0 _).set 1 _).cell 1
    have s2 : (((w2.setCell ⟨g, 0, none⟩ (.int .i64 0)).setCell ⟨g, 1, none⟩ (.int .i64 0)).setCell ⟨g, 2, none⟩ (.slice none 0 0)).cell? ⟨g, 2, none⟩ = some (.slice none 0 0) := (((HB2.out.set 0 _).set 1 _).set 2 _).cell 2
    exact bodyPost_ret (v := .tuple #[.agg #[.int .i64 0, .int .i64 0, .slice none 0 0], .bool false]) (by simp [results, Tryz.results34, go_sem, s0, s1, s2]) rfl ⟨RsnR.no HR.out, (((HX.out.trans hx2).setCell (Nat.le_of_eq HG.out) _).setCell (Nat.le_of_eq HG.out) _).setCell (Nat.le_of_eq HG.out) _⟩
end Go.Proofs.YtdjdhkbomhendaaGreatDoor
