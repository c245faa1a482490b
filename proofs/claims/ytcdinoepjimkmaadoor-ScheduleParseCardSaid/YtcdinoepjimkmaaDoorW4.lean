/-
  Walks over the schedule package: Random.
-/
import Derived.Test.YtcdinoepjimkmaaDoorW3
namespace Go.Proofs.YtcdinoepjimkmaaDoor
open Go.RowKit
set_option maxHeartbeats 2000000
set_option maxRecDepth 100000

theorem clamp1000 (n : Int) (w : World) : Calls Tryd.prog 23 #[.int .i64 n, .int .i64 1000] w fun e w' => e = .returned (.int .i64 (cl n 0 1000)) ∧ w = w' := clamp_any n 1000 w (by omega)

theorem bcells {w : World} {g t : Nat} {a b c d : Value} (h : Blk w g t [a, b, c, d]) :
    w.cell? ⟨g, 0, none⟩ = some a ∧ w.cell? ⟨g, 1, none⟩ = some b ∧ w.cell? ⟨g, 2, none⟩ = some c ∧ w.cell? ⟨g, 3, none⟩ = some d ∧
    w.frozen? ⟨g, 0, none⟩ = false ∧ w.frozen? ⟨g, 1, none⟩ = false ∧ w.frozen? ⟨g, 2, none⟩ = false ∧ w.frozen? ⟨g, 3, none⟩ = false :=
  ⟨h.cell_some (i := 0) rfl, h.cell_some (i := 1) rfl, h.cell_some (i := 2) rfl, h.cell_some (i := 3) rfl, h.frozen 0, h.frozen 1, h.frozen 2, h.frozen 3⟩
theorem news_at (w : World) (cs : Array Value) (e : TypeId) (n : Nat) (hn : n = w.heap.size) : ∀ (j : Nat) (u : Value), cs.toList[j]? = some u → (w.alloc (.cells cs e)).cell? ((⟨n, 0, none⟩ : Addr).add j) = some u := by
  subst hn
  exact news_new w cs e
/-- what a round of Random leaves -/
theorem rnd_rel {w w0 w1 : World} {S CK CR seed : Int} {k g : Nat} {v v' : Value} {a : Act} {st2 : Int} {o2 : Bool}
    (hstep : rstep S CK CR (rndS S CK CR seed k).1 (rndS S CK CR seed k).2 = (a, st2, o2))
    (hown0 : w0.ownsRow w.heap.size 29 4 v k (actc (rndL S CK CR seed k)))
    (hb : Blk w0 g 51 [.int .u64 st2]) (hx : Ext w w0)
    (hown : w1.ownsRow w.heap.size 29 4 v' (k + 1) (actc (rndL S CK CR seed k) ++ a.cells)) (hg : w0.grownBy w1 v.ownBlock) :
    rndS S CK CR seed (k + 1) = (st2, o2) ∧ w1.ownsRow w.heap.size 29 4 v' (k + 1) (actc (rndL S CK CR seed (k + 1))) ∧ Blk w1 g 51 [.int .u64 (rndS S CK CR seed (k + 1)).1] ∧ Ext w w1 := by
  have e1 : rndS S CK CR seed (k + 1) = (st2, o2) := by rw [rndS, hstep]
  have e2 : rndL S CK CR seed (k + 1) = rndL S CK CR seed k ++ [a] := by rw [rndL, hstep]
  refine ⟨e1, ?_, ?_, Ext.grown hx hg (fun g hg => own_ge hown0 hg)⟩
  · rw [e2, actc_snoc]; exact hown
  · rw [e1]; exact hb.grown hg (fun e => own_ne hown0 hb (by decide) e.symm)

theorem own_set {w : World} {B e sz n g : Nat} {v : Value} {xs : List Value} (h : w.ownsRow B e sz v n xs) (hne : v.ownBlock ≠ some g) (i : Nat) (u : Value) : (w.setCell ⟨g, i, none⟩ u).ownsRow B e sz v n xs :=
  h.kept ((Onl.refl g w).setCell i u) (.inr hne)

theorem random_any (s n ck cr seed : Int) (S R : Nat) (w : World) (hS : cl s 0 8 = (S : Int)) (hR : cl n 0 10000 = (R : Int)) (hp : 1 ≤ S) :
    Calls Tryd.prog 17 #[.int .i64 s, .int .i64 n, .agg #[.int .i64 ck, .int .i64 cr], .int .u64 seed] w fun e w' => ∃ v, e = .returned v ∧ w'.ownsRow w.heap.size 29 4 v R (actc (rndL S (cl ck 0 1000) (cl cr 0 1000) seed R)) ∧ Ext w w' := by
  obtain ⟨i0, hi, hz0, hz1, hz2⟩ := info_parts info29
  have hS8 : S ≤ 8 := by have := (cl_bd s 0 8 (by omega)).2; omega
  have hR8 : R ≤ 10000 := by have := (cl_bd n 0 10000 (by omega)).2; omega
  have hS0 : ((S : Int) == 0) = false := by simp; omega
  have HS := hid hS
  have HR := hid hR
  clear hS hR
  have c1 := cl_bd ck 0 1000 (by omega)
  have c2 := cl_bd cr 0 1000 (by omega)
  generalize hck : cl ck 0 1000 = CK at *
  generalize hcr : cl cr 0 1000 = CR at *
  have HCK := hid hck
  have HCR := hid hcr
  clear hck hcr
  have hA1 : ∀ W : World, Calls Tryd.prog 23 #[.int .i64 ck, .int .i64 1000] W fun e w' => e = .returned (.int .i64 CK) ∧ W = w' := fun W => by rw [← HCK.out]; exact clamp1000 ck W
  have hA2 : ∀ W : World, Calls Tryd.prog 23 #[.int .i64 cr, .int .i64 1000] W fun e w' => e = .returned (.int .i64 CR) ∧ W = w' := fun W => by rw [← HCR.out]; exact clamp1000 cr W
  go_enter Tryd.func17, Tryd.ntmps17
  go_wp2_with fail
  refine (clamp_any s 8 _ (by omega)).mono ?_
  rintro e w' ⟨rfl, rfl⟩
  rw [HS.out]
  go_wp2_with fail
  go_quiet ((first | (go_at_call_of 23 (Value.int .i64 ck); exact quiet_left (hA1 _)) | (go_at_call_of 23 (Value.int .i64 cr); exact quiet_left (hA2 _))))
  go_wp2_with fail
  refine (clamp_any n 10000 _ (by omega)).mono ?_
  rintro e w' ⟨rfl, rfl⟩
  rw [HR.out]
  go_wp2_with fail
  have hs0 := hid (Blk.of_new ((w.alloc (Obj.cells #[Value.int IntKind.i64 ck, Value.int IntKind.i64 cr] 32)).drewN nq) 51 [.int .u64 seed])
  go_loopw [12, 13, 29] (fun ov sv i wr => ∃ (k : Nat) (v : Value), k ≤ R ∧ i = .int .i64 k ∧ ov = .bool (rndS S CK CR seed k).2 ∧ v = sv ∧ wr.ownsRow w.heap.size 29 4 v k (actc (rndL S CK CR seed k)) ∧ Blk wr (w.heap.size + 1) 51 [.int .u64 (rndS S CK CR seed k).1] ∧ Ext w wr) (fun _ _ i _ => R - (intOf i).toNat)
  case atStart =>
    refine ⟨0, _, Nat.zero_le _, rfl, rfl, rfl, World.ownsRow_nil _ _ _ _, ?_, (((Ext.refl w).alloc _).drewN _).alloc _⟩
    have := hs0.out
    simpa [rndS] using this
  case round =>
    obtain ⟨k, v, hk, rfl, rfl, rfl, hown, hb, hxr⟩ := hrel
    have HOWN := hid hown
    clear hown
    by_cases hlt : k < R
    · have HK1 : Hid (k + 1 ≤ maxLen) := by unfold Hid maxLen; omega
      have HK2 : Hid ((k + 1) * 32 ≤ 140737488355328) := by unfold Hid; omega
      have HREF : Hid (∀ st o, st = (rndS S CK CR seed k).1 → o = (rndS S CK CR seed k).2 → rstep S CK CR (rndS S CK CR seed k).1 (rndS S CK CR seed k).2 = rstep S CK CR st o) := fun st o h1 h2 => by rw [h1, h2]
      generalize hst : (rndS S CK CR seed k).1 = st at hb
      generalize ho : (rndS S CK CR seed k).2 = o
      have HEQ : Hid (rstep S CK CR (rndS S CK CR seed k).1 (rndS S CK CR seed k).2 = rstep S CK CR st o) := HREF.out st o hst.symm ho.symm
      clear hst ho HREF
      have b1 := rn_lo st 1000 (by omega)
      have b2 := rn_hi st 1000 (by omega)
      have b3 := rn_lo (nxs st) 6 (by omega)
      have b4 := rn_hi (nxs st) 6 (by omega)
      by_cases h1 : rn st 1000 < CK
      · have HSTEP : Hid (rstep S CK CR (rndS S CK CR seed k).1 (rndS S CK CR seed k).2 = (⟨2, 0, 0, 0⟩, nxs st, o)) := by rw [HEQ.out]; unfold rstep; rw [if_pos h1]; rfl
        go_wp2_with fail
        refine (next_any st 1000 (w.heap.size + 1) _ hb (by omega) (by omega)).mono ?_
        rintro e w1 ⟨rfl, hb1, ho1⟩
        have HB1 := hid hb1
        have HX1 : Hid (Ext w w1) := ho1.ext hxr (by omega)
        have HO1 : Hid (w1.ownsRow w.heap.size 29 4 v k (actc (rndL S CK CR seed k))) := HOWN.out.kept ho1 (.inr (own_ne HOWN.out hb (by decide)))
        have HNE : Hid (w1.heap.size ≠ w.heap.size + 1) := fun e => by have := hb1.lt; omega
        have HSZ : Hid (w.heap.size ≤ w1.heap.size + 1 + 1) := by have := HX1.out.size; unfold Hid; omega
        clear hb1 ho1 hb hxr
        go_wp2_with (at_builtin; refine wpList_append_own _ rfl _ _ 24 rfl w.heap.size 29 i0 (.agg #[.int .i64 0, .int .i64 0, .int .i64 0, .int .i64 0]) 4 32 Tryd.underlying24 hi hz0 hz1 hz2 rfl (by decide) _ _ _ rfl ((ownN_ext HO1.out ((Ext.refl _).alloc _)).alloc _) ⟨_, 0, none⟩ 1 1 (Act.cells ⟨2, 0, 0, 0⟩) rfl rfl (news_at _ _ _ _ (by simp)) (by intro u hu; simp [Act.cells] at hu; rcases hu with rfl | rfl | rfl | rfl <;> rfl) HK1.out HK2.out (by have := HSZ.out; simpa using this) ?_; intro v' w9 hown' hgrow _)
        go_roundw
        case rel =>
          obtain ⟨q0, q1, q2, q3⟩ := rnd_rel HSTEP.out ((ownN_ext HO1.out (((Ext.refl _).alloc _).alloc _))) (HB1.out.ext (((Ext.refl _).alloc _).alloc _)) ((HX1.out.alloc _).alloc _) hown' hgrow
          exact ⟨k + 1, _, by omega, by go_num, by rw [q0], rfl, q1, q2, q3⟩
        case measure => simp [intOf]; omega

      · by_cases h2 : rn st 1000 < CK + CR
        · by_cases h3 : 0 < rn (nxs st) 6
          · have HSTEP : Hid (rstep S CK CR (rndS S CK CR seed k).1 (rndS S CK CR seed k).2 = (⟨3, 0, rn (nxs st) 6, rn (nxs (nxs st)) 65⟩, nxs (nxs (nxs st)), true)) := by rw [HEQ.out]; unfold rstep; rw [if_neg h1, if_pos h2, if_pos h3]; rfl
            go_wp2_with fail
            refine (next_any st 1000 (w.heap.size + 1) _ hb (by omega) (by omega)).mono ?_
            rintro e w1 ⟨rfl, hb1, ho1⟩
            have HB1 := hid hb1
            have HX1 : Hid (Ext w w1) := ho1.ext hxr (by omega)
            have HO1 : Hid (w1.ownsRow w.heap.size 29 4 v k (actc (rndL S CK CR seed k))) := HOWN.out.kept ho1 (.inr (own_ne HOWN.out hb (by decide)))
            have HNE : Hid (w1.heap.size ≠ w.heap.size + 1) := fun e => by have := hb1.lt; omega
            have HSZ : Hid (w.heap.size ≤ w1.heap.size + 1 + 1) := by have := HX1.out.size; unfold Hid; omega
            clear hb1 ho1 hb hxr
            go_wp2_with fail
            refine (next_any (nxs st) 6 (w.heap.size + 1) _ (HB1.out.ext ((Ext.refl _).alloc _)) (by omega) (by omega)).mono ?_
            rintro e w2 ⟨rfl, hb2, ho2⟩
            have ha2 := ho2.blk (Blk.of_new w1 29 [.int .i64 3, .int .i64 0, .int .i64 0, .int .i64 0]) HNE.out
            have HA2 := hid ha2
            obtain ⟨hc0, hc1, hc2, hc3, hf0, hf1, hf2, hf3⟩ := bcells ha2
            have HB2 := hid hb2
            have HX2 : Hid (Ext w w2) := ho2.ext (HX1.out.alloc _) (by omega)
            have HO2 : Hid (w2.ownsRow w.heap.size 29 4 v k (actc (rndL S CK CR seed k))) := (ownN_ext HO1.out ((Ext.refl _).alloc _)).kept ho2 (.inr (own_ne HO1.out HB1.out (by decide)))
            have HSZ2 : Hid (w.heap.size ≤ w2.heap.size + 1) := by have := HX2.out.size; unfold Hid; omega
            have HLE : Hid (w.heap.size ≤ w1.heap.size) := HX1.out.size
            clear hb2 ho2 ha2
            have HNB : Hid (v.ownBlock ≠ some w1.heap.size) := fun e => by have := own_lt HO1.out e; omega
            have HOS := hid (own_set HO2.out HNB.out 2 (.int .i64 (rn (nxs st) 6)))
            go_wp2_with fail
            refine (next_any (nxs (nxs st)) 65 (w.heap.size + 1) _ (HB2.out.far (Ne.symm HNE.out) _) (by omega) (by omega)).mono ?_
            rintro e w3 ⟨rfl, hb3, ho3⟩
            have ha3 := ho3.blk (HA2.out.set 2 (.int .i64 (rn (nxs st) 6))) HNE.out
            have HA3 := hid ha3
            clear hc0 hc1 hc2 hc3 hf0 hf1 hf2 hf3
            obtain ⟨hc0, hc1, hc2, hc3, hf0, hf1, hf2, hf3⟩ := bcells ha3
            have HB3 := hid hb3
            have HX3 : Hid (Ext w w3) := ho3.ext (HX2.out.setCell HLE.out _) (by omega)
            have HO3 : Hid (w3.ownsRow w.heap.size 29 4 v k (actc (rndL S CK CR seed k))) := HOS.out.kept ho3 (.inr (own_ne HO1.out HB1.out (by decide)))
            have HSZ3 : Hid (w.heap.size ≤ w3.heap.size + 1) := by have := HX3.out.size; unfold Hid; omega
            clear hb3 ho3 ha3
            have HO4 := hid (own_set HO3.out HNB.out 3 (.int .i64 (rn (nxs (nxs st)) 65)))
            go_wp2_with (at_builtin; refine wpList_append_own _ rfl _ _ 24 rfl w.heap.size 29 i0 (.agg #[.int .i64 0, .int .i64 0, .int .i64 0, .int .i64 0]) 4 32 Tryd.underlying24 hi hz0 hz1 hz2 rfl (by decide) _ _ _ rfl (HO4.out.alloc _) ⟨_, 0, none⟩ 1 1 (Act.cells ⟨3, 0, rn (nxs st) 6, rn (nxs (nxs st)) 65⟩) rfl rfl (news_at _ _ _ _ (by simp)) (by intro u hu; simp [Act.cells] at hu; rcases hu with rfl | rfl | rfl | rfl <;> rfl) HK1.out HK2.out (by have := HSZ3.out; simpa using this) ?_; intro v' w9 hown' hgrow _)
            go_roundw
            case rel =>
              obtain ⟨q0, q1, q2, q3⟩ := rnd_rel HSTEP.out (HO4.out.alloc _) ((HB3.out.far (Ne.symm HNE.out) _).ext ((Ext.refl _).alloc _)) ((HX3.out.setCell HLE.out _).alloc _) hown' hgrow
              exact ⟨k + 1, _, by omega, by go_num, by rw [q0], rfl, q1, q2, q3⟩
            case measure => simp [intOf]; omega

          · have HSTEP : Hid (rstep S CK CR (rndS S CK CR seed k).1 (rndS S CK CR seed k).2 = (⟨3, 0, rn (nxs st) 6, 0⟩, nxs (nxs st), true)) := by rw [HEQ.out]; unfold rstep; rw [if_neg h1, if_pos h2, if_neg h3]; rfl
            go_wp2_with fail
            refine (next_any st 1000 (w.heap.size + 1) _ hb (by omega) (by omega)).mono ?_
            rintro e w1 ⟨rfl, hb1, ho1⟩
            have HB1 := hid hb1
            have HX1 : Hid (Ext w w1) := ho1.ext hxr (by omega)
            have HO1 : Hid (w1.ownsRow w.heap.size 29 4 v k (actc (rndL S CK CR seed k))) := HOWN.out.kept ho1 (.inr (own_ne HOWN.out hb (by decide)))
            have HNE : Hid (w1.heap.size ≠ w.heap.size + 1) := fun e => by have := hb1.lt; omega
            have HSZ : Hid (w.heap.size ≤ w1.heap.size + 1 + 1) := by have := HX1.out.size; unfold Hid; omega
            clear hb1 ho1 hb hxr
            go_wp2_with fail
            refine (next_any (nxs st) 6 (w.heap.size + 1) _ (HB1.out.ext ((Ext.refl _).alloc _)) (by omega) (by omega)).mono ?_
            rintro e w2 ⟨rfl, hb2, ho2⟩
            have ha2 := ho2.blk (Blk.of_new w1 29 [.int .i64 3, .int .i64 0, .int .i64 0, .int .i64 0]) HNE.out
            have HA2 := hid ha2
            obtain ⟨hc0, hc1, hc2, hc3, hf0, hf1, hf2, hf3⟩ := bcells ha2
            have HB2 := hid hb2
            have HX2 : Hid (Ext w w2) := ho2.ext (HX1.out.alloc _) (by omega)
            have HO2 : Hid (w2.ownsRow w.heap.size 29 4 v k (actc (rndL S CK CR seed k))) := (ownN_ext HO1.out ((Ext.refl _).alloc _)).kept ho2 (.inr (own_ne HO1.out HB1.out (by decide)))
            have HSZ2 : Hid (w.heap.size ≤ w2.heap.size + 1) := by have := HX2.out.size; unfold Hid; omega
            have HLE : Hid (w.heap.size ≤ w1.heap.size) := HX1.out.size
            clear hb2 ho2 ha2
            have HNB : Hid (v.ownBlock ≠ some w1.heap.size) := fun e => by have := own_lt HO1.out e; omega
            have HOS := hid (own_set HO2.out HNB.out 2 (.int .i64 (rn (nxs st) 6)))
            go_wp2_with (at_builtin; refine wpList_append_own _ rfl _ _ 24 rfl w.heap.size 29 i0 (.agg #[.int .i64 0, .int .i64 0, .int .i64 0, .int .i64 0]) 4 32 Tryd.underlying24 hi hz0 hz1 hz2 rfl (by decide) _ _ _ rfl (HOS.out.alloc _) ⟨_, 0, none⟩ 1 1 (Act.cells ⟨3, 0, rn (nxs st) 6, 0⟩) rfl rfl (news_at _ _ _ _ (by simp)) (by intro u hu; simp [Act.cells] at hu; rcases hu with rfl | rfl | rfl | rfl <;> rfl) HK1.out HK2.out (by have := HSZ2.out; simpa using this) ?_; intro v' w9 hown' hgrow _)
            go_roundw
            case rel =>
              obtain ⟨q0, q1, q2, q3⟩ := rnd_rel HSTEP.out (HOS.out.alloc _) ((HB2.out.far (Ne.symm HNE.out) _).ext ((Ext.refl _).alloc _)) ((HX2.out.setCell HLE.out _).alloc _) hown' hgrow
              exact ⟨k + 1, _, by omega, by go_num, by rw [q0], rfl, q1, q2, q3⟩
            case measure => simp [intOf]; omega

        · cases o
          · have HSTEP : Hid (rstep S CK CR (rndS S CK CR seed k).1 (rndS S CK CR seed k).2 = (⟨1, rn (nxs st) S, 0, 0⟩, nxs (nxs st), false)) := by rw [HEQ.out]; unfold rstep; rw [if_neg h1, if_neg h2, if_neg (by simp)]; rfl
            rcases Int.lt_or_le (rn st 1000) 800 with h4 | h4
            · have hd4 : decide (800 ≤ rn st 1000) = false := by simp; omega
              have H4 := hid h4
              clear h4
              go_wp2_with fail
              refine (next_any st 1000 (w.heap.size + 1) _ hb (by omega) (by omega)).mono ?_
              rintro e w1 ⟨rfl, hb1, ho1⟩
              have HB1 := hid hb1
              have HX1 : Hid (Ext w w1) := ho1.ext hxr (by omega)
              have HO1 : Hid (w1.ownsRow w.heap.size 29 4 v k (actc (rndL S CK CR seed k))) := HOWN.out.kept ho1 (.inr (own_ne HOWN.out hb (by decide)))
              have HNE : Hid (w1.heap.size ≠ w.heap.size + 1) := fun e => by have := hb1.lt; omega
              have HSZ : Hid (w.heap.size ≤ w1.heap.size + 1 + 1) := by have := HX1.out.size; unfold Hid; omega
              clear hb1 ho1 hb hxr
              go_wp2_with fail
              refine (next_any (nxs st) S (w.heap.size + 1) _ (HB1.out.ext ((Ext.refl _).alloc _)) (by omega) (by omega)).mono ?_
              rintro e w2 ⟨rfl, hb2, ho2⟩
              have ha2 := ho2.blk (Blk.of_new w1 29 [.int .i64 1, .int .i64 0, .int .i64 0, .int .i64 0]) HNE.out
              have HA2 := hid ha2
              obtain ⟨hc0, hc1, hc2, hc3, hf0, hf1, hf2, hf3⟩ := bcells ha2
              have HB2 := hid hb2
              have HX2 : Hid (Ext w w2) := ho2.ext (HX1.out.alloc _) (by omega)
              have HO2 : Hid (w2.ownsRow w.heap.size 29 4 v k (actc (rndL S CK CR seed k))) := (ownN_ext HO1.out ((Ext.refl _).alloc _)).kept ho2 (.inr (own_ne HO1.out HB1.out (by decide)))
              have HSZ2 : Hid (w.heap.size ≤ w2.heap.size + 1) := by have := HX2.out.size; unfold Hid; omega
              have HLE : Hid (w.heap.size ≤ w1.heap.size) := HX1.out.size
              clear hb2 ho2 ha2
              have HNB : Hid (v.ownBlock ≠ some w1.heap.size) := fun e => by have := own_lt HO1.out e; omega
              have HOS := hid (own_set HO2.out HNB.out 1 (.int .i64 (rn (nxs st) S)))
              go_wp2_with (at_builtin; refine wpList_append_own _ rfl _ _ 24 rfl w.heap.size 29 i0 (.agg #[.int .i64 0, .int .i64 0, .int .i64 0, .int .i64 0]) 4 32 Tryd.underlying24 hi hz0 hz1 hz2 rfl (by decide) _ _ _ rfl (HOS.out.alloc _) ⟨_, 0, none⟩ 1 1 (Act.cells ⟨1, rn (nxs st) S, 0, 0⟩) rfl rfl (news_at _ _ _ _ (by simp)) (by intro u hu; simp [Act.cells] at hu; rcases hu with rfl | rfl | rfl | rfl <;> rfl) HK1.out HK2.out (by have := HSZ2.out; simpa using this) ?_; intro v' w9 hown' hgrow _)
              go_roundw
              case rel =>
                obtain ⟨q0, q1, q2, q3⟩ := rnd_rel HSTEP.out (HOS.out.alloc _) ((HB2.out.far (Ne.symm HNE.out) _).ext ((Ext.refl _).alloc _)) ((HX2.out.setCell HLE.out _).alloc _) hown' hgrow
                exact ⟨k + 1, _, by omega, by go_num, by rw [q0], rfl, q1, q2, q3⟩
              case measure => simp [intOf]; omega

            · go_wp2_with fail
              refine (next_any st 1000 (w.heap.size + 1) _ hb (by omega) (by omega)).mono ?_
              rintro e w1 ⟨rfl, hb1, ho1⟩
              have HB1 := hid hb1
              have HX1 : Hid (Ext w w1) := ho1.ext hxr (by omega)
              have HO1 : Hid (w1.ownsRow w.heap.size 29 4 v k (actc (rndL S CK CR seed k))) := HOWN.out.kept ho1 (.inr (own_ne HOWN.out hb (by decide)))
              have HNE : Hid (w1.heap.size ≠ w.heap.size + 1) := fun e => by have := hb1.lt; omega
              have HSZ : Hid (w.heap.size ≤ w1.heap.size + 1 + 1) := by have := HX1.out.size; unfold Hid; omega
              clear hb1 ho1 hb hxr
              go_wp2_with fail
              refine (next_any (nxs st) S (w.heap.size + 1) _ (HB1.out.ext ((Ext.refl _).alloc _)) (by omega) (by omega)).mono ?_
              rintro e w2 ⟨rfl, hb2, ho2⟩
              have ha2 := ho2.blk (Blk.of_new w1 29 [.int .i64 1, .int .i64 0, .int .i64 0, .int .i64 0]) HNE.out
              have HA2 := hid ha2
              obtain ⟨hc0, hc1, hc2, hc3, hf0, hf1, hf2, hf3⟩ := bcells ha2
              have HB2 := hid hb2
              have HX2 : Hid (Ext w w2) := ho2.ext (HX1.out.alloc _) (by omega)
              have HO2 : Hid (w2.ownsRow w.heap.size 29 4 v k (actc (rndL S CK CR seed k))) := (ownN_ext HO1.out ((Ext.refl _).alloc _)).kept ho2 (.inr (own_ne HO1.out HB1.out (by decide)))
              have HSZ2 : Hid (w.heap.size ≤ w2.heap.size + 1) := by have := HX2.out.size; unfold Hid; omega
              have HLE : Hid (w.heap.size ≤ w1.heap.size) := HX1.out.size
              clear hb2 ho2 ha2
              have HNB : Hid (v.ownBlock ≠ some w1.heap.size) := fun e => by have := own_lt HO1.out e; omega
              have HOS := hid (own_set HO2.out HNB.out 1 (.int .i64 (rn (nxs st) S)))
              go_wp2_with (at_builtin; refine wpList_append_own _ rfl _ _ 24 rfl w.heap.size 29 i0 (.agg #[.int .i64 0, .int .i64 0, .int .i64 0, .int .i64 0]) 4 32 Tryd.underlying24 hi hz0 hz1 hz2 rfl (by decide) _ _ _ rfl (HOS.out.alloc _) ⟨_, 0, none⟩ 1 1 (Act.cells ⟨1, rn (nxs st) S, 0, 0⟩) rfl rfl (news_at _ _ _ _ (by simp)) (by intro u hu; simp [Act.cells] at hu; rcases hu with rfl | rfl | rfl | rfl <;> rfl) HK1.out HK2.out (by have := HSZ2.out; simpa using this) ?_; intro v' w9 hown' hgrow _)
              go_roundw
              case rel =>
                obtain ⟨q0, q1, q2, q3⟩ := rnd_rel HSTEP.out (HOS.out.alloc _) ((HB2.out.far (Ne.symm HNE.out) _).ext ((Ext.refl _).alloc _)) ((HX2.out.setCell HLE.out _).alloc _) hown' hgrow
                exact ⟨k + 1, _, by omega, by go_num, by rw [q0], rfl, q1, q2, q3⟩
              case measure => simp [intOf]; omega

          · rcases Int.lt_or_le (rn st 1000) 800 with h4 | h4
            · have HSTEP : Hid (rstep S CK CR (rndS S CK CR seed k).1 (rndS S CK CR seed k).2 = (⟨1, rn (nxs st) S, 0, 0⟩, nxs (nxs st), true)) := by rw [HEQ.out]; unfold rstep; rw [if_neg h1, if_neg h2, if_neg (fun h => by omega)]; rfl
              have hd4 : decide (800 ≤ rn st 1000) = false := by simp; omega
              have H4 := hid h4
              clear h4
              go_wp2_with fail
              refine (next_any st 1000 (w.heap.size + 1) _ hb (by omega) (by omega)).mono ?_
              rintro e w1 ⟨rfl, hb1, ho1⟩
              have HB1 := hid hb1
              have HX1 : Hid (Ext w w1) := ho1.ext hxr (by omega)
              have HO1 : Hid (w1.ownsRow w.heap.size 29 4 v k (actc (rndL S CK CR seed k))) := HOWN.out.kept ho1 (.inr (own_ne HOWN.out hb (by decide)))
              have HNE : Hid (w1.heap.size ≠ w.heap.size + 1) := fun e => by have := hb1.lt; omega
              have HSZ : Hid (w.heap.size ≤ w1.heap.size + 1 + 1) := by have := HX1.out.size; unfold Hid; omega
              clear hb1 ho1 hb hxr
              go_wp2_with fail
              refine (next_any (nxs st) S (w.heap.size + 1) _ (HB1.out.ext ((Ext.refl _).alloc _)) (by omega) (by omega)).mono ?_
              rintro e w2 ⟨rfl, hb2, ho2⟩
              have ha2 := ho2.blk (Blk.of_new w1 29 [.int .i64 1, .int .i64 0, .int .i64 0, .int .i64 0]) HNE.out
              have HA2 := hid ha2
              obtain ⟨hc0, hc1, hc2, hc3, hf0, hf1, hf2, hf3⟩ := bcells ha2
              have HB2 := hid hb2
              have HX2 : Hid (Ext w w2) := ho2.ext (HX1.out.alloc _) (by omega)
              have HO2 : Hid (w2.ownsRow w.heap.size 29 4 v k (actc (rndL S CK CR seed k))) := (ownN_ext HO1.out ((Ext.refl _).alloc _)).kept ho2 (.inr (own_ne HO1.out HB1.out (by decide)))
              have HSZ2 : Hid (w.heap.size ≤ w2.heap.size + 1) := by have := HX2.out.size; unfold Hid; omega
              have HLE : Hid (w.heap.size ≤ w1.heap.size) := HX1.out.size
              clear hb2 ho2 ha2
              have HNB : Hid (v.ownBlock ≠ some w1.heap.size) := fun e => by have := own_lt HO1.out e; omega
              have HOS := hid (own_set HO2.out HNB.out 1 (.int .i64 (rn (nxs st) S)))
              go_wp2_with (at_builtin; refine wpList_append_own _ rfl _ _ 24 rfl w.heap.size 29 i0 (.agg #[.int .i64 0, .int .i64 0, .int .i64 0, .int .i64 0]) 4 32 Tryd.underlying24 hi hz0 hz1 hz2 rfl (by decide) _ _ _ rfl (HOS.out.alloc _) ⟨_, 0, none⟩ 1 1 (Act.cells ⟨1, rn (nxs st) S, 0, 0⟩) rfl rfl (news_at _ _ _ _ (by simp)) (by intro u hu; simp [Act.cells] at hu; rcases hu with rfl | rfl | rfl | rfl <;> rfl) HK1.out HK2.out (by have := HSZ2.out; simpa using this) ?_; intro v' w9 hown' hgrow _)
              go_roundw
              case rel =>
                obtain ⟨q0, q1, q2, q3⟩ := rnd_rel HSTEP.out (HOS.out.alloc _) ((HB2.out.far (Ne.symm HNE.out) _).ext ((Ext.refl _).alloc _)) ((HX2.out.setCell HLE.out _).alloc _) hown' hgrow
                exact ⟨k + 1, _, by omega, by go_num, by rw [q0], rfl, q1, q2, q3⟩
              case measure => simp [intOf]; omega

            · have HSTEP : Hid (rstep S CK CR (rndS S CK CR seed k).1 (rndS S CK CR seed k).2 = (⟨4, 0, 0, 0⟩, nxs st, false)) := by rw [HEQ.out]; unfold rstep; rw [if_neg h1, if_neg h2, if_pos ⟨h4, rfl⟩]; rfl
              go_wp2_with fail
              refine (next_any st 1000 (w.heap.size + 1) _ hb (by omega) (by omega)).mono ?_
              rintro e w1 ⟨rfl, hb1, ho1⟩
              have HB1 := hid hb1
              have HX1 : Hid (Ext w w1) := ho1.ext hxr (by omega)
              have HO1 : Hid (w1.ownsRow w.heap.size 29 4 v k (actc (rndL S CK CR seed k))) := HOWN.out.kept ho1 (.inr (own_ne HOWN.out hb (by decide)))
              have HNE : Hid (w1.heap.size ≠ w.heap.size + 1) := fun e => by have := hb1.lt; omega
              have HSZ : Hid (w.heap.size ≤ w1.heap.size + 1 + 1) := by have := HX1.out.size; unfold Hid; omega
              clear hb1 ho1 hb hxr
              go_wp2_with (at_builtin; refine wpList_append_own _ rfl _ _ 24 rfl w.heap.size 29 i0 (.agg #[.int .i64 0, .int .i64 0, .int .i64 0, .int .i64 0]) 4 32 Tryd.underlying24 hi hz0 hz1 hz2 rfl (by decide) _ _ _ rfl ((ownN_ext HO1.out ((Ext.refl _).alloc _)).alloc _) ⟨_, 0, none⟩ 1 1 (Act.cells ⟨4, 0, 0, 0⟩) rfl rfl (news_at _ _ _ _ (by simp)) (by intro u hu; simp [Act.cells] at hu; rcases hu with rfl | rfl | rfl | rfl <;> rfl) HK1.out HK2.out (by have := HSZ.out; simpa using this) ?_; intro v' w9 hown' hgrow _)
              go_roundw
              case rel =>
                obtain ⟨q0, q1, q2, q3⟩ := rnd_rel HSTEP.out ((ownN_ext HO1.out (((Ext.refl _).alloc _).alloc _))) (HB1.out.ext (((Ext.refl _).alloc _).alloc _)) ((HX1.out.alloc _).alloc _) hown' hgrow
                exact ⟨k + 1, _, by omega, by go_num, by rw [q0], rfl, q1, q2, q3⟩
              case measure => simp [intOf]; omega

    · obtain rfl : k = R := by omega
      go_wp2_with fail
      go_ret
      exact ⟨_, rfl, HOWN.out, hxr⟩

end Go.Proofs.YtcdinoepjimkmaaDoor
