/-
  Walks over the schedule package's reference: Random.
-/
import Derived.Test.YtcdinoepjimkmaaDoorW4
namespace Go.Proofs.YtcdinoepjimkmaaDoor
open Go.RowKit
set_option maxHeartbeats 2000000
set_option maxRecDepth 100000

theorem rndS_A {S ck cr st : Int} {o : Bool} (h : rn st 1000 < ck) : rstep S ck cr st o = (⟨2, 0, 0, 0⟩, nxs st, o) := by unfold rstep; rw [if_pos h]
theorem rndS_B {S ck cr st : Int} {o : Bool} (h : ¬ rn st 1000 < ck) (h2 : rn st 1000 < ck + cr) (h3 : 0 < rn (nxs st) 6) : rstep S ck cr st o = (⟨3, 0, rn (nxs st) 6, rn (nxs (nxs st)) 65⟩, nxs (nxs (nxs st)), true) := by unfold rstep; rw [if_neg h, if_pos h2, if_pos h3]
theorem rndS_C {S ck cr st : Int} {o : Bool} (h : ¬ rn st 1000 < ck) (h2 : rn st 1000 < ck + cr) (h3 : ¬ 0 < rn (nxs st) 6) : rstep S ck cr st o = (⟨3, 0, rn (nxs st) 6, 0⟩, nxs (nxs st), true) := by unfold rstep; rw [if_neg h, if_pos h2, if_neg h3]
theorem rndS_D {S ck cr st : Int} {o : Bool} (h : ¬ rn st 1000 < ck) (h2 : ¬ rn st 1000 < ck + cr) (h3 : 800 ≤ rn st 1000) (ho : o = true) : rstep S ck cr st o = (⟨4, 0, 0, 0⟩, nxs st, false) := by unfold rstep; rw [if_neg h, if_neg h2, if_pos ⟨h3, ho⟩]
theorem rndS_E {S ck cr st : Int} {o : Bool} (h : ¬ rn st 1000 < ck) (h2 : ¬ rn st 1000 < ck + cr) (h3 : ¬ (800 ≤ rn st 1000 ∧ o = true)) : rstep S ck cr st o = (⟨1, rn (nxs st) S, 0, 0⟩, nxs (nxs st), o) := by unfold rstep; rw [if_neg h, if_neg h2, if_neg h3]
theorem rnd_rel2 {w w0 w1 : World} {S CK CR seed : Int} {k : Nat} {v v' : Value} {a : Act} {st2 : Int} {o2 : Bool}
    (hstep : rstep S CK CR (rndS S CK CR seed k).1 (rndS S CK CR seed k).2 = (a, st2, o2))
    (hown0 : w0.ownsRow w.heap.size 29 4 v k (actc (rndL S CK CR seed k))) (hx : Ext w w0)
    (hown : w1.ownsRow w.heap.size 29 4 v' (k + 1) (actc (rndL S CK CR seed k) ++ a.cells)) (hg : w0.grownBy w1 v.ownBlock) :
    rndS S CK CR seed (k + 1) = (st2, o2) ∧ w1.ownsRow w.heap.size 29 4 v' (k + 1) (actc (rndL S CK CR seed (k + 1))) ∧ Ext w w1 := by
  have e1 : rndS S CK CR seed (k + 1) = (st2, o2) := by rw [rndS, hstep]
  have e2 : rndL S CK CR seed (k + 1) = rndL S CK CR seed k ++ [a] := by rw [rndL, hstep]
  refine ⟨e1, ?_, Ext.grown hx hg (fun g hg => own_ge hown0 hg)⟩
  rw [e2, actc_snoc]; exact hown

theorem rrandom_any (s n ck cr seed : Int) (S R : Nat) (w : World) (hS : cl s 0 8 = (S : Int)) (hR : cl n 0 10000 = (R : Int)) (hp : 1 ≤ S) :
    Calls Tryd.prog 18 #[.int .i64 s, .int .i64 n, .int .i64 ck, .int .i64 cr, .int .u64 seed] w fun e w' => ∃ v, e = .returned v ∧ w'.ownsRow w.heap.size 29 4 v R (actc (rndL S (cl ck 0 1000) (cl cr 0 1000) seed R)) ∧ Ext w w' := by
  obtain ⟨i0, hi, hz0, hz1, hz2⟩ := info_parts info29
  have hS8 : S ≤ 8 := by have := (cl_bd s 0 8 (by omega)).2; omega
  have hR8 : R ≤ 10000 := by have := (cl_bd n 0 10000 (by omega)).2; omega
  have hS0 : ((S : Int) == 0) = false := by simp; omega
  have HS := hid hS
  have HR := hid hR
  clear hS hR
  have c1 := cl_bd ck 0 1000 (by omega)
  have c2 := cl_bd cr 0 1000 (by omega)
  generalize hck : cl ck 0 1000 = CK at *
  generalize hcr : cl cr 0 1000 = CR at *
  have HCK := hid hck
  have HCR := hid hcr
  clear hck hcr
  have hA1 : ∀ W : World, Calls Tryd.prog 24 #[.int .i64 ck, .int .i64 0, .int .i64 1000] W fun e w' => e = .returned (.int .i64 CK) ∧ W = w' := fun W => by rw [← HCK.out]; exact rclamp_any ck 0 1000 W
  have hA2 : ∀ W : World, Calls Tryd.prog 24 #[.int .i64 cr, .int .i64 0, .int .i64 1000] W fun e w' => e = .returned (.int .i64 CR) ∧ W = w' := fun W => by rw [← HCR.out]; exact rclamp_any cr 0 1000 W
  go_enter Tryd.func18, Tryd.ntmps18
  go_wp2_with fail
  refine (rclamp_any s 0 8 _).mono ?_
  rintro e w' ⟨rfl, rfl⟩
  rw [HS.out]
  go_wp2_with fail
  refine (hA1 _).mono ?_
  rintro e w' ⟨rfl, rfl⟩
  go_wp2_with fail
  refine (hA2 _).mono ?_
  rintro e w' ⟨rfl, rfl⟩
  clear hA1 hA2
  go_wp2_with fail
  go_loopw [11, 12, 13, 15] (fun sv ov tv i wr => ∃ (k : Nat) (v : Value), k ≤ R ∧ i = .int .i64 k ∧ ov = .bool (rndS S CK CR seed k).2 ∧ tv = .int .u64 (rndS S CK CR seed k).1 ∧ v = sv ∧ wr.ownsRow w.heap.size 29 4 v k (actc (rndL S CK CR seed k)) ∧ Ext w wr) (fun _ _ _ i _ => R - (intOf i).toNat)
  case atStart => exact ⟨0, _, Nat.zero_le _, rfl, rfl, rfl, rfl, World.ownsRow_nil _ _ _ _, Ext.refl w⟩
  case round =>
    obtain ⟨k, v, hk, rfl, rfl, rfl, rfl, hown, hxr⟩ := hrel
    have HOWN := hid hown
    have HX := hid hxr
    have HSZ : Hid (w.heap.size ≤ wr.heap.size + 1 + 1) := by have := hxr.size; unfold Hid; omega
    clear hown hxr
    by_cases hlt : k < R
    · have HK1 : Hid (k + 1 ≤ maxLen) := by unfold Hid maxLen; omega
      have HK2 : Hid ((k + 1) * 32 ≤ 140737488355328) := by unfold Hid; omega
      have HREF : Hid (∀ st o, st = (rndS S CK CR seed k).1 → o = (rndS S CK CR seed k).2 → rstep S CK CR (rndS S CK CR seed k).1 (rndS S CK CR seed k).2 = rstep S CK CR st o) := fun st o h1 h2 => by rw [h1, h2]
      generalize hst : (rndS S CK CR seed k).1 = st
      generalize ho : (rndS S CK CR seed k).2 = o
      have HEQ : Hid (rstep S CK CR (rndS S CK CR seed k).1 (rndS S CK CR seed k).2 = rstep S CK CR st o) := HREF.out st o hst.symm ho.symm
      clear hst ho HREF
      have z1 := mz_lo (nxs st)
      have z2 := mz_lo (nxs (nxs st))
      have z3 := mz_lo (nxs (nxs (nxs st)))
      have z4 := rn_lo (nxs st) S (by omega)
      have z5 := rn_hi (nxs st) S (by omega)
      unfold rn at z4 z5
      by_cases h1 : mz (nxs st) % 1000 < CK
      · have HSTEP : Hid (rstep S CK CR (rndS S CK CR seed k).1 (rndS S CK CR seed k).2 = (⟨2, 0, 0, 0⟩, nxs st, o)) := by rw [HEQ.out]; exact rndS_A h1
        go_wp2_with (first | (go_at_call 24; refine (rclamp_any n 0 10000 _).mono ?_; rintro e w' ⟨rfl, rfl⟩; rw [HR.out]) | (go_at_call 28; refine (rnext_any _ _).mono ?_; rintro e w' ⟨rfl, rfl⟩) | (at_builtin; refine wpList_append_own _ rfl _ _ 24 rfl w.heap.size 29 i0 (.agg #[.int .i64 0, .int .i64 0, .int .i64 0, .int .i64 0]) 4 32 Tryd.underlying24 hi hz0 hz1 hz2 rfl (by decide) _ _ _ rfl ((ownN_ext HOWN.out ((Ext.refl _).alloc _)).alloc _) ⟨_, 0, none⟩ 1 1 (Act.cells ⟨2, 0, 0, 0⟩) rfl rfl (news_at _ _ _ _ (by simp)) (by intro u hu; simp [Act.cells] at hu; rcases hu with rfl | rfl | rfl | rfl <;> rfl) HK1.out HK2.out (by have := HSZ.out; simpa using this) ?_; intro v' w9 hown' hgrow _))
        go_roundw
        case rel =>
          obtain ⟨q0, q1, q2⟩ := rnd_rel2 HSTEP.out (ownN_ext HOWN.out (((Ext.refl _).alloc _).alloc _)) ((HX.out.alloc _).alloc _) hown' hgrow
          exact ⟨k + 1, _, by omega, by go_num, by rw [q0], by rw [q0], rfl, q1, q2⟩
        case measure => simp [intOf]; omega

      · by_cases h2 : mz (nxs st) % 1000 < CK + CR
        · by_cases h3 : 0 < mz (nxs (nxs st)) % 6
          · have HSTEP : Hid (rstep S CK CR (rndS S CK CR seed k).1 (rndS S CK CR seed k).2 = (⟨3, 0, mz (nxs (nxs st)) % 6, mz (nxs (nxs (nxs st))) % 65⟩, nxs (nxs (nxs st)), true)) := by rw [HEQ.out]; exact rndS_B h1 h2 h3
            go_wp2_with (first | (go_at_call 24; refine (rclamp_any n 0 10000 _).mono ?_; rintro e w' ⟨rfl, rfl⟩; rw [HR.out]) | (go_at_call 28; refine (rnext_any _ _).mono ?_; rintro e w' ⟨rfl, rfl⟩) | (at_builtin; refine wpList_append_own _ rfl _ _ 24 rfl w.heap.size 29 i0 (.agg #[.int .i64 0, .int .i64 0, .int .i64 0, .int .i64 0]) 4 32 Tryd.underlying24 hi hz0 hz1 hz2 rfl (by decide) _ _ _ rfl ((ownN_ext HOWN.out ((Ext.refl _).alloc _)).alloc _) ⟨_, 0, none⟩ 1 1 (Act.cells ⟨3, 0, mz (nxs (nxs st)) % 6, mz (nxs (nxs (nxs st))) % 65⟩) rfl rfl (news_at _ _ _ _ (by simp)) (by intro u hu; simp [Act.cells] at hu; rcases hu with rfl | rfl | rfl | rfl <;> rfl) HK1.out HK2.out (by have := HSZ.out; simpa using this) ?_; intro v' w9 hown' hgrow _))
            go_roundw
            case rel =>
              obtain ⟨q0, q1, q2⟩ := rnd_rel2 HSTEP.out (ownN_ext HOWN.out (((Ext.refl _).alloc _).alloc _)) ((HX.out.alloc _).alloc _) hown' hgrow
              exact ⟨k + 1, _, by omega, by go_num, by rw [q0], by rw [q0], rfl, q1, q2⟩
            case measure => simp [intOf]; omega

          · have HSTEP : Hid (rstep S CK CR (rndS S CK CR seed k).1 (rndS S CK CR seed k).2 = (⟨3, 0, mz (nxs (nxs st)) % 6, 0⟩, nxs (nxs st), true)) := by rw [HEQ.out]; exact rndS_C h1 h2 h3
            go_wp2_with (first | (go_at_call 24; refine (rclamp_any n 0 10000 _).mono ?_; rintro e w' ⟨rfl, rfl⟩; rw [HR.out]) | (go_at_call 28; refine (rnext_any _ _).mono ?_; rintro e w' ⟨rfl, rfl⟩) | (at_builtin; refine wpList_append_own _ rfl _ _ 24 rfl w.heap.size 29 i0 (.agg #[.int .i64 0, .int .i64 0, .int .i64 0, .int .i64 0]) 4 32 Tryd.underlying24 hi hz0 hz1 hz2 rfl (by decide) _ _ _ rfl ((ownN_ext HOWN.out ((Ext.refl _).alloc _)).alloc _) ⟨_, 0, none⟩ 1 1 (Act.cells ⟨3, 0, mz (nxs (nxs st)) % 6, 0⟩) rfl rfl (news_at _ _ _ _ (by simp)) (by intro u hu; simp [Act.cells] at hu; rcases hu with rfl | rfl | rfl | rfl <;> rfl) HK1.out HK2.out (by have := HSZ.out; simpa using this) ?_; intro v' w9 hown' hgrow _))
            go_roundw
            case rel =>
              obtain ⟨q0, q1, q2⟩ := rnd_rel2 HSTEP.out (ownN_ext HOWN.out (((Ext.refl _).alloc _).alloc _)) ((HX.out.alloc _).alloc _) hown' hgrow
              exact ⟨k + 1, _, by omega, by go_num, by rw [q0], by rw [q0], rfl, q1, q2⟩
            case measure => simp [intOf]; omega

        · cases o
          · rcases Int.lt_or_le (mz (nxs st) % 1000) 800 with h4 | h4
            · have HSTEP : Hid (rstep S CK CR (rndS S CK CR seed k).1 (rndS S CK CR seed k).2 = (⟨1, mz (nxs (nxs st)) % S, 0, 0⟩, nxs (nxs st), false)) := by rw [HEQ.out]; exact rndS_E h1 h2 (by simp)
              have hd4 : decide (800 ≤ mz (nxs st) % 1000) = false := by simp; omega
              have H4 := hid h4
              clear h4
              go_wp2_with (first | (go_at_call 24; refine (rclamp_any n 0 10000 _).mono ?_; rintro e w' ⟨rfl, rfl⟩; rw [HR.out]) | (go_at_call 28; refine (rnext_any _ _).mono ?_; rintro e w' ⟨rfl, rfl⟩) | (at_builtin; refine wpList_append_own _ rfl _ _ 24 rfl w.heap.size 29 i0 (.agg #[.int .i64 0, .int .i64 0, .int .i64 0, .int .i64 0]) 4 32 Tryd.underlying24 hi hz0 hz1 hz2 rfl (by decide) _ _ _ rfl ((ownN_ext HOWN.out ((Ext.refl _).alloc _)).alloc _) ⟨_, 0, none⟩ 1 1 (Act.cells ⟨1, mz (nxs (nxs st)) % S, 0, 0⟩) rfl rfl (news_at _ _ _ _ (by simp)) (by intro u hu; simp [Act.cells] at hu; rcases hu with rfl | rfl | rfl | rfl <;> rfl) HK1.out HK2.out (by have := HSZ.out; simpa using this) ?_; intro v' w9 hown' hgrow _))
              go_roundw
              case rel =>
                obtain ⟨q0, q1, q2⟩ := rnd_rel2 HSTEP.out (ownN_ext HOWN.out (((Ext.refl _).alloc _).alloc _)) ((HX.out.alloc _).alloc _) hown' hgrow
                exact ⟨k + 1, _, by omega, by go_num, by rw [q0], by rw [q0], rfl, q1, q2⟩
              case measure => simp [intOf]; omega

            · have HSTEP : Hid (rstep S CK CR (rndS S CK CR seed k).1 (rndS S CK CR seed k).2 = (⟨1, mz (nxs (nxs st)) % S, 0, 0⟩, nxs (nxs st), false)) := by rw [HEQ.out]; exact rndS_E h1 h2 (by simp)
              go_wp2_with (first | (go_at_call 24; refine (rclamp_any n 0 10000 _).mono ?_; rintro e w' ⟨rfl, rfl⟩; rw [HR.out]) | (go_at_call 28; refine (rnext_any _ _).mono ?_; rintro e w' ⟨rfl, rfl⟩) | (at_builtin; refine wpList_append_own _ rfl _ _ 24 rfl w.heap.size 29 i0 (.agg #[.int .i64 0, .int .i64 0, .int .i64 0, .int .i64 0]) 4 32 Tryd.underlying24 hi hz0 hz1 hz2 rfl (by decide) _ _ _ rfl ((ownN_ext HOWN.out ((Ext.refl _).alloc _)).alloc _) ⟨_, 0, none⟩ 1 1 (Act.cells ⟨1, mz (nxs (nxs st)) % S, 0, 0⟩) rfl rfl (news_at _ _ _ _ (by simp)) (by intro u hu; simp [Act.cells] at hu; rcases hu with rfl | rfl | rfl | rfl <;> rfl) HK1.out HK2.out (by have := HSZ.out; simpa using this) ?_; intro v' w9 hown' hgrow _))
              go_roundw
              case rel =>
                obtain ⟨q0, q1, q2⟩ := rnd_rel2 HSTEP.out (ownN_ext HOWN.out (((Ext.refl _).alloc _).alloc _)) ((HX.out.alloc _).alloc _) hown' hgrow
                exact ⟨k + 1, _, by omega, by go_num, by rw [q0], by rw [q0], rfl, q1, q2⟩
              case measure => simp [intOf]; omega

          · rcases Int.lt_or_le (mz (nxs st) % 1000) 800 with h4 | h4
            · have HSTEP : Hid (rstep S CK CR (rndS S CK CR seed k).1 (rndS S CK CR seed k).2 = (⟨1, mz (nxs (nxs st)) % S, 0, 0⟩, nxs (nxs st), true)) := by rw [HEQ.out]; exact rndS_E h1 h2 (fun h => Int.not_lt.2 h.1 h4)
              have hd4 : decide (800 ≤ mz (nxs st) % 1000) = false := by simp; omega
              have H4 := hid h4
              clear h4
              go_wp2_with (first | (go_at_call 24; refine (rclamp_any n 0 10000 _).mono ?_; rintro e w' ⟨rfl, rfl⟩; rw [HR.out]) | (go_at_call 28; refine (rnext_any _ _).mono ?_; rintro e w' ⟨rfl, rfl⟩) | (at_builtin; refine wpList_append_own _ rfl _ _ 24 rfl w.heap.size 29 i0 (.agg #[.int .i64 0, .int .i64 0, .int .i64 0, .int .i64 0]) 4 32 Tryd.underlying24 hi hz0 hz1 hz2 rfl (by decide) _ _ _ rfl ((ownN_ext HOWN.out ((Ext.refl _).alloc _)).alloc _) ⟨_, 0, none⟩ 1 1 (Act.cells ⟨1, mz (nxs (nxs st)) % S, 0, 0⟩) rfl rfl (news_at _ _ _ _ (by simp)) (by intro u hu; simp [Act.cells] at hu; rcases hu with rfl | rfl | rfl | rfl <;> rfl) HK1.out HK2.out (by have := HSZ.out; simpa using this) ?_; intro v' w9 hown' hgrow _))
              go_roundw
              case rel =>
                obtain ⟨q0, q1, q2⟩ := rnd_rel2 HSTEP.out (ownN_ext HOWN.out (((Ext.refl _).alloc _).alloc _)) ((HX.out.alloc _).alloc _) hown' hgrow
                exact ⟨k + 1, _, by omega, by go_num, by rw [q0], by rw [q0], rfl, q1, q2⟩
              case measure => simp [intOf]; omega

            · have HSTEP : Hid (rstep S CK CR (rndS S CK CR seed k).1 (rndS S CK CR seed k).2 = (⟨4, 0, 0, 0⟩, nxs st, false)) := by rw [HEQ.out]; exact rndS_D h1 h2 h4 rfl
              go_wp2_with (first | (go_at_call 24; refine (rclamp_any n 0 10000 _).mono ?_; rintro e w' ⟨rfl, rfl⟩; rw [HR.out]) | (go_at_call 28; refine (rnext_any _ _).mono ?_; rintro e w' ⟨rfl, rfl⟩) | (at_builtin; refine wpList_append_own _ rfl _ _ 24 rfl w.heap.size 29 i0 (.agg #[.int .i64 0, .int .i64 0, .int .i64 0, .int .i64 0]) 4 32 Tryd.underlying24 hi hz0 hz1 hz2 rfl (by decide) _ _ _ rfl ((ownN_ext HOWN.out ((Ext.refl _).alloc _)).alloc _) ⟨_, 0, none⟩ 1 1 (Act.cells ⟨4, 0, 0, 0⟩) rfl rfl (news_at _ _ _ _ (by simp)) (by intro u hu; simp [Act.cells] at hu; rcases hu with rfl | rfl | rfl | rfl <;> rfl) HK1.out HK2.out (by have := HSZ.out; simpa using this) ?_; intro v' w9 hown' hgrow _))
              go_roundw
              case rel =>
                obtain ⟨q0, q1, q2⟩ := rnd_rel2 HSTEP.out (ownN_ext HOWN.out (((Ext.refl _).alloc _).alloc _)) ((HX.out.alloc _).alloc _) hown' hgrow
                exact ⟨k + 1, _, by omega, by go_num, by rw [q0], by rw [q0], rfl, q1, q2⟩
              case measure => simp [intOf]; omega

    · obtain rfl : k = R := by omega
      go_wp2_with (go_at_call 24; refine (rclamp_any n 0 10000 _).mono ?_; rintro e w' ⟨rfl, rfl⟩; rw [HR.out])
      go_ret
      exact ⟨_, rfl, HOWN.out, HX.out⟩

end Go.Proofs.YtcdinoepjimkmaaDoor
