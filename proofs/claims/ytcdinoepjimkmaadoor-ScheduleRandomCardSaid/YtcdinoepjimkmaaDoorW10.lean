/-
  Walks over the laws of the schedule package: ScheduleRandom, ScheduleSeeds.
-/
import Derived.Test.YtcdinoepjimkmaaDoorW8
import Derived.Test.YtcdinoepjimkmaaDoorW5
namespace Go.Proofs.YtcdinoepjimkmaaDoor
open Go.RowKit
set_option maxHeartbeats 2000000
set_option maxRecDepth 100000

/-- a random schedule for however many sessions -/
def rndN (S R : Nat) : Nat := if S = 0 then 0 else R
def rndA (S : Nat) (ck cr seed : Int) (R : Nat) : List Act := if S = 0 then [] else rndL S ck cr seed R
theorem rndA_len (S : Nat) (ck cr seed : Int) (R : Nat) : (rndA S ck cr seed R).length = rndN S R := by
  unfold rndA rndN
  split
  · rfl
  · exact rndL_len _ _ _ _ _

theorem random0 (s n ck cr seed : Int) (w : World) (hS : cl s 0 8 = 0) :
    Calls Tryd.prog 17 #[.int .i64 s, .int .i64 n, .agg #[.int .i64 ck, .int .i64 cr], .int .u64 seed] w fun e w' => e = .returned (.slice none 0 0) ∧ Ext w w' := by
  have HS := hid hS
  clear hS
  go_enter Tryd.func17, Tryd.ntmps17
  go_wp2_with fail
  refine (clamp_any s 8 _ (by omega)).mono ?_
  rintro e w' ⟨rfl, rfl⟩
  rw [HS.out]
  go_wp2_with fail
  go_ret
  exact ⟨rfl, (Ext.refl w).alloc _⟩
theorem rrandom0 (s n ck cr seed : Int) (w : World) (hS : cl s 0 8 = 0) :
    Calls Tryd.prog 18 #[.int .i64 s, .int .i64 n, .int .i64 ck, .int .i64 cr, .int .u64 seed] w fun e w' => e = .returned (.slice none 0 0) ∧ Ext w w' := by
  have HS := hid hS
  clear hS
  go_enter Tryd.func18, Tryd.ntmps18
  go_wp2_with fail
  refine (rclamp_any s 0 8 _).mono ?_
  rintro e w' ⟨rfl, rfl⟩
  rw [HS.out]
  go_wp2_with fail
  go_ret
  exact ⟨rfl, Ext.refl w⟩

theorem acts_nil (w : World) (A : Option Addr) : ActsAt w A [] := fun i a h => by simp at h
theorem random_all (s n ck cr seed : Int) (S R : Nat) (w : World) (hS : cl s 0 8 = (S : Int)) (hR : cl n 0 10000 = (R : Int)) :
    Calls Tryd.prog 17 #[.int .i64 s, .int .i64 n, .agg #[.int .i64 ck, .int .i64 cr], .int .u64 seed] w fun e w' => ∃ A c, e = .returned (.slice A (rndN S R) c) ∧ ActsAt w' A (rndA S (cl ck 0 1000) (cl cr 0 1000) seed R) ∧ Ext w w' := by
  by_cases h0 : S = 0
  · subst h0
    refine (random0 s n ck cr seed w hS).mono ?_
    rintro e w' ⟨rfl, hx⟩
    exact ⟨_, _, rfl, by unfold rndA; rw [if_pos rfl]; exact acts_nil _ _, hx⟩
  · refine (random_any s n ck cr seed S R w hS hR (by omega)).mono ?_
    rintro e w' ⟨v, rfl, hown, hx⟩
    obtain ⟨A, c, rfl, ha, hl⟩ := own_acts hown
    refine ⟨A, c, ?_, ?_, hx⟩
    · unfold rndN; rw [if_neg h0]
    · unfold rndA; rw [if_neg h0]; exact ha
theorem rrandom_all (s n ck cr seed : Int) (S R : Nat) (w : World) (hS : cl s 0 8 = (S : Int)) (hR : cl n 0 10000 = (R : Int)) :
    Calls Tryd.prog 18 #[.int .i64 s, .int .i64 n, .int .i64 ck, .int .i64 cr, .int .u64 seed] w fun e w' => ∃ A c, e = .returned (.slice A (rndN S R) c) ∧ ActsAt w' A (rndA S (cl ck 0 1000) (cl cr 0 1000) seed R) ∧ Ext w w' := by
  by_cases h0 : S = 0
  · subst h0
    refine (rrandom0 s n ck cr seed w hS).mono ?_
    rintro e w' ⟨rfl, hx⟩
    exact ⟨_, _, rfl, by unfold rndA; rw [if_pos rfl]; exact acts_nil _ _, hx⟩
  · refine (rrandom_any s n ck cr seed S R w hS hR (by omega)).mono ?_
    rintro e w' ⟨v, rfl, hown, hx⟩
    obtain ⟨A, c, rfl, ha, hl⟩ := own_acts hown
    refine ⟨A, c, ?_, ?_, hx⟩
    · unfold rndN; rw [if_neg h0]
    · unfold rndA; rw [if_neg h0]; exact ha

theorem law_random (s n ck cr : Int) (w : World) (_bs : -9223372036854775808 ≤ s ∧ s ≤ 9223372036854775807) (_bn : -9223372036854775808 ≤ n ∧ n ≤ 9223372036854775807)
    (_b0 : -9223372036854775808 ≤ ck ∧ ck ≤ 9223372036854775807) (_b1 : -9223372036854775808 ≤ cr ∧ cr ≤ 9223372036854775807) :
    Calls Tryd.prog 6 #[.int .i64 s, .int .i64 n, .agg #[.int .i64 ck, .int .i64 cr]] w fun e w' => e = .returned (.bool true) ∧ Ext w w' := by
  have hc0 : ∀ {W w' : World}, Ext (W.alloc (.cells #[.int .i64 ck, .int .i64 cr] 32)) w' → w'.cell? ⟨W.heap.size, 0, none⟩ = some (.int .i64 ck) ∧ w'.cell? ⟨W.heap.size, 1, none⟩ = some (.int .i64 cr) :=
    fun {W w'} hx => ⟨hx.keep (World.cell?_alloc_new W #[.int .i64 ck, .int .i64 cr] 32 0), hx.keep (World.cell?_alloc_new W #[.int .i64 ck, .int .i64 cr] 32 1)⟩
  have HC0 : Hid (∀ w', Ext (w.alloc (.cells #[.int .i64 ck, .int .i64 cr] 32)) w' → w'.cell? ⟨w.heap.size, 0, none⟩ = some (.int .i64 ck) ∧ w'.cell? ⟨w.heap.size, 1, none⟩ = some (.int .i64 cr)) := fun w' hx => hc0 hx
  clear hc0
  cases hf : (decide (n ≤ 300) || decide (s < 1))
  · go_enter Tryd.func6, Tryd.ntmps6
    go_wp2_with fail
    refine (awake_any _).mono ?_
    rintro e w1 ⟨rfl, hx1⟩
    go_wp2_with fail
    refine (few_any s n _).mono ?_
    rintro e w1' ⟨rfl, rfl⟩
    rw [hf]
    go_wp2_with fail
    refine (awake_any _).mono ?_
    rintro e w2 ⟨rfl, hx2⟩
    go_wp2_with fail
    go_ret
    exact ⟨rfl, (((Ext.refl w).alloc _).trans hx1).trans hx2⟩
  · obtain ⟨S, hS⟩ : ∃ S : Nat, cl s 0 8 = (S : Int) := ⟨(cl s 0 8).toNat, by have := cl_bd s 0 8 (by omega); omega⟩
    obtain ⟨R, hR⟩ : ∃ R : Nat, cl n 0 10000 = (R : Int) := ⟨(cl n 0 10000).toNat, by have := cl_bd n 0 10000 (by omega); omega⟩
    have HM : Hid (rndN S R ≤ maxLen) := by
      have h2 : R ≤ 10000 := by have := cl_bd n 0 10000 (by omega); omega
      unfold Hid maxLen rndN
      split <;> omega
    have HS := hid hS
    have HR := hid hR
    clear hS hR
    go_enter Tryd.func6, Tryd.ntmps6
    go_wp2_with fail
    refine (awake_any _).mono ?_
    rintro e w1 ⟨rfl, hx1⟩
    obtain ⟨hc0, hc1⟩ := HC0.out _ hx1
    have HX1 : Hid (Ext w w1) := ((Ext.refl w).alloc _).trans hx1
    clear hx1
    go_wp2_with fail
    refine (few_any s n _).mono ?_
    rintro e w1' ⟨rfl, rfl⟩
    rw [hf]
    go_wp2_with fail
    generalize IntKind.u64.wrap (IntKind.u64.wrap (IntKind.u64.wrap n * 1000003) + IntKind.u64.wrap s) = seed
    go_region_held3 (fun w' => w'.cell? ⟨w.heap.size, 0, none⟩ = some (.int .i64 ck) ∧ w'.cell? ⟨w.heap.size, 1, none⟩ = some (.int .i64 cr))
      (first | (refine ⟨?_, ?_⟩ <;> (refine hx4.keep ?_; (simp [*]; done))) | (refine ⟨?_, ?_⟩ <;> (refine hx2.keep ?_; (simp [*]; done))) | (refine ⟨?_, ?_⟩ <;> (refine hx3.keep ?_; (simp [*]; done))) | go_keep)
      (first
        | (go_at_call 17; refine (random_all s n ck cr seed S R _ HS.out HR.out).mono ?_; rintro e w2 ⟨A1, c1, rfl, ha1, hx2⟩; have HA1 := hid ha1; clear ha1)
        | (go_at_call 18; refine (rrandom_all s n ck cr seed S R _ HS.out HR.out).mono ?_; rintro e w3 ⟨A2, c2, rfl, ha2, hx3⟩; have HA2 := hid ha2; clear ha2)
        | (go_at_call 13; refine (same_any A1 A2 _ (rndN S R) c1 c2 _ (HA1.out.ext hx3) HA2.out (rndA_len _ _ _ _ _) HM.out).mono ?_; rintro e w4 ⟨rfl, hx4⟩)
        | (go_at_call 13; refine (same_any A1 A2 _ (rndN S R) c1 c2 _ HA1.out (HA2.out.ext hx2) (rndA_len _ _ _ _ _) HM.out).mono ?_; rintro e w4 ⟨rfl, hx4⟩))
    all_goals
      go_wp2_with fail
      go_ret
      first
      | exact ⟨rfl, ((HX1.out.drew.trans hx2).trans hx3).trans hx4⟩
      | exact ⟨rfl, ((HX1.out.drew.trans hx3).trans hx2).trans hx4⟩

theorem law_seeds (a b seed : Int) (w : World) (ha : 0 ≤ a ∧ a ≤ 255) (hb : 0 ≤ b ∧ b ≤ 255) (_hs : 0 ≤ seed ∧ seed ≤ 18446744073709551615) :
    Calls Tryd.prog 7 #[.int .u8 a, .int .u8 b, .int .u64 seed] w fun e w' => e = .returned (.bool true) ∧ Ext w w' := by
  obtain ⟨S, hS⟩ : ∃ S : Nat, a % 8 + 1 = (S : Int) := ⟨(a % 8 + 1).toNat, by omega⟩
  obtain ⟨R, rfl⟩ : ∃ R : Nat, b = (R : Int) := ⟨b.toNat, by omega⟩
  have hS1 : 1 ≤ S ∧ S ≤ 8 := by omega
  have HCS : Hid (cl (S : Int) 0 8 = (S : Int)) := cl_id _ _ _ (by omega) (by omega)
  have HCR : Hid (cl (R : Int) 0 10000 = (R : Int)) := cl_id _ _ _ (by omega) (by omega)
  have HN : Hid (rndN S R = R) := by unfold Hid rndN; rw [if_neg (by omega)]
  have HM : Hid (R ≤ maxLen) := by unfold Hid maxLen; omega
  have HV : Hid (validB (rndA S (cl 20 0 1000) (cl 50 0 1000) seed R) (S : Int) = true) := by
    unfold Hid rndA; rw [if_neg (by omega)]
    exact rnd_valid _ _ _ _ _ (by omega)
  have HL : Hid ((rndA S (cl 20 0 1000) (cl 50 0 1000) seed R).length = R) := by
    unfold Hid
    rw [rndA_len, HN.out]
  have hc0 : ∀ {W w' : World}, Ext (W.alloc (.cells #[.int .i64 20, .int .i64 50] 32)) w' → w'.cell? ⟨W.heap.size, 0, none⟩ = some (.int .i64 20) ∧ w'.cell? ⟨W.heap.size, 1, none⟩ = some (.int .i64 50) :=
    fun {W w'} hx => ⟨hx.keep (World.cell?_alloc_new W #[.int .i64 20, .int .i64 50] 32 0), hx.keep (World.cell?_alloc_new W #[.int .i64 20, .int .i64 50] 32 1)⟩
  have hR : R ≤ 255 := by omega
  have hbb : ((R : Int) == (R : Int)) = true := by simp
  clear hc0
  go_enter Tryd.func7, Tryd.ntmps7
  go_wp2_with fail
  have HS := hid hS
  clear hS
  refine (awake_any _).mono ?_
  rintro e w1 ⟨rfl, hx1⟩
  go_wp2_with fail
  refine (random_all S R 20 50 seed S R _ HCS.out HCR.out).mono ?_
  rintro e w2 ⟨A1, c1, rfl, ha1, hx2⟩
  rw [HN.out]
  have HA1 := hid ha1
  have HX2 : Hid (Ext w w2) := (hx1.alloc _).trans hx2
  clear ha1 hx1 hx2
  go_wp2_with fail
  refine (valid_any A1 _ R c1 S _ HA1.out HL.out HM.out).mono ?_
  rintro e w3 ⟨rfl, hx3⟩
  rw [HV.out]
  go_wp2_with fail
  refine (rvalid_any A1 _ R c1 S _ (HA1.out.ext hx3) HL.out HM.out).mono ?_
  rintro e w4 ⟨rfl, hx4⟩
  rw [HV.out]
  go_wp2_with fail
  refine (rrandom_all S R 20 50 seed S R _ HCS.out HCR.out).mono ?_
  rintro e w5 ⟨A2, c2, rfl, ha2, hx5⟩
  rw [HN.out]
  have HA2 := hid ha2
  clear ha2
  go_wp2_with fail
  refine (same_any A1 A2 _ R c1 c2 _ (((HA1.out.ext hx3).ext hx4).ext hx5) HA2.out HL.out HM.out).mono ?_
  rintro e w6 ⟨rfl, hx6⟩
  go_wp2_with fail
  go_ret
  exact ⟨rfl, (((HX2.out.trans hx3).trans hx4).trans hx5).trans hx6⟩

end Go.Proofs.YtcdinoepjimkmaaDoor
