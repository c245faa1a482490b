/-
  Walks over the laws of the schedule package: the examples; ScheduleValid, ScheduleRoundRobin.
-/
import Derived.Test.YtcdinoepjimkmaaDoorW7
namespace Go.Proofs.YtcdinoepjimkmaaDoor
open Go.RowKit
set_option maxHeartbeats 1000000
set_option maxRecDepth 100000

theorem acts_at {w : World} {b off : Nat} {l : List Act} (h : ActsAt w (some ⟨b, off, none⟩) l) {i : Nat} {a : Act} (ha : l[i]? = some a) :
    w.cell? ⟨b, off + i * 4, none⟩ = some (.int .i64 a.k) ∧ w.cell? ⟨b, off + i * 4 + 1, none⟩ = some (.int .i64 a.s) ∧
    w.cell? ⟨b, off + i * 4 + 2, none⟩ = some (.int .i64 a.wr) ∧ w.cell? ⟨b, off + i * 4 + 3, none⟩ = some (.int .i64 a.b) := by
  obtain ⟨b', off', e, r⟩ := h i a ha
  simp only [Option.some.injEq, Addr.mk.injEq, and_true] at e
  obtain ⟨rfl, rfl⟩ := e
  exact r
theorem acts_some {w : World} {A : Option Addr} {l : List Act} (h : ActsAt w A l) (hl : l ≠ []) : ∃ b off, A = some ⟨b, off, none⟩ := by
  match l, hl with
  | a :: _, _ =>
    obtain ⟨b, off, e, _⟩ := h 0 a rfl
    exact ⟨b, off, e⟩
theorem acts_new (w : World) (l : List Act) (e : TypeId) : ActsAt (w.alloc (.cells (actc l).toArray e)) (some ⟨w.heap.size, 0, none⟩) l := fun i a ha => by
  have hc : ∀ j v, (actc l)[j]? = some v → (w.alloc (.cells (actc l).toArray e)).cell? ⟨w.heap.size, j, none⟩ = some v := fun j v hv => by
    rw [World.cell?_alloc_new]
    simpa using hv
  refine ⟨_, _, rfl, ?_, ?_, ?_, ?_⟩
  · rw [Nat.zero_add]; exact hc _ _ (by have := actc_get l i 0 a ha (by omega); exact this)
  · rw [Nat.zero_add]; exact hc _ _ (by have := actc_get l i 1 a ha (by omega); exact this)
  · rw [Nat.zero_add]; exact hc _ _ (by have := actc_get l i 2 a ha (by omega); exact this)
  · rw [Nat.zero_add]; exact hc _ _ (by have := actc_get l i 3 a ha (by omega); exact this)

theorem aw_fmt : fmtL [⟨3, 0, 2, 30⟩] = [99, 114, 97, 115, 104, 32, 50, 32, 51, 48, 10] := by
  have e2 : Lib.itoa 2 = [50] := by
    unfold Lib.itoa
    rw [if_neg (by decide)]
    show Lib.decDigits 2 = _
    rw [Lib.decDigits, dif_pos (by decide)]
    rfl
  have e3 : Lib.itoa 30 = [51, 48] := by
    unfold Lib.itoa
    rw [if_neg (by decide)]
    show Lib.decDigits 30 = _
    rw [Lib.decDigits, dif_neg (by decide), Lib.decDigits, dif_pos (by decide)]
    rfl
  simp [fmtL, lineB, itoB, e2, e3]

theorem few_any (s n : Int) (w : World) : Calls Tryd.prog 11 #[.int .i64 s, .int .i64 n] w fun e w' => e = .returned (.bool (decide (n ≤ 300) || decide (s < 1))) ∧ w = w' := by
  go_enter Tryd.func11, Tryd.ntmps11
  go_wp2
  all_goals
    go_ret
    refine ⟨ret_bool ?_, rfl⟩
    first | grind | simp_all

theorem awake_any (w : World) : Calls Tryd.prog 10 #[] w fun e w' => e = .returned (.bool true) ∧ Ext w w' := by
  have hl2 : rrL 2 2 = [⟨1, 0, 0, 0⟩, ⟨1, 1, 0, 0⟩, ⟨1, 0, 0, 0⟩, ⟨1, 1, 0, 0⟩] := rfl
  have HL2 := hid hl2
  clear hl2
  go_enter Tryd.func10, Tryd.ntmps10
  go_wp2_with fail
  refine (rr_any 2 2 2 2 _ rfl rfl).mono ?_
  rintro e w1 ⟨v, rfl, hown, hx1⟩
  obtain ⟨A, c, rfl, ha, hlen⟩ := own_acts hown
  obtain ⟨b, off, rfl⟩ := acts_some ha (by rw [HL2.out]; simp)
  have HA := hid ha
  have HX1 := hid hx1
  clear hown ha hlen hx1
  go_wp2_with fail
  refine (format_ok _ [⟨3, 0, 2, 30⟩] 1 1 _ (acts_new w1 [⟨3, 0, 2, 30⟩] 29) rfl (by omega) rfl ?_).mono ?_
  · intro a h
    simp only [List.mem_singleton] at h
    subst h
    exact ⟨.inl ⟨by decide, by decide⟩, .inl ⟨by decide, by decide⟩, .inl ⟨by decide, by decide⟩⟩
  rintro e w2 ⟨rfl, hx2⟩
  rw [aw_fmt]
  have hA2 := (HA.out.ext ((Ext.refl w1).alloc _)).ext hx2
  obtain ⟨c00, c01, c02, c03⟩ := acts_at hA2 (i := 0) (a := ⟨1, 0, 0, 0⟩) (by rw [HL2.out]; rfl)
  obtain ⟨c10, c11, c12, c13⟩ := acts_at hA2 (i := 1) (a := ⟨1, 1, 0, 0⟩) (by rw [HL2.out]; rfl)
  obtain ⟨c20, c21, c22, c23⟩ := acts_at hA2 (i := 2) (a := ⟨1, 0, 0, 0⟩) (by rw [HL2.out]; rfl)
  obtain ⟨c30, c31, c32, c33⟩ := acts_at hA2 (i := 3) (a := ⟨1, 1, 0, 0⟩) (by rw [HL2.out]; rfl)
  simp only [Nat.zero_mul, Nat.one_mul, Nat.reduceMul, Nat.add_zero] at c00 c01 c02 c03 c10 c11 c12 c13 c20 c21 c22 c23 c30 c31 c32 c33
  have HX2 : Hid (Ext w w2) := HX1.out.trans (((Ext.refl w1).alloc _).trans hx2)
  clear hA2 hx2
  have hs : ((⟨([99, 114, 97, 115, 104, 32, 50, 32, 51, 48, 10] : List UInt8).toArray⟩ : ByteArray).toList == [99, 114, 97, 115, 104, 32, 50, 32, 51, 48, 10]) = true := by rw [ByteArray.toList_eq]; rfl
  go_wp2_with fail
  go_ret
  exact ⟨rfl, HX2.out⟩

end Go.Proofs.YtcdinoepjimkmaaDoor
