/-
  Walks over the value package's reference: Read.
-/
import Derived.Test.YtkldgehnioapcaaDoorCand3
import Derived.Test.YtkldgehnioapcaaDoorW17
import Derived.Test.YtkldgehnioapcaaDoorW15
import Derived.RegionTactic
import Derived.ChangeAlike
import Derived.BigRegion
namespace Go.Proofs.YtkldgehnioapcaaDoor
open Go.RowKit
set_option linter.unusedVariables false
set_option maxHeartbeats 4000000
set_option maxRecDepth 100000

/-- where the reading of a text stands -/
def Inv (s X : List UInt8) (k : Nat) : Prop := ∀ t : List UInt8, s = 39 :: (quo t ++ [39]) → ∃ j, j ≤ t.length ∧ X = t.take j ∧ k = 1 + (quo (t.take j)).length
theorem Inv.fin {s X : List UInt8} {k : Nat} (h : Inv s X k) (hk : ¬ k + 1 < s.length) (t : List UInt8) (ht : s = 39 :: (quo t ++ [39])) : X = t := by
  obtain ⟨j, hj, rfl, rfl⟩ := h t ht
  rcases Nat.lt_or_ge j t.length with hl | hl
  · have := quo_lt t j hl
    rw [ht] at hk
    simp at hk
    omega
  · rw [List.take_of_length_le hl]
theorem Inv.step {s X : List UInt8} {k : Nat} {b : UInt8} (h : Inv s X k) (hk : k + 1 < s.length) (hb : s[k]? = some b) : Inv s (X ++ [b]) (if b = 39 then k + 1 + 1 else k + 1) := by
  intro t ht
  obtain ⟨j, hj, rfl, rfl⟩ := h t ht
  have hl : j < t.length := by
    rcases Nat.lt_or_ge j t.length with hl | hl
    · exact hl
    · rw [List.take_of_length_le hl, ht] at hk
      simp at hk
      omega
  have e : quo t = quo (t.take j) ++ quo (t.drop j) := by rw [← quo_app, List.take_append_drop]
  have hd : t.drop j = t[j] :: t.drop (j + 1) := List.drop_eq_getElem_cons hl
  have hb' : b = t[j] := by
    rw [ht, Nat.add_comm, List.getElem?_cons_succ, e, List.append_assoc, List.getElem?_append_right (Nat.le_refl _), Nat.sub_self, hd, quo] at hb
    split at hb
    · rename_i hq
      rw [hq]
      simpa using hb.symm
    · simpa using hb.symm
  have htk : t.take (j + 1) = t.take j ++ [t[j]] := List.take_succ_eq_append_getElem hl
  refine ⟨j + 1, hl, by rw [htk, hb'], ?_⟩
  rw [htk, quo_app, List.length_append, hb']
  by_cases hq : t[j] = 39
  · rw [if_pos hq, hq]
    simp [quo]
    omega
  · rw [if_neg hq]
    simp [quo, hq]
    omega

theorem dec_len2 : ∀ (d u : Nat), u < 10 ^ (d + 1) → (Lib.decDigits u).length ≤ d + 1
  | 0, u, h => by rw [dec_small (by omega)]; simp
  | d + 1, u, h => by
    by_cases h9 : u < 10
    · rw [dec_small h9]; simp
    · have := dec_len2 d (u / 10) (by rw [Nat.pow_succ] at h; omega)
      rw [dec_big h9, List.length_append]
      simp only [List.length_singleton]
      omega
theorem itoa_len20 (n : Int) (h0 : -9223372036854775808 ≤ n) (h1 : n ≤ 9223372036854775807) : (Lib.itoa n).length ≤ 20 := by
  unfold Lib.itoa
  split
  · have := dec_len2 18 n.natAbs (by omega)
    simp only [List.length_cons]
    omega
  · have := dec_len2 18 n.toNat (by omega)
    omega
theorem wrap_u (x : Int) : IntKind.u64.wrap x = x % 18446744073709551616 := IntKind.wrap_u64 x
theorem wrap_i (x : Int) : wrap64 x = (x + 9223372036854775808) % 18446744073709551616 - 9223372036854775808 := by unfold wrap64; omega
theorem wrap_bd (x : Int) : -9223372036854775808 ≤ wrap64 x ∧ wrap64 x ≤ 9223372036854775807 := by
  rw [wrap_i]
  omega
theorem read_null (s : ByteArray) (w : World) (hs : s.size ≤ 100) (hnull : s = ⟨#[78, 85, 76, 76]⟩) :
    Calls Tryd.prog 31 #[.string s] w fun e w' => e = .returned (.tuple #[.agg #[.int .i64 (prs s).1.k, .int .i64 (prs s).1.n, .string (prs s).1.t], .bool ((prs s).2 == 0)]) ∧ Ext w w' := by
  have HX0 : Hid (Ext w ((w.alloc (.cells #[.int .i64 0, .int .i64 0, .string ⟨#[]⟩] 23)).alloc (.cells #[.int .i64 0, .int .i64 0, .string ⟨#[]⟩] 23))) := ((Ext.refl w).alloc _).alloc _
  have HB0 : Hid (Blk ((w.alloc (.cells #[.int .i64 0, .int .i64 0, .string ⟨#[]⟩] 23)).alloc (.cells #[.int .i64 0, .int .i64 0, .string ⟨#[]⟩] 23)) w.heap.size 23 [.int .i64 0, .int .i64 0, .string ⟨#[]⟩]) := (Blk.of_new w 23 [.int .i64 0, .int .i64 0, .string ⟨#[]⟩]).ext ((Ext.refl _).alloc _)
  have HB1 : Hid (Blk ((w.alloc (.cells #[.int .i64 0, .int .i64 0, .string ⟨#[]⟩] 23)).alloc (.cells #[.int .i64 0, .int .i64 0, .string ⟨#[]⟩] 23)) (w.heap.size + 1) 23 [.int .i64 0, .int .i64 0, .string ⟨#[]⟩]) := by
    have := Blk.of_new (w.alloc (.cells #[.int .i64 0, .int .i64 0, .string ⟨#[]⟩] 23)) 23 [.int .i64 0, .int .i64 0, .string ⟨#[]⟩]
    rw [World.size_alloc] at this
    exact this
  have HP := hid (rd_null s hnull)
  have TSZ : Hid ((⟨#[]⟩ : ByteArray).size ≤ 1000) := Nat.zero_le _
  have NBD : Hid (-9223372036854775808 ≤ (0 : Int) ∧ (0 : Int) ≤ 9223372036854775807) := by unfold Hid; decide
  have HX3 := HX0
  have BD0 := HB0
  have BD1 := HB1
  have b1 : (s.toList == [78, 85, 76, 76]) = true := by rw [hnull, ByteArray.toList_eq]; rfl
  have b2 : (s.toList == (⟨#[78, 85, 76, 76]⟩ : ByteArray).toList) = true := by rw [hnull]; exact beq_self_eq_true _
  clear hnull
  go_enter Tryd.func31, Tryd.ntmps31
  go_wp2_with fail
  refine (lit_any 0 0 ⟨#[]⟩ _ TSZ.out NBD.out).mono ?_
  rintro e w4 ⟨rfl, hx4⟩
  have HD0 := hid (BD0.out.ext hx4)
  have HD1 := hid (BD1.out.ext hx4)
  have HX4 := hid (HX3.out.trans hx4)
  clear hx4
  have c0 := HD1.out.cell 0
  have c1 := HD1.out.cell 1
  have c2 := HD1.out.cell 2
  have d0 := HD0.out.cell 0
  have d1 := HD0.out.cell 1
  have d2 := HD0.out.cell 2
  have f0 := HD0.out.frozen 0
  have f1 := HD0.out.frozen 1
  have f2 := HD0.out.frozen 2
  by_cases hq : fmtV ⟨0, 0, ⟨#[]⟩⟩ = s
  · have bq : ((fmtV ⟨0, 0, ⟨#[]⟩⟩).toList == s.toList) = true := by rw [hq]; exact beq_self_eq_true _
    have HR : Hid (prs s = (⟨0, 0, ⟨#[]⟩⟩, 0)) := by unfold Hid; rw [HP.out, if_pos hq]
    go_wp2_with fail
    have s0 : (w4.setCell ⟨w.heap.size, 0, none⟩ (.int .i64 0)).cell? ⟨w.heap.size, 0, none⟩ = some (.int .i64 0) := (HD0.out.set 0 _).cell 0
    have s1 : ((w4.setCell ⟨w.heap.size, 0, none⟩ (.int .i64 0)).setCell ⟨w.heap.size, 1, none⟩ (.int .i64 0)).cell? ⟨w.heap.size, 1, none⟩ = some (.int .i64 0) := ((HD0.out.set 0 _).set 1 _).cell 1
    have s2 : (((w4.setCell ⟨w.heap.size, 0, none⟩ (.int .i64 0)).setCell ⟨w.heap.size, 1, none⟩ (.int .i64 0)).setCell ⟨w.heap.size, 2, none⟩ (.string ⟨#[]⟩)).cell? ⟨w.heap.size, 2, none⟩ = some (.string ⟨#[]⟩) := (((HD0.out.set 0 _).set 1 _).set 2 _).cell 2
    exact bodyPost_ret (v := .tuple #[.agg #[.int .i64 0, .int .i64 0, .string ⟨#[]⟩], .bool true]) (by simp [results, Tryd.results31, go_sem, s0, s1, s2]) rfl ⟨by rw [HR.out]; rfl, ((HX4.out.setCell (Nat.le_refl _) _).setCell (Nat.le_refl _) _).setCell (Nat.le_refl _) _⟩
  · have bq : ((fmtV ⟨0, 0, ⟨#[]⟩⟩).toList == s.toList) = false := beq_eq_false_iff_ne.2 fun h => hq (t_inj (by rw [← ByteArray.toList_eq, h, ByteArray.toList_eq]))
    have HR : Hid (prs s = (⟨0, 0, ⟨#[]⟩⟩, 2)) := by unfold Hid; rw [HP.out, if_neg hq]
    go_wp2_with fail
    have s0 : (w4.setCell ⟨w.heap.size, 0, none⟩ (.int .i64 0)).cell? ⟨w.heap.size, 0, none⟩ = some (.int .i64 0) := (HD0.out.set 0 _).cell 0
    have s1 : ((w4.setCell ⟨w.heap.size, 0, none⟩ (.int .i64 0)).setCell ⟨w.heap.size, 1, none⟩ (.int .i64 0)).cell? ⟨w.heap.size, 1, none⟩ = some (.int .i64 0) := ((HD0.out.set 0 _).set 1 _).cell 1
    have s2 : (((w4.setCell ⟨w.heap.size, 0, none⟩ (.int .i64 0)).setCell ⟨w.heap.size, 1, none⟩ (.int .i64 0)).setCell ⟨w.heap.size, 2, none⟩ (.string ⟨#[]⟩)).cell? ⟨w.heap.size, 2, none⟩ = some (.string ⟨#[]⟩) := (((HD0.out.set 0 _).set 1 _).set 2 _).cell 2
    exact bodyPost_ret (v := .tuple #[.agg #[.int .i64 0, .int .i64 0, .string ⟨#[]⟩], .bool false]) (by simp [results, Tryd.results31, go_sem, s0, s1, s2]) rfl ⟨by rw [HR.out]; rfl, ((HX4.out.setCell (Nat.le_refl _) _).setCell (Nat.le_refl _) _).setCell (Nat.le_refl _) _⟩

end Go.Proofs.YtkldgehnioapcaaDoor
