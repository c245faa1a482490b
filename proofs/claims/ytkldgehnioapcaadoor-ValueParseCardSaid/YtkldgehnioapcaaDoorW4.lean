/-
  Walks over the value package and its reference: Equal, Less, Fits.
-/
import Derived.Test.YtkldgehnioapcaaDoorW3
namespace Go.Proofs.YtkldgehnioapcaaDoor
open Go.RowKit
set_option maxHeartbeats 1000000
set_option maxRecDepth 100000

def eqT (a b : Val) : Int := if a.k = 0 ∨ b.k = 0 then 2 else tr (cmpV a b == 0)
def ltT (a b : Val) : Int := if a.k = 0 ∨ b.k = 0 then 2 else tr ((a.k == b.k) && decide (cmpV a b < 0))

theorem equal_any (k1 n1 k2 n2 : Int) (t1 t2 : ByteArray) (w : World) :
    Calls Tryd.prog 17 #[.agg #[.int .i64 k1, .int .i64 n1, .string t1], .agg #[.int .i64 k2, .int .i64 n2, .string t2]] w fun e w' => e = .returned (.int .i64 (eqT ⟨k1, n1, t1⟩ ⟨k2, n2, t2⟩)) ∧ Ext w w' := by
  have HE : Hid (eqT ⟨k1, n1, t1⟩ ⟨k2, n2, t2⟩ = if k1 = 0 ∨ k2 = 0 then 2 else tr (cmpV ⟨k1, n1, t1⟩ ⟨k2, n2, t2⟩ == 0)) := rfl
  cases hn : (k1 == 0 || k2 == 0)
  · have HN : Hid (¬ (k1 = 0 ∨ k2 = 0)) := by unfold Hid; simpa using hn
    go_enter Tryd.func17, Tryd.ntmps17
    go_wp2_with fail
    refine (null_any k1 n1 k2 n2 t1 t2 _).mono ?_
    rintro e w1 ⟨rfl, hx1⟩
    obtain ⟨c0, c1, c2, c3, c4, c5⟩ := box33 hx1
    rw [hn]
    clear hn
    go_wp2_with fail
    refine (compare_any k1 n1 k2 n2 t1 t2 _).mono ?_
    rintro e w2 ⟨rfl, hx2⟩
    go_wp2_with fail
    refine (truth_any _ _).mono ?_
    rintro e w3 ⟨rfl, rfl⟩
    go_wp2_with fail
    go_ret
    exact ⟨ret_int (by rw [HE.out, if_neg HN.out]), ((((Ext.refl w).alloc _).alloc _).trans hx1).trans hx2⟩
  · have HN : Hid (k1 = 0 ∨ k2 = 0) := by unfold Hid; simpa using hn
    go_enter Tryd.func17, Tryd.ntmps17
    go_wp2_with fail
    refine (null_any k1 n1 k2 n2 t1 t2 _).mono ?_
    rintro e w1 ⟨rfl, hx1⟩
    rw [hn]
    clear hn
    go_wp2_with fail
    go_ret
    exact ⟨ret_int (by rw [HE.out, if_pos HN.out]), (((Ext.refl w).alloc _).alloc _).trans hx1⟩

theorem less_any (k1 n1 k2 n2 : Int) (t1 t2 : ByteArray) (w : World) :
    Calls Tryd.prog 19 #[.agg #[.int .i64 k1, .int .i64 n1, .string t1], .agg #[.int .i64 k2, .int .i64 n2, .string t2]] w fun e w' => e = .returned (.int .i64 (ltT ⟨k1, n1, t1⟩ ⟨k2, n2, t2⟩)) ∧ Ext w w' := by
  have HE : Hid (ltT ⟨k1, n1, t1⟩ ⟨k2, n2, t2⟩ = if k1 = 0 ∨ k2 = 0 then 2 else tr ((k1 == k2) && decide (cmpV ⟨k1, n1, t1⟩ ⟨k2, n2, t2⟩ < 0))) := rfl
  cases hn : (k1 == 0 || k2 == 0)
  · have HN : Hid (¬ (k1 = 0 ∨ k2 = 0)) := by unfold Hid; simpa using hn
    cases he : (k1 == k2)
    · have HK := hid he
      go_enter Tryd.func19, Tryd.ntmps19
      go_wp2_with fail
      refine (null_any k1 n1 k2 n2 t1 t2 _).mono ?_
      rintro e w1 ⟨rfl, hx1⟩
      obtain ⟨c0, c1, c2, c3, c4, c5⟩ := box33 hx1
      rw [hn]
      clear hn
      go_wp2_with fail
      refine (truth_any _ _).mono ?_
      rintro e w3 ⟨rfl, rfl⟩
      go_wp2_with fail
      go_ret
      exact ⟨ret_int (by rw [HE.out, if_neg HN.out, HK.out]; rfl), (((Ext.refl w).alloc _).alloc _).trans hx1⟩
    · have HK := hid he
      go_enter Tryd.func19, Tryd.ntmps19
      go_wp2_with fail
      refine (null_any k1 n1 k2 n2 t1 t2 _).mono ?_
      rintro e w1 ⟨rfl, hx1⟩
      obtain ⟨c0, c1, c2, c3, c4, c5⟩ := box33 hx1
      rw [hn]
      clear hn
      go_wp2_with fail
      refine (compare_any k1 n1 k2 n2 t1 t2 _).mono ?_
      rintro e w2 ⟨rfl, hx2⟩
      go_wp2_with fail
      refine (truth_any _ _).mono ?_
      rintro e w3 ⟨rfl, rfl⟩
      go_wp2_with fail
      go_ret
      exact ⟨ret_int (by rw [HE.out, if_neg HN.out, HK.out, Bool.true_and]), ((((Ext.refl w).alloc _).alloc _).trans hx1).trans hx2⟩
  · have HN : Hid (k1 = 0 ∨ k2 = 0) := by unfold Hid; simpa using hn
    go_enter Tryd.func19, Tryd.ntmps19
    go_wp2_with fail
    refine (null_any k1 n1 k2 n2 t1 t2 _).mono ?_
    rintro e w1 ⟨rfl, hx1⟩
    rw [hn]
    clear hn
    go_wp2_with fail
    go_ret
    exact ⟨ret_int (by rw [HE.out, if_pos HN.out]), (((Ext.refl w).alloc _).alloc _).trans hx1⟩

theorem requal_any (k1 n1 k2 n2 : Int) (t1 t2 : ByteArray) (w : World) (hs : t1.size ≤ 1000000) (ht : t2.size ≤ 1000000) :
    Calls Tryd.prog 18 #[.agg #[.int .i64 k1, .int .i64 n1, .string t1], .agg #[.int .i64 k2, .int .i64 n2, .string t2]] w fun e w' => e = .returned (.int .i64 (eqT ⟨k1, n1, t1⟩ ⟨k2, n2, t2⟩)) ∧ Ext w w' := by
  have HE : Hid (eqT ⟨k1, n1, t1⟩ ⟨k2, n2, t2⟩ = if k1 = 0 ∨ k2 = 0 then 2 else tr (cmpV ⟨k1, n1, t1⟩ ⟨k2, n2, t2⟩ == 0)) := rfl
  cases b1 : (k1 == 0)
  · cases b2 : (k2 == 0)
    · have HN : Hid (¬ (k1 = 0 ∨ k2 = 0)) := by unfold Hid; simp at b1 b2; omega
      go_enter Tryd.func18, Tryd.ntmps18
      go_wp2_with fail
      refine (rcompare_any k1 n1 k2 n2 t1 t2 _ hs ht).mono ?_
      rintro e w2 ⟨rfl, hx2⟩
      go_wp2_with fail
      refine (rtruth_any _ _).mono ?_
      rintro e w3 ⟨rfl, rfl⟩
      go_wp2_with fail
      go_ret
      exact ⟨ret_int (by rw [HE.out, if_neg HN.out]), (((Ext.refl w).alloc _).alloc _).trans hx2⟩
    · have HN : Hid (k1 = 0 ∨ k2 = 0) := by unfold Hid; simp at b1 b2; omega
      go_enter Tryd.func18, Tryd.ntmps18
      go_wp2_with fail
      go_ret
      exact ⟨ret_int (by rw [HE.out, if_pos HN.out]), ((Ext.refl w).alloc _).alloc _⟩
  · have HN : Hid (k1 = 0 ∨ k2 = 0) := by unfold Hid; simp at b1; omega
    go_enter Tryd.func18, Tryd.ntmps18
    go_wp2_with fail
    go_ret
    exact ⟨ret_int (by rw [HE.out, if_pos HN.out]), ((Ext.refl w).alloc _).alloc _⟩

theorem rless_any (k1 n1 k2 n2 : Int) (t1 t2 : ByteArray) (w : World) (hs : t1.size ≤ 1000000) (ht : t2.size ≤ 1000000) :
    Calls Tryd.prog 20 #[.agg #[.int .i64 k1, .int .i64 n1, .string t1], .agg #[.int .i64 k2, .int .i64 n2, .string t2]] w fun e w' => e = .returned (.int .i64 (ltT ⟨k1, n1, t1⟩ ⟨k2, n2, t2⟩)) ∧ Ext w w' := by
  have HE : Hid (ltT ⟨k1, n1, t1⟩ ⟨k2, n2, t2⟩ = if k1 = 0 ∨ k2 = 0 then 2 else tr ((k1 == k2) && decide (cmpV ⟨k1, n1, t1⟩ ⟨k2, n2, t2⟩ < 0))) := rfl
  cases b1 : (k1 == 0)
  · cases b2 : (k2 == 0)
    · have HN : Hid (¬ (k1 = 0 ∨ k2 = 0)) := by unfold Hid; simp at b1 b2; omega
      cases he : (k1 == k2)
      · have HK := hid he
        go_enter Tryd.func20, Tryd.ntmps20
        go_wp2_with fail
        refine (rtruth_any _ _).mono ?_
        rintro e w3 ⟨rfl, rfl⟩
        go_wp2_with fail
        go_ret
        exact ⟨ret_int (by rw [HE.out, if_neg HN.out, HK.out]; rfl), ((Ext.refl w).alloc _).alloc _⟩
      · have HK := hid he
        go_enter Tryd.func20, Tryd.ntmps20
        go_wp2_with fail
        refine (rcompare_any k1 n1 k2 n2 t1 t2 _ hs ht).mono ?_
        rintro e w2 ⟨rfl, hx2⟩
        go_wp2_with fail
        refine (rtruth_any _ _).mono ?_
        rintro e w3 ⟨rfl, rfl⟩
        go_wp2_with fail
        go_ret
        exact ⟨ret_int (by rw [HE.out, if_neg HN.out, HK.out, Bool.true_and]), (((Ext.refl w).alloc _).alloc _).trans hx2⟩
    · have HN : Hid (k1 = 0 ∨ k2 = 0) := by unfold Hid; simp at b1 b2; omega
      go_enter Tryd.func20, Tryd.ntmps20
      go_wp2_with fail
      go_ret
      exact ⟨ret_int (by rw [HE.out, if_pos HN.out]), ((Ext.refl w).alloc _).alloc _⟩
  · have HN : Hid (k1 = 0 ∨ k2 = 0) := by unfold Hid; simp at b1; omega
    go_enter Tryd.func20, Tryd.ntmps20
    go_wp2_with fail
    go_ret
    exact ⟨ret_int (by rw [HE.out, if_pos HN.out]), ((Ext.refl w).alloc _).alloc _⟩

theorem long_any (k n : Int) (t : ByteArray) (w : World) : Calls Tryd.prog 12 #[.agg #[.int .i64 k, .int .i64 n, .string t]] w fun e w' => e = .returned (.bool (decide (100 < (t.size : Int)))) ∧ Ext w w' := by
  go_enter Tryd.func12, Tryd.ntmps12
  go_wp2
  go_ret
  exact ⟨rfl, (Ext.refl w).alloc _⟩

/-- the domain of a variable -/
def fitsB (a : Val) (ty lo hi mx : Int) (nl : Bool) : Bool :=
  if validV a = true then (if a.k = 0 then nl else if a.k = 1 then decide (ty = 1) && decide (lo ≤ a.n) && decide (a.n ≤ hi) else decide (ty = 2) && decide ((a.t.size : Int) ≤ mx)) else false

theorem boxf {w w2 : World} {a b c d e f g h : Value} {T U : TypeId} (hx : Ext ((w.alloc (.cells #[a, b, c] T)).alloc (.cells #[d, e, f, g, h] U)) w2) :
    w2.cell? ⟨w.heap.size, 0, none⟩ = some a ∧ w2.cell? ⟨w.heap.size, 1, none⟩ = some b ∧ w2.cell? ⟨w.heap.size, 2, none⟩ = some c ∧
    w2.cell? ⟨w.heap.size + 1, 0, none⟩ = some d ∧ w2.cell? ⟨w.heap.size + 1, 1, none⟩ = some e ∧ w2.cell? ⟨w.heap.size + 1, 2, none⟩ = some f ∧ w2.cell? ⟨w.heap.size + 1, 3, none⟩ = some g ∧ w2.cell? ⟨w.heap.size + 1, 4, none⟩ = some h := by
  have h1 := box3 (((Ext.refl (w.alloc (.cells #[a, b, c] T))).alloc _).trans hx)
  have hc := fun (i : Nat) (v : Value) => fun (hv : ((w.alloc (.cells #[a, b, c] T)).alloc (.cells #[d, e, f, g, h] U)).cell? ⟨(w.alloc (.cells #[a, b, c] T)).heap.size, i, none⟩ = some v) => hx.keep hv
  rw [World.size_alloc] at hc
  refine ⟨h1.1, h1.2.1, h1.2.2, hc 0 d ?_, hc 1 e ?_, hc 2 f ?_, hc 3 g ?_, hc 4 h ?_⟩
  all_goals
    rw [← World.size_alloc w (.cells #[a, b, c] T), World.cell?_alloc_new]
    rfl

theorem fits_any (k n ty lo hi mx : Int) (t : ByteArray) (nl : Bool) (w : World) (hs : t.size ≤ 9223372036854775807) :
    Calls Tryd.prog 21 #[.agg #[.int .i64 k, .int .i64 n, .string t], .agg #[.int .i64 ty, .int .i64 lo, .int .i64 hi, .int .i64 mx, .bool nl]] w fun e w' => e = .returned (.bool (fitsB ⟨k, n, t⟩ ty lo hi mx nl)) ∧ Ext w w' := by
  have HE : Hid (fitsB ⟨k, n, t⟩ ty lo hi mx nl = if validV ⟨k, n, t⟩ = true then (if k = 0 then nl else if k = 1 then decide (ty = 1) && decide (lo ≤ n) && decide (n ≤ hi) else decide (ty = 2) && decide ((t.size : Int) ≤ mx)) else false) := rfl
  have HS := hid hs
  clear hs
  cases hv : validV ⟨k, n, t⟩
  · have HV := hid hv
    go_enter Tryd.func21, Tryd.ntmps21
    go_wp2_with fail
    refine (valid_any k n t _ HS.out).mono ?_
    rintro e w1 ⟨rfl, hx1⟩
    rw [hv]
    go_wp2_with fail
    go_ret
    exact ⟨ret_bool (by rw [HE.out, HV.out]; rfl), (((Ext.refl w).alloc _).alloc _).trans hx1⟩
  · have HV := hid hv
    go_enter Tryd.func21, Tryd.ntmps21
    go_wp2_with fail
    refine (valid_any k n t _ HS.out).mono ?_
    rintro e w1 ⟨rfl, hx1⟩
    obtain ⟨c0, c1, c2, c3, c4, c5, c6, c7⟩ := boxf hx1
    rw [hv]
    clear hv
    go_wp2_with fail
    all_goals
      go_ret
      refine ⟨ret_bool ?_, (((Ext.refl w).alloc _).alloc _).trans hx1⟩
      unfold fitsB
      rw [if_pos HV.out]
      dsimp only
      clear c0 c1 c2 c3 c4 c5 c6 c7
      first | grind | simp_all

theorem rfits_any (k n ty lo hi mx : Int) (t : ByteArray) (nl : Bool) (w : World) (hs : t.size ≤ 9223372036854775807) :
    Calls Tryd.prog 22 #[.agg #[.int .i64 k, .int .i64 n, .string t], .agg #[.int .i64 ty, .int .i64 lo, .int .i64 hi, .int .i64 mx, .bool nl]] w fun e w' => e = .returned (.bool (fitsB ⟨k, n, t⟩ ty lo hi mx nl)) ∧ Ext w w' := by
  have HE : Hid (fitsB ⟨k, n, t⟩ ty lo hi mx nl = if validV ⟨k, n, t⟩ = true then (if k = 0 then nl else if k = 1 then decide (ty = 1) && decide (lo ≤ n) && decide (n ≤ hi) else decide (ty = 2) && decide ((t.size : Int) ≤ mx)) else false) := rfl
  have HS := hid hs
  clear hs
  cases hv : validV ⟨k, n, t⟩
  · have HV := hid hv
    go_enter Tryd.func22, Tryd.ntmps22
    go_wp2_with fail
    refine (rvalid_any k n t _ HS.out).mono ?_
    rintro e w1 ⟨rfl, hx1⟩
    rw [hv]
    go_wp2_with fail
    go_ret
    exact ⟨ret_bool (by rw [HE.out, HV.out]; rfl), (((Ext.refl w).alloc _).alloc _).trans hx1⟩
  · have HV := hid hv
    go_enter Tryd.func22, Tryd.ntmps22
    go_wp2_with fail
    refine (rvalid_any k n t _ HS.out).mono ?_
    rintro e w1 ⟨rfl, hx1⟩
    obtain ⟨c0, c1, c2, c3, c4, c5, c6, c7⟩ := boxf hx1
    rw [hv]
    clear hv
    go_wp2_with fail
    all_goals
      go_ret
      refine ⟨ret_bool ?_, (((Ext.refl w).alloc _).alloc _).trans hx1⟩
      unfold fitsB
      rw [if_pos HV.out]
      dsimp only
      clear c0 c1 c2 c3 c4 c5 c6 c7
      first | grind | simp_all

end Go.Proofs.YtkldgehnioapcaaDoor
