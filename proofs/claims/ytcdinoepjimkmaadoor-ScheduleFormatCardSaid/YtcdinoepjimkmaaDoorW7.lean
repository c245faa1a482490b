/-
  Walks over the schedule package: Format.
-/
import Derived.Test.YtcdinoepjimkmaaDoorW6
namespace Go.Proofs.YtcdinoepjimkmaaDoor
open Go.RowKit
set_option maxHeartbeats 1000000
set_option maxRecDepth 100000

theorem bld_mono {T e B B' b : Nat} {bs : List Value} {w : World} (h : Lib.IsBuilder T e B b bs w) (hb : B' ≤ B) : Lib.IsBuilder T e B' b bs w := by
  rcases h with ⟨h1, v, h2, h3, h4⟩ | ⟨h1, v, h2, h3, h4⟩
  · exact .inl ⟨Nat.le_trans hb h1, v, h2, own_base h3 hb, h4⟩
  · exact .inr ⟨Nat.le_trans hb h1, v, h2, own_base h3 hb, h4⟩
theorem bld_ext {T e B b : Nat} {bs : List Value} {w w' : World} (h : Lib.IsBuilder T e B b bs w) (hx : Ext w w') : Lib.IsBuilder T e B b bs w' := by
  rcases h with ⟨h1, v, h2, h3, h4⟩ | ⟨h1, v, h2, h3, h4⟩
  · exact .inl ⟨h1, v, (Below.block hx b (Array.getElem?_eq_some_iff.1 h2).1).trans h2, ownN_ext h3 hx, h4⟩
  · exact .inr ⟨h1, v, (Below.block hx b (Array.getElem?_eq_some_iff.1 h2).1).trans h2, ownN_ext h3 hx, h4⟩
theorem bel_trans {a b c : World} (h : Ext a b) (k : Below a.heap.size b c) : Ext a c := Below.trans h k
theorem ret_two {a b : Value} {c d : Value} (h : a = c) (k : b = d) : Ending.returned (.tuple #[a, b]) = .returned (.tuple #[c, d]) := by rw [h, k]

def fmtL (l : List Act) : List UInt8 := l.flatMap fun a => (lineB a).data.toList ++ [10]
theorem fmtL_snoc (l : List Act) (a : Act) : fmtL (l ++ [a]) = fmtL l ++ ((lineB a).data.toList ++ [10]) := by simp [fmtL]
theorem fmtL_len (w : World) (l : List Act) (h : ∀ a ∈ l, CanA w a) : (fmtL l).length ≤ 61 * l.length := by
  induction l with
  | nil => simp [fmtL]
  | cons a l ih =>
    have h1 := lineB_size w a (h a (List.mem_cons_self ..))
    have h2 := ih fun x hx => h x (List.mem_cons_of_mem _ hx)
    have e : fmtL (a :: l) = ((lineB a).data.toList ++ [10]) ++ fmtL l := by simp [fmtL]
    have h3 : (lineB a).data.toList.length ≤ 60 := h1
    rw [e, List.length_append, List.length_append, List.length_cons, List.length_cons, List.length_nil]
    omega

theorem format_no (A : Option Addr) (l : List Act) (n c : Nat) (w : World) (hl : ActsAt w A l) (hn : l.length = n) (hm : n ≤ maxLen) (hv : validB l 8 = false) :
    Calls Tryd.prog 19 #[.slice A n c] w fun e w' => e = .returned (.tuple #[.string ⟨#[]⟩, .int .i64 1]) ∧ Ext w w' := by
  go_enter Tryd.func19, Tryd.ntmps19
  go_wp2_with fail
  refine (valid_any A l n c 8 _ hl hn hm).mono ?_
  rintro e w1 ⟨rfl, hx1⟩
  rw [hv]
  go_wp2_with fail
  go_ret2
  exact ⟨rfl, hx1⟩

theorem format_ok (A : Option Addr) (l : List Act) (n c : Nat) (w : World) (hl : ActsAt w A l) (hn : l.length = n) (hm : n ≤ 1000) (hv : validB l 8 = true) (hc : ∀ a ∈ l, CanA w a) :
    Calls Tryd.prog 19 #[.slice A n c] w fun e w' => e = .returned (.tuple #[.string ⟨(fmtL l).toArray⟩, .int .i64 0]) ∧ Ext w w' := by
  have HN := hid hn
  have HC := hid hc
  have HL := hid hl
  clear hc
  go_enter Tryd.func19, Tryd.ntmps19
  go_wp2_with fail
  refine (valid_any A l n c 8 _ hl hn (by unfold maxLen; omega)).mono ?_
  rintro e w1 ⟨rfl, hx1⟩
  rw [hv]
  clear hn hl hv
  have HB0 := hid (bld_mono (Lib.fresh_isBuilder 58 5 w1) hx1.size)
  have HX1 := hid hx1
  have HG : Hid (w.heap.size ≤ w1.heap.size) := hx1.size
  clear hx1
  go_wp2_with fail
  go_loopw [12] (fun i wr => ∃ k : Nat, k ≤ n ∧ i = .int .i64 k ∧ Lib.IsBuilder 58 5 w.heap.size w1.heap.size (Lib.byteCells (fmtL (l.take k))) wr ∧ Ext w wr) (fun i _ => n - (intOf i).toNat)
  case atStart => exact ⟨0, Nat.zero_le _, rfl, HB0.out, HX1.out.alloc _⟩
  case round =>
    obtain ⟨k, hk, rfl, hb, hxr⟩ := hrel
    have HB := hid hb
    clear hb
    by_cases hlt : k < n
    · obtain ⟨a, ha⟩ : ∃ a, l[k]? = some a := ⟨_, List.getElem?_eq_getElem (by rw [HN.out]; exact hlt)⟩
      obtain ⟨b, off, rfl, hc0, hc1, hc2, hc3⟩ := (HL.out.ext hxr) k a ha
      have hca := HC.out a (List.mem_of_getElem? ha)
      have hsz := lineB_size w a hca
      have HT : Hid (fmtL (l.take (k + 1)) = fmtL (l.take k) ++ ((lineB a).data.toList ++ [10])) := by
        obtain ⟨hi, rfl⟩ := List.getElem?_eq_some_iff.1 ha
        unfold Hid
        rw [List.take_succ_eq_append_getElem hi, fmtL_snoc]
      have HLN : Hid ((fmtL (l.take k)).length ≤ 61000) := by
        have h1 := fmtL_len w (l.take k) fun x hx => HC.out x (List.mem_of_mem_take hx)
        have h2 : (l.take k).length ≤ k := List.length_take_le _ _
        unfold Hid
        omega
      have HS : Hid ((lineB a).size ≤ 60) := hsz
      have HXR := hid hxr
      clear ha
      go_wp2_with fail
      refine (line_any a.k a.s a.wr a.b _ ((hca.ext HXR.out).ext ((Ext.refl _).alloc _))).mono ?_
      rintro e w2 ⟨rfl, hx2⟩
      have HB2 := hid (bld_ext HB.out (((Ext.refl wr).alloc _).trans hx2))
      have HX2 : Hid (Ext w w2) := HXR.out.trans (((Ext.refl wr).alloc _).trans hx2)
      clear hx2 hxr hca
      change (lineB a).size ≤ 60 at hsz
      generalize hLA : lineB a = LA at *
      have HLA := hid hLA
      clear hLA
      have HLEN : Hid ((Lib.byteCells (fmtL (l.take k))).length + (LA ++ ⟨#[10]⟩ : ByteArray).size ≤ 140737488355328) := by
        have e1 : (⟨#[10]⟩ : ByteArray).size = 1 := rfl
        have h1 := HLN.out
        have h2 := HS.out
        unfold Hid
        rw [Lib.byteCells_length, ByteArray.size_append, e1]
        omega
      go_wp2_with fail
      have HW := hid (writes_any w.heap.size w1.heap.size _ (LA ++ ⟨#[10]⟩) w2 HB2.out HLEN.out HX2.out.size)
      go_fit HW.out
      rintro e w3 ⟨rfl, hb3, hx3⟩
      have HB3 := hid hb3
      have HX3 := hid hx3
      clear hb3 hx3
      go_wp2_with fail
      go_roundw
      case rel =>
        refine ⟨k + 1, by omega, by go_num, ?_, bel_trans HX2.out HX3.out⟩
        rw [HT.out, Lib.byteCells_append]
        have e : Lib.byteCells (LA.data.toList ++ [10]) = Lib.strCells (LA ++ ⟨#[10]⟩) := by rw [Lib.strCells_eq]; simp
        rw [e]
        exact .inr HB3.out
      case measure => simp [intOf]; omega
    · obtain rfl : k = n := by omega
      go_wp2_with fail
      refine (Tryd.Builder_String_any w.heap.size w1.heap.size _ _ HB.out hxr.size).mono ?_
      rintro e w2 ⟨rfl, hx2⟩
      go_wp2_with fail
      go_ret2
      refine ⟨?_, bel_trans hxr hx2⟩
      rw [List.take_of_length_le (by rw [HN.out]; exact Nat.le_refl _)]
      rfl

end Go.Proofs.YtcdinoepjimkmaaDoor
