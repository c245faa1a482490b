/-
  Walks over the lexer: upper and lower, the program's and the reference's.
-/
import Derived.Test.YtmnjfhjhbjhmhaaDoorW4
namespace Go.Proofs.YtmnjfhjhbjhmhaaDoor
open Go.RowKit
set_option linter.unusedVariables false
set_option maxHeartbeats 1000000
set_option maxRecDepth 100000

/-- a block of cells, which may bear a mark behind its cells -/
def BM (w : World) (g : Nat) (t : TypeId) (cs : List Value) : Prop := ∃ lo hi : Nat, cs.length ≤ lo ∧ w.heap[g]? = some (.cells cs.toArray t (lo, hi))
theorem BM.cell {w : World} {g : Nat} {t : TypeId} {cs : List Value} (h : BM w g t cs) {i : Nat} {v : Value} (hv : cs[i]? = some v) : w.cell? ⟨g, i, none⟩ = some v := by
  obtain ⟨lo, hi, _, h⟩ := h
  simp [World.cell?, h, hv]
theorem BM.frozen {w : World} {g : Nat} {t : TypeId} {cs : List Value} (h : BM w g t cs) {i : Nat} (hi : i < cs.length) : w.frozen? ⟨g, i, none⟩ = false := by
  obtain ⟨lo, hi2, hl, h⟩ := h
  unfold World.frozen?
  rw [h]
  simp only [Bool.and_eq_false_iff, decide_eq_false_iff_not]
  left; omega
theorem BM.set {w : World} {g : Nat} {t : TypeId} {cs : List Value} (h : BM w g t cs) (i : Nat) (u : Value) : BM (w.setCell ⟨g, i, none⟩ u) g t (cs.set i u) := by
  obtain ⟨lo, hi, hl, h⟩ := h
  refine ⟨lo, hi, by rw [List.length_set]; exact hl, ?_⟩
  simp [World.setCell, Array.getElem?_modify, h]
theorem BM.ext {w w' : World} {g : Nat} {t : TypeId} {cs : List Value} (h : BM w g t cs) (hx : Ext w w') : BM w' g t cs := by
  obtain ⟨lo, hi, hl, h⟩ := h
  exact ⟨lo, hi, hl, (Below.block hx g (Array.getElem?_eq_some_iff.1 h).1).trans h⟩
theorem BM.lt {w : World} {g : Nat} {t : TypeId} {cs : List Value} (h : BM w g t cs) : g < w.heap.size := by
  obtain ⟨lo, hi, _, h⟩ := h
  exact (Array.getElem?_eq_some_iff.1 h).1
/-- bytes as cells -/
def b8 (l : List UInt8) : List Value := l.map fun c => .int .u8 (c.toNat : Int)
theorem b8_len (l : List UInt8) : (b8 l).length = l.length := List.length_map _
theorem b8_get (l : List UInt8) (i : Nat) (h : i < l.length) : (b8 l)[i]? = some (.int .u8 ((l[i].toNat : Nat) : Int)) := by
  simp [b8, List.getElem?_map, List.getElem?_eq_getElem h]
theorem b8_get' (l : List UInt8) (r : List Value) (i : Nat) (h : i < l.length) : (b8 l ++ r)[i]? = some (.int .u8 ((l[i].toNat : Nat) : Int)) := by
  rw [List.getElem?_append_left (by rw [b8_len]; exact h), b8_get l i h]
theorem b8_set (l : List UInt8) (r : List Value) (i : Nat) (c : UInt8) (h : i < l.length) : (b8 l ++ r).set i (.int .u8 (c.toNat : Int)) = b8 (l.set i c) ++ r := by
  rw [List.set_append_left _ _ (by rw [b8_len]; exact h)]
  simp [b8, List.map_set]
theorem conv_blk {P : Program} (w : World) (src dst e : TypeId) (s : ByteArray) (hs : P.underlying src = some .string) (hd : P.underlying dst = some (.slice e)) (he : P.underlying e = some (.int .u8)) :
    ∃ cap w2 rest, (convert src dst (.string s)).run P w = .ok (.slice (some ⟨w.heap.size, 0, none⟩) s.size cap) w2 ∧ Ext w w2 ∧ w2.heap.size = w.heap.size + 1 ∧ BM w2 w.heap.size e (b8 s.data.toList ++ rest) := by
  refine ⟨_, _, (Array.replicate (grownCap w s.size 0 e - s.size) (.int .u8 0)).toList, run_bytes_of_string w src dst e s hs hd he, ((Ext.refl w).drew).alloc _, by simp, ?_⟩
  have hb : b8 s.data.toList ++ (Array.replicate (grownCap w s.size 0 e - s.size) (Value.int .u8 0)).toList = (bytesRow s (grownCap w s.size 0 e)).toList := by
    unfold bytesRow b8
    rw [Array.toList_append, Array.toList_map]
  rw [hb]
  refine ⟨(bytesRow s (grownCap w s.size 0 e)).size, (bytesRow s (grownCap w s.size 0 e)).size + 1, Nat.le_of_eq (by rw [Array.length_toList]), ?_⟩
  show (w.heap.push _)[w.heap.size]? = _
  simp
theorem strOf_b8 (l : List UInt8) : strOfNums (l.map fun c => (c.toNat : Int)) = ⟨l.toArray⟩ := by
  unfold strOfNums
  congr 1
  simp [Function.comp_def]
theorem conv_pre {P : Program} {w : World} (src dst e g cap : Nat) (l : List UInt8) (r : List Value) (n : Nat) (hn : n = l.length) (hs : P.underlying src = some (.slice e)) (he : P.underlying e = some (.int .u8)) (hd : P.underlying dst = some .string)
    (hb : BM w g e (b8 l ++ r)) : (convert src dst (.slice (some ⟨g, 0, none⟩) n cap)).run P w = .ok (.string ⟨l.toArray⟩) w := by
  rw [run_convert_bytes_arg w src e hs he g 0 n cap (l.map fun c => (c.toNat : Int)) (by simp [hn]) (fun i hi => ?_) dst hd, strOf_b8]
  rw [Nat.zero_add, hb.cell (b8_get' l r i (by omega))]
  simp [List.getElem?_eq_getElem (show i < l.length by omega)]
/-- the bytes of which the first k are turned -/
def half (f : UInt8 → UInt8) (l : List UInt8) (k : Nat) : List UInt8 := (l.take k).map f ++ l.drop k
theorem half_len (f : UInt8 → UInt8) (l : List UInt8) (k : Nat) : (half f l k).length = l.length := by
  unfold half
  rw [List.length_append, List.length_map, List.length_take, List.length_drop]
  omega
theorem half_get (f : UInt8 → UInt8) (s : ByteArray) (k : Nat) (h : k < s.size) (h' : k < (half f s.data.toList k).length) : (half f s.data.toList k)[k] = s[k] := by
  have hl : ((s.data.toList.take k).map f).length = k := by
    rw [List.length_map, List.length_take]
    have : s.data.toList.length = s.size := rfl
    omega
  unfold half at *
  rw [List.getElem_append_right (by omega)]
  simp only [hl, Nat.sub_self]
  simp only [drop1 s k h, List.getElem_cons_zero]
theorem half_set (f : UInt8 → UInt8) (s : ByteArray) (k : Nat) (h : k < s.size) : (half f s.data.toList k).set k (f s[k]) = half f s.data.toList (k + 1) := by
  have hl : ((s.data.toList.take k).map f).length = k := by
    rw [List.length_map, List.length_take]
    have : s.data.toList.length = s.size := rfl
    omega
  unfold half
  rw [List.set_append_right _ _ (by omega), hl, Nat.sub_self, drop1 s k h, List.set_cons_zero, take1 s k h, List.map_append, List.append_assoc]
  rfl
theorem half_same (f : UInt8 → UInt8) (s : ByteArray) (k : Nat) (h : k < s.size) (e : f s[k] = s[k]) : half f s.data.toList k = half f s.data.toList (k + 1) := by
  have h' : k < (half f s.data.toList k).length := by rw [half_len]; exact h
  rw [← half_set f s k h, e]
  conv => rhs; rw [← half_get f s k h h']
  exact (List.set_getElem_self h').symm
theorem half_all (f : UInt8 → UInt8) (s : ByteArray) (k : Nat) (h : k = s.size) : half f s.data.toList k = s.data.toList.map f := by
  subst h
  unfold half
  have e : s.data.toList.length = s.size := rfl
  rw [List.take_of_length_le (Nat.le_of_eq e), List.drop_of_length_le (Nat.le_of_eq e), List.append_nil]

theorem upper_any (s : ByteArray) (w : World) (hs : s.size ≤ 20000) : Calls Tryd.prog 33 #[.string s] w fun e w' => e = .returned (.string ⟨(s.data.toList.map upC).toArray⟩) ∧ Ext w w' := by
  obtain ⟨cap, w2, rest, hcv, hx2, hz2, hb2⟩ := conv_blk (P := Tryd.prog) w 9 34 5 s Tryd.underlying9 Tryd.underlying34 Tryd.underlying5
  have HZ := hid hz2
  clear hz2
  go_enter Tryd.func33, Tryd.ntmps33
  go_wp2_with fail
  go_loopw [4, 5, 10] (fun _ _ i wr => ∃ k : Nat, k ≤ s.size ∧ i = .int .i64 k ∧ BM wr w.heap.size 5 (b8 (half upC s.data.toList k) ++ rest) ∧ Ext w wr) (fun _ _ i _ => s.size - (intOf i).toNat)
  case atStart => exact ⟨0, Nat.zero_le _, rfl, hb2, hx2⟩
  case round =>
    obtain ⟨k, hk, rfl, hbr, hxr⟩ := hrel
    have HB := hid hbr
    have HX := hid hxr
    clear hxr hx2 hb2 hcv
    by_cases hlt : k < s.size
    · have hl' : k < (half upC s.data.toList k).length := by rw [half_len]; exact hlt
      have hck := hbr.cell (b8_get' _ rest k hl')
      rw [half_get upC s k hlt hl'] at hck
      have hfk : wr.frozen? ⟨w.heap.size, k, none⟩ = false := hbr.frozen (by rw [List.length_append, b8_len]; omega)
      clear hbr
      by_cases hc : 97 ≤ s[k].toNat ∧ s[k].toNat ≤ 122
      · have HN : Hid ((upC s[k]).toNat = s[k].toNat - 32) := by unfold Hid; rw [upC_num, if_pos hc]
        obtain ⟨hc1, hc2⟩ := hc
        go_wp2_with fail
        go_roundw
        case rel =>
          refine ⟨k + 1, by omega, by go_num, ?_, HX.out.setCell (Nat.le_refl _) _⟩
          have h1 := HB.out.set k (.int .u8 ((upC s[k]).toNat : Int))
          rw [b8_set _ rest k _ hl', half_set upC s k hlt, HN.out] at h1
          have e : (((s[k].toNat : Int) - 97 + 65) : Int) = ((s[k].toNat - 32 : Nat) : Int) := by omega
          rw [e]
          exact h1
        case measure => simp [intOf]; omega
      · have HS : Hid (half upC s.data.toList k = half upC s.data.toList (k + 1)) := half_same upC s k hlt (by unfold upC; rw [if_neg hc])
        go_wp2_with fail
        all_goals
          go_roundw
          case rel => exact ⟨k + 1, by omega, by go_num, by rw [← HS.out]; exact HB.out, HX.out⟩
          case measure => simp [intOf]; omega
    · have hcv := conv_pre (P := Tryd.prog) (w := wr) 34 9 5 w.heap.size cap (half upC s.data.toList k) rest s.size (by rw [half_len]; rfl) Tryd.underlying34 Tryd.underlying5 Tryd.underlying9 hbr
      rw [half_all upC s k (by omega)] at hcv
      go_wp2_with fail
      go_ret
      exact ⟨rfl, HX.out⟩

theorem rupper_any (s : ByteArray) (w : World) (hs : s.size ≤ 20000) : Calls Tryd.prog 35 #[.string s] w fun e w' => e = .returned (.string ⟨(s.data.toList.map upC).toArray⟩) ∧ Ext w w' := by
  obtain ⟨cap, w2, rest, hcv, hx2, hz2, hb2⟩ := conv_blk (P := Tryd.prog) w 9 34 5 s Tryd.underlying9 Tryd.underlying34 Tryd.underlying5
  have HZ := hid hz2
  clear hz2
  go_enter Tryd.func35, Tryd.ntmps35
  go_wp2_with fail
  go_loopw [4] (fun i wr => ∃ k : Nat, k ≤ s.size ∧ i = .int .i64 k ∧ BM wr w.heap.size 5 (b8 (half upC s.data.toList k) ++ rest) ∧ Ext w wr) (fun i _ => s.size - (intOf i).toNat)
  case atStart => exact ⟨0, Nat.zero_le _, rfl, hb2, hx2⟩
  case round =>
    obtain ⟨k, hk, rfl, hbr, hxr⟩ := hrel
    have HB := hid hbr
    have HX := hid hxr
    clear hxr hx2 hb2 hcv
    by_cases hlt : k < s.size
    · have hl' : k < (half upC s.data.toList k).length := by rw [half_len]; exact hlt
      have hck := hbr.cell (b8_get' _ rest k hl')
      rw [half_get upC s k hlt hl'] at hck
      have hfk : wr.frozen? ⟨w.heap.size, k, none⟩ = false := hbr.frozen (by rw [List.length_append, b8_len]; omega)
      clear hbr
      by_cases hc : 97 ≤ s[k].toNat ∧ s[k].toNat ≤ 122
      · have HN : Hid ((upC s[k]).toNat = s[k].toNat - 32) := by unfold Hid; rw [upC_num, if_pos hc]
        obtain ⟨hc1, hc2⟩ := hc
        go_wp2_with fail
        go_roundw
        case rel =>
          refine ⟨k + 1, by omega, by go_num, ?_, HX.out.setCell (Nat.le_refl _) _⟩
          have h1 := HB.out.set k (.int .u8 ((upC s[k]).toNat : Int))
          rw [b8_set _ rest k _ hl', half_set upC s k hlt, HN.out] at h1
          have e : (((s[k].toNat : Int) - 32) : Int) = ((s[k].toNat - 32 : Nat) : Int) := by omega
          rw [e]
          exact h1
        case measure => simp [intOf]; omega
      · have HS : Hid (half upC s.data.toList k = half upC s.data.toList (k + 1)) := half_same upC s k hlt (by unfold upC; rw [if_neg hc])
        go_wp2_with fail
        all_goals
          go_roundw
          case rel => exact ⟨k + 1, by omega, by go_num, by rw [← HS.out]; exact HB.out, HX.out⟩
          case measure => simp [intOf]; omega
    · have hcv := conv_pre (P := Tryd.prog) (w := wr) 34 9 5 w.heap.size cap (half upC s.data.toList k) rest s.size (by rw [half_len]; rfl) Tryd.underlying34 Tryd.underlying5 Tryd.underlying9 hbr
      rw [half_all upC s k (by omega)] at hcv
      go_wp2_with fail
      go_ret
      exact ⟨rfl, HX.out⟩

theorem lower_any (s : ByteArray) (w : World) (hs : s.size ≤ 20000) : Calls Tryd.prog 30 #[.string s] w fun e w' => e = .returned (.string ⟨(s.data.toList.map loC).toArray⟩) ∧ Ext w w' := by
  obtain ⟨cap, w2, rest, hcv, hx2, hz2, hb2⟩ := conv_blk (P := Tryd.prog) w 9 34 5 s Tryd.underlying9 Tryd.underlying34 Tryd.underlying5
  have HZ := hid hz2
  clear hz2
  go_enter Tryd.func30, Tryd.ntmps30
  go_wp2_with fail
  go_loopw [4, 5, 10] (fun _ _ i wr => ∃ k : Nat, k ≤ s.size ∧ i = .int .i64 k ∧ BM wr w.heap.size 5 (b8 (half loC s.data.toList k) ++ rest) ∧ Ext w wr) (fun _ _ i _ => s.size - (intOf i).toNat)
  case atStart => exact ⟨0, Nat.zero_le _, rfl, hb2, hx2⟩
  case round =>
    obtain ⟨k, hk, rfl, hbr, hxr⟩ := hrel
    have HB := hid hbr
    have HX := hid hxr
    clear hxr hx2 hb2 hcv
    by_cases hlt : k < s.size
    · have hl' : k < (half loC s.data.toList k).length := by rw [half_len]; exact hlt
      have hck := hbr.cell (b8_get' _ rest k hl')
      rw [half_get loC s k hlt hl'] at hck
      have hfk : wr.frozen? ⟨w.heap.size, k, none⟩ = false := hbr.frozen (by rw [List.length_append, b8_len]; omega)
      clear hbr
      by_cases hc : 65 ≤ s[k].toNat ∧ s[k].toNat ≤ 90
      · have HN : Hid ((loC s[k]).toNat = s[k].toNat + 32) := by unfold Hid; rw [loC_num, if_pos hc]
        obtain ⟨hc1, hc2⟩ := hc
        go_wp2_with fail
        go_roundw
        case rel =>
          refine ⟨k + 1, by omega, by go_num, ?_, HX.out.setCell (Nat.le_refl _) _⟩
          have h1 := HB.out.set k (.int .u8 ((loC s[k]).toNat : Int))
          rw [b8_set _ rest k _ hl', half_set loC s k hlt, HN.out] at h1
          have e : (((s[k].toNat : Int) - 65 + 97) : Int) = ((s[k].toNat + 32 : Nat) : Int) := by omega
          rw [e]
          exact h1
        case measure => simp [intOf]; omega
      · have HS : Hid (half loC s.data.toList k = half loC s.data.toList (k + 1)) := half_same loC s k hlt (by unfold loC; rw [if_neg hc])
        go_wp2_with fail
        all_goals
          go_roundw
          case rel => exact ⟨k + 1, by omega, by go_num, by rw [← HS.out]; exact HB.out, HX.out⟩
          case measure => simp [intOf]; omega
    · have hcv := conv_pre (P := Tryd.prog) (w := wr) 34 9 5 w.heap.size cap (half loC s.data.toList k) rest s.size (by rw [half_len]; rfl) Tryd.underlying34 Tryd.underlying5 Tryd.underlying9 hbr
      rw [half_all loC s k (by omega)] at hcv
      go_wp2_with fail
      go_ret
      exact ⟨rfl, HX.out⟩

theorem rlower_any (s : ByteArray) (w : World) (hs : s.size ≤ 20000) : Calls Tryd.prog 47 #[.string s] w fun e w' => e = .returned (.string ⟨(s.data.toList.map loC).toArray⟩) ∧ Ext w w' := by
  obtain ⟨cap, w2, rest, hcv, hx2, hz2, hb2⟩ := conv_blk (P := Tryd.prog) w 9 34 5 s Tryd.underlying9 Tryd.underlying34 Tryd.underlying5
  have HZ := hid hz2
  clear hz2
  go_enter Tryd.func47, Tryd.ntmps47
  go_wp2_with fail
  go_loopw [4] (fun i wr => ∃ k : Nat, k ≤ s.size ∧ i = .int .i64 k ∧ BM wr w.heap.size 5 (b8 (half loC s.data.toList k) ++ rest) ∧ Ext w wr) (fun i _ => s.size - (intOf i).toNat)
  case atStart => exact ⟨0, Nat.zero_le _, rfl, hb2, hx2⟩
  case round =>
    obtain ⟨k, hk, rfl, hbr, hxr⟩ := hrel
    have HB := hid hbr
    have HX := hid hxr
    clear hxr hx2 hb2 hcv
    by_cases hlt : k < s.size
    · have hl' : k < (half loC s.data.toList k).length := by rw [half_len]; exact hlt
      have hck := hbr.cell (b8_get' _ rest k hl')
      rw [half_get loC s k hlt hl'] at hck
      have hfk : wr.frozen? ⟨w.heap.size, k, none⟩ = false := hbr.frozen (by rw [List.length_append, b8_len]; omega)
      clear hbr
      by_cases hc : 65 ≤ s[k].toNat ∧ s[k].toNat ≤ 90
      · have HN : Hid ((loC s[k]).toNat = s[k].toNat + 32) := by unfold Hid; rw [loC_num, if_pos hc]
        obtain ⟨hc1, hc2⟩ := hc
        go_wp2_with fail
        go_roundw
        case rel =>
          refine ⟨k + 1, by omega, by go_num, ?_, HX.out.setCell (Nat.le_refl _) _⟩
          have h1 := HB.out.set k (.int .u8 ((loC s[k]).toNat : Int))
          rw [b8_set _ rest k _ hl', half_set loC s k hlt, HN.out] at h1
          have e : (((s[k].toNat : Int) + 32) : Int) = ((s[k].toNat + 32 : Nat) : Int) := by omega
          rw [e]
          exact h1
        case measure => simp [intOf]; omega
      · have HS : Hid (half loC s.data.toList k = half loC s.data.toList (k + 1)) := half_same loC s k hlt (by unfold loC; rw [if_neg hc])
        go_wp2_with fail
        all_goals
          go_roundw
          case rel => exact ⟨k + 1, by omega, by go_num, by rw [← HS.out]; exact HB.out, HX.out⟩
          case measure => simp [intOf]; omega
    · have hcv := conv_pre (P := Tryd.prog) (w := wr) 34 9 5 w.heap.size cap (half loC s.data.toList k) rest s.size (by rw [half_len]; rfl) Tryd.underlying34 Tryd.underlying5 Tryd.underlying9 hbr
      rw [half_all loC s k (by omega)] at hcv
      go_wp2_with fail
      go_ret
      exact ⟨rfl, HX.out⟩

end Go.Proofs.YtmnjfhjhbjhmhaaDoor
