/-
  Walks: list, for the slices of a statement.
-/
import Derived.Test.YtcdnodjcnofogaaGreatDoorW46
import Derived.Test.YtcdnodjcnofogaaGreatDoorApp
import Derived.Test.YtcdnodjcnofogaaGreatDoorFmt
namespace Go.Proofs.YtcdnodjcnofogaaGreatDoor
open Go.RowKit
set_option linter.unusedVariables false
set_option linter.unusedSimpArgs false
set_option maxHeartbeats 4000000
set_option maxRecDepth 100000

theorem takeA {α : Type} {l : List α} {i : Nat} {e : α} (h : l[i]? = some e) : l.take (i + 1) = l.take i ++ [e] := by
  obtain ⟨hi, rfl⟩ := List.getElem?_eq_some_iff.1 h
  rw [List.take_succ_eq_append_getElem hi]
theorem reads_new1 (w : World) (v : Value) (e : TypeId) : Reads (w.alloc (.cells #[v] e)) (w.heap.size + 1) 1 (some ⟨w.heap.size, 0, none⟩) 1 [v] :=
  ⟨by simp, fun _ => ⟨_, rfl, Nat.lt_succ_self _, news_at w #[v] e w.heap.size rfl⟩⟩
theorem own_atN {w : World} {B e sz n : Nat} {v : Value} {xs : List Value} (h : w.ownsRow B e sz v n xs) : ∀ q, v.ownBlock = some q → B ≤ q := fun q hq => (h.lt q hq).1
theorem info_str : (Tryz.prog.info? 9).map (fun i => (i.zero, i.size, i.bytes)) = some (some (.string ⟨#[]⟩), 1, 16) := by kernel_rfl
def strV (l : List ByteArray) : List Value := l.map Value.string
theorem strV_one (l : List ByteArray) : ∀ u ∈ strV l, u.oneCell' = true := by
  intro u hu
  unfold strV at hu
  obtain ⟨a, _, rfl⟩ := List.mem_map.1 hu
  rfl
theorem strV_get {l : List ByteArray} {i : Nat} {s : ByteArray} (h : l[i]? = some s) : (strV l)[i]? = some (.string s) := by unfold strV; rw [List.getElem?_map, h]; rfl
theorem own_strs {w : World} {B n : Nat} {v : Value} {l : List ByteArray} (h : w.ownsRow B 9 1 v n (strV l)) (hm : ∀ s ∈ l, s.size ≤ 9223372036854775807) : ∃ A c, v = .slice A n c ∧ StrsAt w A l ∧ l.length = n := by
  have hl : l.length = n := by have := h.1; simpa [strV] using this
  rcases h.2 with ⟨rfl, hx⟩ | ⟨g, cap, cur, rfl, hb, hg, hrest⟩
  · refine ⟨none, 0, ?_, ?_, hl⟩
    · have : l = [] := List.eq_nil_of_length_eq_zero (by simpa [hl] using hx)
      subst this; subst hl; rfl
    · intro i s hs
      have : l = [] := List.eq_nil_of_length_eq_zero (by simpa [hl] using hx)
      subst this; cases hs
  · refine ⟨_, _, rfl, fun i s hs => ⟨hm s (List.mem_of_getElem? hs), g, 0, rfl, ?_⟩, hl⟩
    have hi : i < l.length := (List.getElem?_eq_some_iff.1 hs).1
    have := h.cellAt i (by omega)
    rw [Nat.zero_add, this, strV_get hs]
theorem com_list : comS.data.toList = [44, 32] := rfl
theorem cma_join (x : ByteArray) (l : List ByteArray) : (⟨(Lib.join ((x :: l).map (·.data.toList)) comS.data.toList).toArray⟩ : ByteArray) = cma (x :: l) := by
  have h := join_tail l x
  apply t_inj
  show _ = (l.foldl _ x).data.toList
  rw [h, com_list]
  show Lib.join (x.data.toList :: l.map (·.data.toList)) [44, 32] = _
  rw [Lib.join_cons]
theorem join_at (l : List ByteArray) (A : Option Addr) (n c : Nat) (w : World) (hl : l.length = n) (hc : n ≤ c) (hk : StrsAt w A l) (hz : sumS l ≤ 1000000000) :
    Calls Tryz.prog 136 #[.slice A n c, .string ⟨#[44, 32]⟩] w fun r w' => r = .returned (.string (cma l)) ∧ Ext w w' := by
  cases l with
  | nil =>
    subst hl
    exact (Tryz.strings_Join_none A c ⟨#[44, 32]⟩ w).mono fun r w' ⟨h1, h2⟩ => ⟨h1, h2 ▸ Ext.refl w⟩
  | cons x l =>
    obtain ⟨_, b, off, rfl, h0⟩ := hk 0 x rfl
    have hcells : ∀ (j : Nat) y, (x :: l)[j]? = some y → w.cell? ⟨b, off + j, none⟩ = some (.string y) := fun j y hy => by
      obtain ⟨_, b', off', hA, h1⟩ := hk j y hy
      simp only [Option.some.injEq, Addr.mk.injEq, and_true] at hA
      obtain ⟨rfl, rfl⟩ := hA
      exact h1
    have hs := sumS_len (x :: l)
    have hj := cma_join x l
    have hz2 := cma_size (x :: l)
    have hlen : (Lib.join ((x :: l).map (·.data.toList)) comS.data.toList).length = (cma (x :: l)).size := by
      rw [← hj]; show _ = ((Lib.join _ _).toArray).size; simp
    subst hl
    refine (Tryz.strings_Join b off c (x :: l) comS w hcells (cell_lt h0) (by omega) hc (by rw [hlen]; omega)).mono fun r w' ⟨h1, h2⟩ => ⟨?_, h2⟩
    rw [h1, hj]
theorem own_cap {w : World} {B e sz n : Nat} {A : Option Addr} {m c : Nat} {xs : List Value} (h : w.ownsRow B e sz (.slice A m c) n xs) : n ≤ c := by
  rcases h.2 with ⟨h1, hx⟩ | ⟨g, cap, cur, h1, hb, hg, hrest⟩
  · simp only [Value.slice.injEq] at h1; omega
  · simp only [Value.slice.injEq] at h1; obtain ⟨_, _, rfl⟩ := h1; exact hrest.1
theorem join_own (l : List ByteArray) (v : Value) (B n : Nat) (w : World) (h : w.ownsRow B 9 1 v n (strV l)) (hz : sumS l ≤ 1000000000) :
    Calls Tryz.prog 136 #[v, .string ⟨#[44, 32]⟩] w fun r w' => r = .returned (.string (cma l)) ∧ Ext w w' := by
  obtain ⟨A, c, rfl, hk, hl⟩ := own_strs h fun s hs => by have := sumS_mem hs; omega
  exact join_at l A n c w hl (own_cap h) hk hz
theorem ls_ex (F : FuncId) (hE : Ent F) (p : Ex → ByteArray) (l : List Ex) (A : Option Addr) (n c : Nat) (w : World) (hl : l.length = n) (hn : n ≤ 100000000) (hk : KidsAt w A l) (hz : sumS (l.map p) ≤ 1000000000)
    (hF : ∀ x ∈ l, ∀ (W : World), Ext w W → ∀ (Ai : Option Addr) (ni ci : Nat), ExV W x Ai ni ci → Calls Tryz.prog F #[x.d.val Ai ni ci] W fun r W' => r = .returned (.string (p x)) ∧ Ext W W') :
    Calls Tryz.prog 137 #[.slice A n c, .func (Fn.func F) #[] #[]] w fun r w' => r = .returned (.string (cma (l.map p))) ∧ Ext w w' := by
  unfold Ent at hE
  obtain ⟨i0, hi, hz0, hz1, hz2⟩ := info_parts info_str
  have HL := hid hl
  have HK := hid hk
  have HF := hid hF
  have HZ := hid hz
  clear hl hk hF hz
  go_enter Tryz.func137, Tryz.ntmps137
  go_wp2_with fail
  go_loopw [5, 10] (fun nv iv wr => ∃ (k : Nat), k ≤ n ∧ iv = .int .i64 k ∧ wr.ownsRow w.heap.size 9 1 nv k (strV ((l.take k).map p)) ∧ Ext w wr) (fun _ i _ => n - (intOf i).toNat)
  case atStart => exact ⟨0, Nat.zero_le _, rfl, World.ownsRow_nil _ _ _ _, Ext.refl w⟩
  case round =>
    obtain ⟨k, hkn, rfl, hown, hxr⟩ := hrel
    have HO := hid hown
    have HXr := hid hxr
    clear hown
    by_cases hlt : k < n
    · obtain ⟨x, hx⟩ := rat_lt HL.out hlt
      obtain ⟨b, off, Ai, ni, ci, rfl, q0, q1, q2, q3, q4, q5, q6, q7, h1⟩ := (HK.out.ext hxr).get hx
      have HC := hid (fun W (hW : Ext wr W) => HF.out x (List.mem_of_getElem? hx) W (hxr.trans hW) Ai ni ci (h1.ext hW))
      have HT : Hid ((l.take (k + 1)).map p = (l.take k).map p ++ [p x]) := by unfold Hid; rw [takeA hx, List.map_append]; rfl
      clear hx hxr
      unfold Nd.val at HC
      go_wp2_with fail
      refine (HC.out _ ((Ext.refl wr).alloc _)).mono ?_
      rintro _ w2 ⟨rfl, hx2⟩
      have HX2 : Hid (Ext wr w2) := ((Ext.refl wr).alloc _).trans hx2
      clear hx2
      have HO1 := hid ((ownN_ext HO.out HX2.out).alloc (.cells #[.string (p x)] 9))
      have HRd := hid (reads_new1 w2 (.string (p x)) 9)
      go_wp2_with (at_builtin; refine wpList_append_any _ rfl (.tmp 14) (.tmp 18) 65 rfl w.heap.size 9 i0 _ 1 16 Tryz.underlying65 hi hz0 hz1 hz2 rfl (by decide) _ k _ rfl HO1.out _ _ 1 1 [.string (p x)] rfl HRd.out (by simp [Value.oneCell']) (by unfold maxLen; omega) (by omega) (Nat.le_trans (HXr.out.trans HX2.out).size (by simp)) ?_; intro v1 w5 hown5 hgr5 hblk5; have HO5 := hid hown5; have HG5 := hid hgr5; clear hown5 hgr5 hblk5)
      go_roundw
      case rel =>
        have hge := own_atN HO.out
        refine ⟨k + 1, by omega, by go_num, ?_, (((HXr.out.trans HX2.out).alloc _)).grown HG5.out fun q hq => hge q hq⟩
        rw [HT.out]
        unfold strV
        rw [List.map_append]
        exact HO5.out
      case measure => simp [intOf]; omega
    · obtain rfl : k = n := by omega
      rw [List.take_of_length_le (Nat.le_of_eq HL.out)] at HO
      have HJ := hid (join_own (l.map p) _ _ _ wr HO.out HZ.out)
      go_wp2_with (go_at_call 136; refine HJ.out.mono ?_; rintro _ w2 ⟨rfl, hx2⟩)
      go_ret
      exact ⟨rfl, HXr.out.trans hx2⟩
theorem ls_row (F : FuncId) (hE : Ent F) (p : (List Ex) → ByteArray) (l : List (List Ex)) (A : Option Addr) (n c : Nat) (w : World) (hl : l.length = n) (hn : n ≤ 100000000) (hk : RowsAt w A l) (hz : sumS (l.map p) ≤ 1000000000)
    (hF : ∀ x ∈ l, ∀ (W : World), Ext w W → ∀ (Ai : Option Addr) (ni ci : Nat), (x.length = ni ∧ KidsAt W Ai x) → Calls Tryz.prog F #[.slice Ai ni ci] W fun r W' => r = .returned (.string (p x)) ∧ Ext W W') :
    Calls Tryz.prog 82 #[.slice A n c, .func (Fn.func F) #[] #[]] w fun r w' => r = .returned (.string (cma (l.map p))) ∧ Ext w w' := by
  unfold Ent at hE
  obtain ⟨i0, hi, hz0, hz1, hz2⟩ := info_parts info_str
  have HL := hid hl
  have HK := hid hk
  have HF := hid hF
  have HZ := hid hz
  clear hl hk hF hz
  go_enter Tryz.func82, Tryz.ntmps82
  go_wp2_with fail
  go_loopw [5, 10] (fun nv iv wr => ∃ (k : Nat), k ≤ n ∧ iv = .int .i64 k ∧ wr.ownsRow w.heap.size 9 1 nv k (strV ((l.take k).map p)) ∧ Ext w wr) (fun _ i _ => n - (intOf i).toNat)
  case atStart => exact ⟨0, Nat.zero_le _, rfl, World.ownsRow_nil _ _ _ _, Ext.refl w⟩
  case round =>
    obtain ⟨k, hkn, rfl, hown, hxr⟩ := hrel
    have HO := hid hown
    have HXr := hid hxr
    clear hown
    by_cases hlt : k < n
    · obtain ⟨x, hx⟩ := rat_lt HL.out hlt
      obtain ⟨b, off, Ai, ni, ci, rfl, q0, h1, h2⟩ := (HK.out.ext hxr) k x hx
      have HC := hid (fun W (hW : Ext wr W) => HF.out x (List.mem_of_getElem? hx) W (hxr.trans hW) Ai ni ci ⟨h1, h2.ext hW⟩)
      have HT : Hid ((l.take (k + 1)).map p = (l.take k).map p ++ [p x]) := by unfold Hid; rw [takeA hx, List.map_append]; rfl
      clear hx hxr
      go_wp2_with fail
      refine (HC.out _ (Ext.refl wr)).mono ?_
      rintro _ w2 ⟨rfl, hx2⟩
      have HX2 : Hid (Ext wr w2) := hx2
      clear hx2
      have HO1 := hid ((ownN_ext HO.out HX2.out).alloc (.cells #[.string (p x)] 9))
      have HRd := hid (reads_new1 w2 (.string (p x)) 9)
      go_wp2_with (at_builtin; refine wpList_append_any _ rfl (.tmp 14) (.tmp 18) 65 rfl w.heap.size 9 i0 _ 1 16 Tryz.underlying65 hi hz0 hz1 hz2 rfl (by decide) _ k _ rfl HO1.out _ _ 1 1 [.string (p x)] rfl HRd.out (by simp [Value.oneCell']) (by unfold maxLen; omega) (by omega) (Nat.le_trans (HXr.out.trans HX2.out).size (by simp)) ?_; intro v1 w5 hown5 hgr5 hblk5; have HO5 := hid hown5; have HG5 := hid hgr5; clear hown5 hgr5 hblk5)
      go_roundw
      case rel =>
        have hge := own_atN HO.out
        refine ⟨k + 1, by omega, by go_num, ?_, (((HXr.out.trans HX2.out).alloc _)).grown HG5.out fun q hq => hge q hq⟩
        rw [HT.out]
        unfold strV
        rw [List.map_append]
        exact HO5.out
      case measure => simp [intOf]; omega
    · obtain rfl : k = n := by omega
      rw [List.take_of_length_le (Nat.le_of_eq HL.out)] at HO
      have HJ := hid (join_own (l.map p) _ _ _ wr HO.out HZ.out)
      go_wp2_with (go_at_call 136; refine HJ.out.mono ?_; rintro _ w2 ⟨rfl, hx2⟩)
      go_ret
      exact ⟨rfl, HXr.out.trans hx2⟩
theorem ls_asg (F : FuncId) (hE : Ent F) (p : Asg → ByteArray) (l : List Asg) (A : Option Addr) (n c : Nat) (w : World) (hl : l.length = n) (hn : n ≤ 100000000) (hk : AsgsAt w A l) (hz : sumS (l.map p) ≤ 1000000000)
    (hF : ∀ x ∈ l, ∀ (W : World), Ext w W → ∀ (Ai : Option Addr) (ni ci : Nat), ExV W x.ex Ai ni ci → Calls Tryz.prog F #[.agg #[.string x.cl, .int .i64 x.ix, .int .i64 x.ex.d.op, .string x.ex.d.tb, .string x.ex.d.nm, .int .i64 x.ex.d.ix, .int .i64 x.ex.d.vk, .int .i64 x.ex.d.vi, .string x.ex.d.vt, .slice Ai ni ci]] W fun r W' => r = .returned (.string (p x)) ∧ Ext W W') :
    Calls Tryz.prog 85 #[.slice A n c, .func (Fn.func F) #[] #[]] w fun r w' => r = .returned (.string (cma (l.map p))) ∧ Ext w w' := by
  unfold Ent at hE
  obtain ⟨i0, hi, hz0, hz1, hz2⟩ := info_parts info_str
  have HL := hid hl
  have HK := hid hk
  have HF := hid hF
  have HZ := hid hz
  clear hl hk hF hz
  go_enter Tryz.func85, Tryz.ntmps85
  go_wp2_with fail
  go_loopw [5, 10] (fun nv iv wr => ∃ (k : Nat), k ≤ n ∧ iv = .int .i64 k ∧ wr.ownsRow w.heap.size 9 1 nv k (strV ((l.take k).map p)) ∧ Ext w wr) (fun _ i _ => n - (intOf i).toNat)
  case atStart => exact ⟨0, Nat.zero_le _, rfl, World.ownsRow_nil _ _ _ _, Ext.refl w⟩
  case round =>
    obtain ⟨k, hkn, rfl, hown, hxr⟩ := hrel
    have HO := hid hown
    have HXr := hid hxr
    clear hown
    by_cases hlt : k < n
    · obtain ⟨x, hx⟩ := rat_lt HL.out hlt
      obtain ⟨b, off, Ai, ni, ci, rfl, q0, q1, q2, q3, q4, q5, q6, q7, q8, q9, h1⟩ := asg_get (HK.out.ext hxr) hx
      have HC := hid (fun W (hW : Ext wr W) => HF.out x (List.mem_of_getElem? hx) W (hxr.trans hW) Ai ni ci (h1.ext hW))
      have HT : Hid ((l.take (k + 1)).map p = (l.take k).map p ++ [p x]) := by unfold Hid; rw [takeA hx, List.map_append]; rfl
      clear hx hxr
      go_wp2_with fail
      refine (HC.out _ ((Ext.refl wr).alloc _)).mono ?_
      rintro _ w2 ⟨rfl, hx2⟩
      have HX2 : Hid (Ext wr w2) := ((Ext.refl wr).alloc _).trans hx2
      clear hx2
      have HO1 := hid ((ownN_ext HO.out HX2.out).alloc (.cells #[.string (p x)] 9))
      have HRd := hid (reads_new1 w2 (.string (p x)) 9)
      go_wp2_with (at_builtin; refine wpList_append_any _ rfl (.tmp 14) (.tmp 18) 65 rfl w.heap.size 9 i0 _ 1 16 Tryz.underlying65 hi hz0 hz1 hz2 rfl (by decide) _ k _ rfl HO1.out _ _ 1 1 [.string (p x)] rfl HRd.out (by simp [Value.oneCell']) (by unfold maxLen; omega) (by omega) (Nat.le_trans (HXr.out.trans HX2.out).size (by simp)) ?_; intro v1 w5 hown5 hgr5 hblk5; have HO5 := hid hown5; have HG5 := hid hgr5; clear hown5 hgr5 hblk5)
      go_roundw
      case rel =>
        have hge := own_atN HO.out
        refine ⟨k + 1, by omega, by go_num, ?_, (((HXr.out.trans HX2.out).alloc _)).grown HG5.out fun q hq => hge q hq⟩
        rw [HT.out]
        unfold strV
        rw [List.map_append]
        exact HO5.out
      case measure => simp [intOf]; omega
    · obtain rfl : k = n := by omega
      rw [List.take_of_length_le (Nat.le_of_eq HL.out)] at HO
      have HJ := hid (join_own (l.map p) _ _ _ wr HO.out HZ.out)
      go_wp2_with (go_at_call 136; refine HJ.out.mono ?_; rintro _ w2 ⟨rfl, hx2⟩)
      go_ret
      exact ⟨rfl, HXr.out.trans hx2⟩
theorem ls_itm (F : FuncId) (hE : Ent F) (p : Itm → ByteArray) (l : List Itm) (A : Option Addr) (n c : Nat) (w : World) (hl : l.length = n) (hn : n ≤ 100000000) (hk : ItmsAt w A l) (hz : sumS (l.map p) ≤ 1000000000)
    (hF : ∀ x ∈ l, ∀ (W : World), Ext w W → ∀ (Ai : Option Addr) (ni ci : Nat), ExV W x.ex Ai ni ci → Calls Tryz.prog F #[.agg #[.int .i64 x.ag, .int .i64 x.ex.d.op, .string x.ex.d.tb, .string x.ex.d.nm, .int .i64 x.ex.d.ix, .int .i64 x.ex.d.vk, .int .i64 x.ex.d.vi, .string x.ex.d.vt, .slice Ai ni ci]] W fun r W' => r = .returned (.string (p x)) ∧ Ext W W') :
    Calls Tryz.prog 139 #[.slice A n c, .func (Fn.func F) #[] #[]] w fun r w' => r = .returned (.string (cma (l.map p))) ∧ Ext w w' := by
  unfold Ent at hE
  obtain ⟨i0, hi, hz0, hz1, hz2⟩ := info_parts info_str
  have HL := hid hl
  have HK := hid hk
  have HF := hid hF
  have HZ := hid hz
  clear hl hk hF hz
  go_enter Tryz.func139, Tryz.ntmps139
  go_wp2_with fail
  go_loopw [5, 10] (fun nv iv wr => ∃ (k : Nat), k ≤ n ∧ iv = .int .i64 k ∧ wr.ownsRow w.heap.size 9 1 nv k (strV ((l.take k).map p)) ∧ Ext w wr) (fun _ i _ => n - (intOf i).toNat)
  case atStart => exact ⟨0, Nat.zero_le _, rfl, World.ownsRow_nil _ _ _ _, Ext.refl w⟩
  case round =>
    obtain ⟨k, hkn, rfl, hown, hxr⟩ := hrel
    have HO := hid hown
    have HXr := hid hxr
    clear hown
    by_cases hlt : k < n
    · obtain ⟨x, hx⟩ := rat_lt HL.out hlt
      obtain ⟨b, off, Ai, ni, ci, rfl, q0, q1, q2, q3, q4, q5, q6, q7, q8, h1⟩ := itm_get (HK.out.ext hxr) hx
      have HC := hid (fun W (hW : Ext wr W) => HF.out x (List.mem_of_getElem? hx) W (hxr.trans hW) Ai ni ci (h1.ext hW))
      have HT : Hid ((l.take (k + 1)).map p = (l.take k).map p ++ [p x]) := by unfold Hid; rw [takeA hx, List.map_append]; rfl
      clear hx hxr
      go_wp2_with fail
      refine (HC.out _ ((Ext.refl wr).alloc _)).mono ?_
      rintro _ w2 ⟨rfl, hx2⟩
      have HX2 : Hid (Ext wr w2) := ((Ext.refl wr).alloc _).trans hx2
      clear hx2
      have HO1 := hid ((ownN_ext HO.out HX2.out).alloc (.cells #[.string (p x)] 9))
      have HRd := hid (reads_new1 w2 (.string (p x)) 9)
      go_wp2_with (at_builtin; refine wpList_append_any _ rfl (.tmp 14) (.tmp 18) 65 rfl w.heap.size 9 i0 _ 1 16 Tryz.underlying65 hi hz0 hz1 hz2 rfl (by decide) _ k _ rfl HO1.out _ _ 1 1 [.string (p x)] rfl HRd.out (by simp [Value.oneCell']) (by unfold maxLen; omega) (by omega) (Nat.le_trans (HXr.out.trans HX2.out).size (by simp)) ?_; intro v1 w5 hown5 hgr5 hblk5; have HO5 := hid hown5; have HG5 := hid hgr5; clear hown5 hgr5 hblk5)
      go_roundw
      case rel =>
        have hge := own_atN HO.out
        refine ⟨k + 1, by omega, by go_num, ?_, (((HXr.out.trans HX2.out).alloc _)).grown HG5.out fun q hq => hge q hq⟩
        rw [HT.out]
        unfold strV
        rw [List.map_append]
        exact HO5.out
      case measure => simp [intOf]; omega
    · obtain rfl : k = n := by omega
      rw [List.take_of_length_le (Nat.le_of_eq HL.out)] at HO
      have HJ := hid (join_own (l.map p) _ _ _ wr HO.out HZ.out)
      go_wp2_with (go_at_call 136; refine HJ.out.mono ?_; rintro _ w2 ⟨rfl, hx2⟩)
      go_ret
      exact ⟨rfl, HXr.out.trans hx2⟩
theorem ls_src (F : FuncId) (hE : Ent F) (p : Src → ByteArray) (l : List Src) (A : Option Addr) (n c : Nat) (w : World) (hl : l.length = n) (hn : n ≤ 100000000) (hk : SrcsAt w A l) (hz : sumS (l.map p) ≤ 1000000000)
    (hF : ∀ x ∈ l, ∀ (W : World), Ext w W → (x.tb.size ≤ 9223372036854775807 ∧ x.al.size ≤ 9223372036854775807) → Calls Tryz.prog F #[.agg #[.string x.tb, .string x.al]] W fun r W' => r = .returned (.string (p x)) ∧ Ext W W') :
    Calls Tryz.prog 142 #[.slice A n c, .func (Fn.func F) #[] #[]] w fun r w' => r = .returned (.string (cma (l.map p))) ∧ Ext w w' := by
  unfold Ent at hE
  obtain ⟨i0, hi, hz0, hz1, hz2⟩ := info_parts info_str
  have HL := hid hl
  have HK := hid hk
  have HF := hid hF
  have HZ := hid hz
  clear hl hk hF hz
  go_enter Tryz.func142, Tryz.ntmps142
  go_wp2_with fail
  go_loopw [5, 10] (fun nv iv wr => ∃ (k : Nat), k ≤ n ∧ iv = .int .i64 k ∧ wr.ownsRow w.heap.size 9 1 nv k (strV ((l.take k).map p)) ∧ Ext w wr) (fun _ i _ => n - (intOf i).toNat)
  case atStart => exact ⟨0, Nat.zero_le _, rfl, World.ownsRow_nil _ _ _ _, Ext.refl w⟩
  case round =>
    obtain ⟨k, hkn, rfl, hown, hxr⟩ := hrel
    have HO := hid hown
    have HXr := hid hxr
    clear hown
    by_cases hlt : k < n
    · obtain ⟨x, hx⟩ := rat_lt HL.out hlt
      obtain ⟨hc, b, off, rfl, q0, q1⟩ := (HK.out.ext hxr) k x hx
      have HC := hid (fun W (hW : Ext wr W) => HF.out x (List.mem_of_getElem? hx) W (hxr.trans hW) hc)
      have HT : Hid ((l.take (k + 1)).map p = (l.take k).map p ++ [p x]) := by unfold Hid; rw [takeA hx, List.map_append]; rfl
      clear hx hxr
      go_wp2_with fail
      refine (HC.out _ ((Ext.refl wr).alloc _)).mono ?_
      rintro _ w2 ⟨rfl, hx2⟩
      have HX2 : Hid (Ext wr w2) := ((Ext.refl wr).alloc _).trans hx2
      clear hx2
      have HO1 := hid ((ownN_ext HO.out HX2.out).alloc (.cells #[.string (p x)] 9))
      have HRd := hid (reads_new1 w2 (.string (p x)) 9)
      go_wp2_with (at_builtin; refine wpList_append_any _ rfl (.tmp 14) (.tmp 18) 65 rfl w.heap.size 9 i0 _ 1 16 Tryz.underlying65 hi hz0 hz1 hz2 rfl (by decide) _ k _ rfl HO1.out _ _ 1 1 [.string (p x)] rfl HRd.out (by simp [Value.oneCell']) (by unfold maxLen; omega) (by omega) (Nat.le_trans (HXr.out.trans HX2.out).size (by simp)) ?_; intro v1 w5 hown5 hgr5 hblk5; have HO5 := hid hown5; have HG5 := hid hgr5; clear hown5 hgr5 hblk5)
      go_roundw
      case rel =>
        have hge := own_atN HO.out
        refine ⟨k + 1, by omega, by go_num, ?_, (((HXr.out.trans HX2.out).alloc _)).grown HG5.out fun q hq => hge q hq⟩
        rw [HT.out]
        unfold strV
        rw [List.map_append]
        exact HO5.out
      case measure => simp [intOf]; omega
    · obtain rfl : k = n := by omega
      rw [List.take_of_length_le (Nat.le_of_eq HL.out)] at HO
      have HJ := hid (join_own (l.map p) _ _ _ wr HO.out HZ.out)
      go_wp2_with (go_at_call 136; refine HJ.out.mono ?_; rintro _ w2 ⟨rfl, hx2⟩)
      go_ret
      exact ⟨rfl, HXr.out.trans hx2⟩
theorem ls_ord (F : FuncId) (hE : Ent F) (p : Ord' → ByteArray) (l : List Ord') (A : Option Addr) (n c : Nat) (w : World) (hl : l.length = n) (hn : n ≤ 100000000) (hk : OrdsAt w A l) (hz : sumS (l.map p) ≤ 1000000000)
    (hF : ∀ x ∈ l, ∀ (W : World), Ext w W → I64 x.it → Calls Tryz.prog F #[.agg #[.int .i64 x.it, .bool x.ds]] W fun r W' => r = .returned (.string (p x)) ∧ Ext W W') :
    Calls Tryz.prog 144 #[.slice A n c, .func (Fn.func F) #[] #[]] w fun r w' => r = .returned (.string (cma (l.map p))) ∧ Ext w w' := by
  unfold Ent at hE
  obtain ⟨i0, hi, hz0, hz1, hz2⟩ := info_parts info_str
  have HL := hid hl
  have HK := hid hk
  have HF := hid hF
  have HZ := hid hz
  clear hl hk hF hz
  go_enter Tryz.func144, Tryz.ntmps144
  go_wp2_with fail
  go_loopw [5, 10] (fun nv iv wr => ∃ (k : Nat), k ≤ n ∧ iv = .int .i64 k ∧ wr.ownsRow w.heap.size 9 1 nv k (strV ((l.take k).map p)) ∧ Ext w wr) (fun _ i _ => n - (intOf i).toNat)
  case atStart => exact ⟨0, Nat.zero_le _, rfl, World.ownsRow_nil _ _ _ _, Ext.refl w⟩
  case round =>
    obtain ⟨k, hkn, rfl, hown, hxr⟩ := hrel
    have HO := hid hown
    have HXr := hid hxr
    clear hown
    by_cases hlt : k < n
    · obtain ⟨x, hx⟩ := rat_lt HL.out hlt
      obtain ⟨hc, b, off, rfl, q0, q1⟩ := (HK.out.ext hxr) k x hx
      have HC := hid (fun W (hW : Ext wr W) => HF.out x (List.mem_of_getElem? hx) W (hxr.trans hW) hc)
      have HT : Hid ((l.take (k + 1)).map p = (l.take k).map p ++ [p x]) := by unfold Hid; rw [takeA hx, List.map_append]; rfl
      clear hx hxr
      go_wp2_with fail
      refine (HC.out _ ((Ext.refl wr).alloc _)).mono ?_
      rintro _ w2 ⟨rfl, hx2⟩
      have HX2 : Hid (Ext wr w2) := ((Ext.refl wr).alloc _).trans hx2
      clear hx2
      have HO1 := hid ((ownN_ext HO.out HX2.out).alloc (.cells #[.string (p x)] 9))
      have HRd := hid (reads_new1 w2 (.string (p x)) 9)
      go_wp2_with (at_builtin; refine wpList_append_any _ rfl (.tmp 14) (.tmp 18) 65 rfl w.heap.size 9 i0 _ 1 16 Tryz.underlying65 hi hz0 hz1 hz2 rfl (by decide) _ k _ rfl HO1.out _ _ 1 1 [.string (p x)] rfl HRd.out (by simp [Value.oneCell']) (by unfold maxLen; omega) (by omega) (Nat.le_trans (HXr.out.trans HX2.out).size (by simp)) ?_; intro v1 w5 hown5 hgr5 hblk5; have HO5 := hid hown5; have HG5 := hid hgr5; clear hown5 hgr5 hblk5)
      go_roundw
      case rel =>
        have hge := own_atN HO.out
        refine ⟨k + 1, by omega, by go_num, ?_, (((HXr.out.trans HX2.out).alloc _)).grown HG5.out fun q hq => hge q hq⟩
        rw [HT.out]
        unfold strV
        rw [List.map_append]
        exact HO5.out
      case measure => simp [intOf]; omega
    · obtain rfl : k = n := by omega
      rw [List.take_of_length_le (Nat.le_of_eq HL.out)] at HO
      have HJ := hid (join_own (l.map p) _ _ _ wr HO.out HZ.out)
      go_wp2_with (go_at_call 136; refine HJ.out.mono ?_; rintro _ w2 ⟨rfl, hx2⟩)
      go_ret
      exact ⟨rfl, HXr.out.trans hx2⟩
end Go.Proofs.YtcdnodjcnofogaaGreatDoor
