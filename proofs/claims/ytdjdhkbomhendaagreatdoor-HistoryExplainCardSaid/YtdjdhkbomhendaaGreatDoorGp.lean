/-
  Walks over history: Split, SplitN, Cut, Index, in plain words. · Walks over history: header (plain part).
-/
import Derived.Test.YtdjdhkbomhendaaGreatDoorGo
import Derived.Test.YtdjdhkbomhendaaGreatDoorGm
import Derived.Test.YtdjdhkbomhendaaGreatDoorGe
import Derived.Lib.SplitLaws
import Derived.Lib.SlicesS
import Derived.Test.YtdjdhkbomhendaaGreatDoorGn
import Derived.Test.YtdjdhkbomhendaaGreatDoorGk
import Derived.Test.YtdjdhkbomhendaaGreatDoorHW13z
namespace Go.Proofs.YtdjdhkbomhendaaGreatDoor
open Go.RowKit
set_option linter.unusedVariables false
set_option linter.unusedSimpArgs false
set_option maxHeartbeats 1000000
set_option maxRecDepth 100000

/-- a slice of texts -/
def TxAt (w : World) (b : Nat) (l : List (List UInt8)) : Prop := ∀ (j : Nat) (x : List UInt8), l[j]? = some x → w.cell? ⟨b, j, none⟩ = some (.string (BA x))
theorem TxAt.ext {w w' : World} {b : Nat} {l : List (List UInt8)} (h : TxAt w b l) (hx : Ext w w') : TxAt w' b l := fun j x hj => hx.keep (h j x hj)
theorem splitB_W (k : Nat) (s : ByteArray) : Lib.splitB ⟨#[32]⟩ 0 k s = (splitW 32 k s.data.toList).map BA := by
  have h := Lib.splitB_data ⟨#[32]⟩ 0 k s
  rw [show (⟨#[32]⟩ : ByteArray).data.toList = [32] from rfl, splitK_W] at h
  rw [← h, List.map_map]
  conv => lhs; rw [← List.map_id (Lib.splitB ⟨#[32]⟩ 0 k s)]
  apply List.map_congr_left
  intro x _
  exact (BA_of x).symm
theorem splitn_any (s : ByteArray) (w : World) (hs : s.size ≤ 1000000) (hw : Sh w) :
    Calls Tryz.prog 69 #[.string s, .string ⟨#[32]⟩, .int .i64 4] w fun e w' => (∃ b c, e = .returned (.slice (some ⟨b, 0, none⟩) (splitW 32 (min 4 (s.data.toList.length + 1) - 1) s.data.toList).length c) ∧ TxAt w' b (splitW 32 (min 4 (s.data.toList.length + 1) - 1) s.data.toList)) ∧ Ext w w' := by
  obtain ⟨m, hm⟩ := hw
  refine (Tryz.strings_SplitN s ⟨#[32]⟩ 4 m w (by omega) hm (by decide) (by decide) (by decide)).mono ?_
  rintro e w' ⟨rfl, rfl⟩
  have hz : s.data.toList.length = s.size := rfl
  rw [hz, splitB_W]
  refine ⟨⟨w.heap.size, _, by rw [List.length_map], fun j x hj => ?_⟩, (Ext.refl w).alloc _⟩
  rw [World.cell?_alloc_new]
  unfold Lib.cellsOf
  have hj2 := (List.getElem?_eq_some_iff.1 hj).1
  rw [List.getElem?_toArray, List.getElem?_append_left (by simpa using hj2), List.getElem?_map, List.getElem?_map, hj]
  rfl
theorem countB_W (s : ByteArray) : Lib.countB s ⟨#[32]⟩ = s.data.toList.count 32 := by
  show Lib.count s.data.toList [32] = _
  exact Lib.count_one 32 _
theorem split_any (s : ByteArray) (w : World) (hs : s.size ≤ 1000000) (hw : Sh w) :
    Calls Tryz.prog 74 #[.string s, .string ⟨#[32]⟩] w fun e w' => (∃ b c, e = .returned (.slice (some ⟨b, 0, none⟩) (wordsW s.data.toList).length c) ∧ (wordsW s.data.toList).length ≤ c ∧ TxAt w' b (wordsW s.data.toList)) ∧ Ext w w' := by
  obtain ⟨m, hm⟩ := hw
  refine (Tryz.strings_Split s ⟨#[32]⟩ m w (by omega) hm (by decide)).mono ?_
  rintro e w' ⟨rfl, rfl⟩
  have hl := Lib.splitB_all ⟨#[32]⟩ (by decide) 0 _ s rfl
  rw [splitB_W, List.length_map] at hl
  rw [splitB_W]
  rw [← hl, countB_W]
  refine ⟨⟨w.heap.size, _, rfl, Nat.le_refl _, fun j x hj => ?_⟩, (Ext.refl w).alloc _⟩
  rw [World.cell?_alloc_new]
  change (splitW 32 (s.data.toList.count 32) s.data.toList)[j]? = some x at hj
  rw [List.getElem?_toArray, List.getElem?_map, List.getElem?_map, hj]
  rfl
theorem cutl_any (s : ByteArray) (w : World) (hs : s.size ≤ 1000000) (hw : Sh w) :
    Calls Tryz.prog 33 #[.string s, .string ⟨#[10]⟩] w fun e w' => e = .returned (.tuple #[.string (BA (cutW 10 s.data.toList).1), .string (BA (cutW 10 s.data.toList).2.1), .bool (cutW 10 s.data.toList).2.2]) ∧ Ext w w' := by
  obtain ⟨m, hm⟩ := hw
  refine (Tryz.strings_Cut s ⟨#[10]⟩ m w (by omega) hm).mono ?_
  rintro e w' ⟨rfl, n, rfl⟩
  rw [show (⟨#[10]⟩ : ByteArray).data.toList = [10] from rfl, cut_cutW]
  exact ⟨rfl, (Ext.refl w).drewN n⟩
theorem idx_kw (x : ByteArray) : Lib.idxOfS kwL x = kindOf x.data.toList ∨ (Lib.idxOfS kwL x < 1 ∧ kindOf x.data.toList = 0) := by
  have hx : ∀ k : Int, x.data.toList = (kwB k).data.toList → x = kwB k := fun k h => t_inj h
  by_cases e1 : x = kwB 1
  · subst e1; left; decide
  by_cases e2 : x = kwB 2
  · subst e2; left; decide
  by_cases e3 : x = kwB 3
  · subst e3; left; decide
  by_cases e4 : x = kwB 4
  · subst e4; left; decide
  by_cases e5 : x = kwB 5
  · subst e5; left; decide
  by_cases e6 : x = kwB 6
  · subst e6; left; decide
  by_cases e7 : x = kwB 7
  · subst e7; left; decide
  by_cases e8 : x = kwB 8
  · subst e8; left; decide
  by_cases e9 : x = kwB 9
  · subst e9; left; decide
  by_cases e10 : x = kwB 10
  · subst e10; left; decide
  by_cases e11 : x = kwB 11
  · subst e11; left; decide
  by_cases e12 : x = kwB 12
  · subst e12; left; decide
  by_cases e13 : x = kwB 13
  · subst e13; left; decide
  right
  constructor
  · unfold Lib.idxOfS kwL
    by_cases e0 : kwB 0 = x
    · simp [Lib.idxFromS, e0]
    · simp [Lib.idxFromS, e0, Ne.symm e1, Ne.symm e2, Ne.symm e3, Ne.symm e4, Ne.symm e5, Ne.symm e6, Ne.symm e7, Ne.symm e8, Ne.symm e9, Ne.symm e10, Ne.symm e11, Ne.symm e12, Ne.symm e13]
  · unfold kindOf
    rw [if_neg fun h => e1 (hx 1 h), if_neg fun h => e2 (hx 2 h), if_neg fun h => e3 (hx 3 h), if_neg fun h => e4 (hx 4 h), if_neg fun h => e5 (hx 5 h), if_neg fun h => e6 (hx 6 h), if_neg fun h => e7 (hx 7 h), if_neg fun h => e8 (hx 8 h), if_neg fun h => e9 (hx 9 h), if_neg fun h => e10 (hx 10 h), if_neg fun h => e11 (hx 11 h), if_neg fun h => e12 (hx 12 h), if_neg fun h => e13 (hx 13 h)]
theorem windex_any (b : Nat) (x : ByteArray) (w : World) (h : WordsAt w b) :
    Calls Tryz.prog 75 #[.slice (some ⟨b, 0, none⟩) 14 14, .string x] w fun e w' => e = .returned (.int .i64 (Lib.idxOfS kwL x)) ∧ w' = w := by
  refine (Tryz.slices_Index_string b 0 14 14 kwL x w (by decide) (by decide) fun j hj => h j _ ?_).mono ?_
  · rw [List.getD_eq_getElem?_getD, List.getElem?_eq_getElem hj]
    rfl
  · rintro e w' ⟨rfl, rfl⟩
    exact ⟨rfl, rfl⟩
end Go.Proofs.YtdjdhkbomhendaaGreatDoor
namespace Go.Proofs.YtdjdhkbomhendaaGreatDoor
open Go.RowKit
set_option linter.unusedVariables false
set_option linter.unusedSimpArgs false
set_option maxHeartbeats 400000
set_option maxRecDepth 100000

theorem allN_eq (w : List UInt8) (r : List (List UInt8)) : allN (w :: r) = match numP (BA w) with
    | none => none
    | some n => match allN r with
      | none => none
      | some l => some (n :: l) := by
  rw [allN]
  rfl
theorem allN_app : ∀ (l : List (List UInt8)) (x : List UInt8), allN (l ++ [x]) = match allN l, numP (BA x) with
    | some ns, some n => some (ns ++ [n])
    | _, _ => none
  | [], x => by
    rw [List.nil_append, allN_eq, show allN [] = some [] from rfl]
    cases numP (BA x) <;> rfl
  | w :: r, x => by
    have ih := allN_app r x
    rw [List.cons_append, allN_eq, allN_eq, ih]
    cases numP (BA w) <;> cases allN r <;> cases numP (BA x) <;> rfl
theorem allN_none : ∀ (r : List (List UInt8)) (k : Nat) (x : List UInt8), r[k]? = some x → numP (BA x) = none → allN r = none
  | [], k, x, h, hn => by simp at h
  | w :: r, 0, x, h, hn => by
    obtain rfl : w = x := by simpa using h
    rw [allN_eq, hn]
  | w :: r, k + 1, x, h, hn => by
    rw [allN_eq, allN_none r k x (by simpa using h) hn]
    cases numP (BA w) <;> rfl
theorem allN_take {r : List (List UInt8)} {k : Nat} {x : List UInt8} {ns : List Int} {n : Int} (h : r[k]? = some x) (h0 : allN (r.take k) = some ns) (hn : numP (BA x) = some n) : allN (r.take (k + 1)) = some (ns ++ [n]) := by
  rw [take_step h, allN_app, h0, hn]
theorem allN_len {r : List (List UInt8)} {ns : List Int} (h : allN r = some ns) : ns.length = r.length := by
  rw [(allN_some r ns h).1, List.length_map]
def pad4 (ns : List Int) : List Int := ns ++ List.replicate (4 - ns.length) 0
theorem pad4_set {ns : List Int} {n : Int} (h : ns.length < 4) : (pad4 ns).set ns.length n = pad4 (ns ++ [n]) := by
  unfold pad4
  rw [List.set_append_right _ _ (Nat.le_refl _), Nat.sub_self, List.length_append, List.length_singleton, List.append_assoc]
  congr 1
  obtain ⟨d, hd⟩ : ∃ d, 4 - ns.length = d + 1 := ⟨3 - ns.length, by omega⟩
  rw [hd, List.replicate_succ, List.set_cons_zero, show 4 - (ns.length + 1) = d by omega]
  rfl
theorem pad4_get {ns : List Int} (h : ns.length ≤ 4) (j : Nat) (hj : j < 4) : (pad4 ns)[j]? = some (ns.getD j 0) := by
  unfold pad4
  rcases Nat.lt_or_ge j ns.length with h1 | h1
  · rw [List.getElem?_append_left h1, List.getD_eq_getElem?_getD, List.getElem?_eq_getElem h1]
    rfl
  · rw [List.getElem?_append_right h1, List.getElem?_replicate, if_pos (by omega), List.getD_eq_getElem?_getD, List.getElem?_eq_none h1]
    rfl
theorem pad4_eq : ∀ {ns : List Int}, ns.length ≤ 4 → pad4 ns = [ns.getD 0 0, ns.getD 1 0, ns.getD 2 0, ns.getD 3 0]
  | [], _ => rfl
  | [_], _ => rfl
  | [_, _], _ => rfl
  | [_, _, _], _ => rfl
  | [_, _, _, _], _ => rfl
  | _ :: _ :: _ :: _ :: _ :: _, h => by simp at h
theorem hdr_cons {l w : List UInt8} {r : List (List UInt8)} (h : wordsW l = w :: r) : hdrP l = if 1 ≤ kindOf w ∧ r.length = numK (kindOf w) then
      match allN r with
      | none => none
      | some ns => if (chk (mkE (kindOf w) ns)).ok = true then some (mkE (kindOf w) ns) else none
    else none := by
  unfold hdrP
  rw [h]
  rfl
/-- the event of a header's words -/
def hdrN (k : Int) (r : List (List UInt8)) : Option Ev := match allN r with
  | none => none
  | some ns => if (chk (mkE k ns)).ok = true then some (mkE k ns) else none
theorem hdrN_none {k : Int} {r : List (List UInt8)} (h : allN r = none) : hdrN k r = none := by
  unfold hdrN
  rw [h]
theorem hdrN_some {k : Int} {r : List (List UInt8)} {ns : List Int} (h : allN r = some ns) : hdrN k r = if (chk (mkE k ns)).ok = true then some (mkE k ns) else none := by
  unfold hdrN
  rw [h]
theorem hdr_yes {l w : List UInt8} {r : List (List UInt8)} (h : wordsW l = w :: r) (h1 : 1 ≤ kindOf w) (h2 : r.length = numK (kindOf w)) : hdrP l = hdrN (kindOf w) r := by
  rw [hdr_cons h, if_pos ⟨h1, h2⟩]
  rfl
theorem hdr_no {l w : List UInt8} {r : List (List UInt8)} (h : wordsW l = w :: r) (h1 : ¬ (1 ≤ kindOf w ∧ r.length = numK (kindOf w))) : hdrP l = none := by
  rw [hdr_cons h, if_neg h1]
theorem words_cons (l : List UInt8) : ∃ w r, wordsW l = w :: r := (splitW_join 32 _ l).2
end Go.Proofs.YtdjdhkbomhendaaGreatDoor
