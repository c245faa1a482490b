/-
  Walks over the schedule package: parseLine, a line of one word.
-/
import Derived.Test.YtcdinoepjimkmaaDoorW14
import Derived.Test.YtcdinoepjimkmaaDoorShelf3
import Derived.Test.YtcdinoepjimkmaaDoorW4
import Derived.Deep.CutRange
import Derived.Deep.CutBlock
namespace Go.Proofs.YtcdinoepjimkmaaDoor
open Go.RowKit
set_option linter.unusedVariables false
set_option maxHeartbeats 4000000
set_option maxRecDepth 100000

/-- the library's variable of the longest search holds some int -/
def Sh (w : World) : Prop := ∃ m : Int, w.cell? ⟨0, 0, none⟩ = some (.int .i64 m)
theorem Sh.ext {w w' : World} (h : Sh w) (hx : Ext w w') : Sh w' := by
  obtain ⟨m, h⟩ := h
  exact ⟨m, hx.keep h⟩
theorem Er.ext {w w' : World} (h : Er w) (hx : Ext w w') : Er w' := by
  obtain ⟨⟨t1, p1, h1⟩, ⟨t2, p2, h2⟩⟩ := h
  exact ⟨⟨t1, p1, hx.keep h1⟩, ⟨t2, p2, hx.keep h2⟩⟩
theorem split_any (s : ByteArray) (hs : s.size ≤ 20000) : ∃ ws : List ByteArray, ws.map (fun t => t.data.toList) = wordsL s.data.toList ∧ (∀ t ∈ ws, t.size ≤ 20000) ∧ 0 < ws.length ∧ ws.length ≤ 20002 ∧
    ∀ W, Sh W → Calls Tryd.prog 39 #[.string s, .string ⟨#[32]⟩] W fun e w' => e = .returned (.slice (some ⟨W.heap.size, 0, none⟩) ws.length ws.length) ∧ Ext W w' ∧ Blk w' W.heap.size 9 (ws.map Value.string) := by
  have hc : Lib.countB s ⟨#[32]⟩ ≤ s.size + 1 := Lib.count_le s.data.toList [32]
  have hall := Lib.splitB_all ⟨#[32]⟩ (Nat.le_refl 1) 0 _ s rfl
  have hd := Lib.splitB_data ⟨#[32]⟩ 0 (Lib.countB s ⟨#[32]⟩) s
  have hw : Lib.splitK [32] 0 (Lib.count s.data.toList [32]) s.data.toList = wordsL s.data.toList := split_words _ _ (Nat.le_refl _)
  have hd' : (Lib.splitB ⟨#[32]⟩ 0 (Lib.countB s ⟨#[32]⟩) s).map (fun t => t.data.toList) = wordsL s.data.toList := hd.trans hw
  have hsz : ∀ t ∈ Lib.splitB ⟨#[32]⟩ 0 (Lib.countB s ⟨#[32]⟩) s, t.size ≤ 20000 := by
    have hk : ∀ (l : List UInt8) (v : List UInt8), v ∈ wordsL l → v.length ≤ l.length := by
      intro l
      induction l with
      | nil => intro v hv; rw [wordsL, List.mem_singleton] at hv; subst hv; exact Nat.le_refl _
      | cons c r ih =>
        intro v hv
        rw [wordsL] at hv
        split at hv
        · rcases List.mem_cons.1 hv with rfl | hv
          · exact Nat.zero_le _
          · have := ih v hv; rw [List.length_cons]; omega
        · cases hr : wordsL r with
          | nil => rw [hr] at hv; rw [List.mem_singleton] at hv; subst hv; rw [List.length_cons]; simp
          | cons x xs =>
            rw [hr] at hv ih
            rcases List.mem_cons.1 hv with rfl | hv
            · have := ih x (List.mem_cons_self ..); rw [List.length_cons, List.length_cons]; omega
            · have := ih v (List.mem_cons_of_mem _ hv); rw [List.length_cons]; omega
    intro t ht
    have := hk s.data.toList t.data.toList (by rw [← hd']; exact List.mem_map_of_mem ht)
    have e1 : s.data.toList.length = s.size := rfl
    have e2 : t.data.toList.length = t.size := rfl
    omega
  refine ⟨_, hd', hsz, ?_, ?_, fun W hW => ?_⟩
  · rw [hall]; omega
  · rw [hall]; omega
  · obtain ⟨m, hm⟩ := hW
    refine (Tryd.strings_Split s ⟨#[32]⟩ m W (by omega) hm (Nat.le_refl 1)).mono ?_
    rintro e w' ⟨rfl, rfl⟩
    refine ⟨by rw [hall], (Ext.refl W).alloc _, ?_⟩
    exact Blk.of_new W 9 _
def ints (l : List Int) : List Value := l.map fun v => .int .i64 v
theorem ints_snoc (l : List Int) (v : Int) : ints (l ++ [v]) = ints l ++ [.int .i64 v] := by simp [ints]
theorem info3 : (Tryd.prog.info? 3).map (fun i => (i.zero, i.size, i.bytes)) = some (some (.int .i64 0), 1, 8) := by kernel_rfl
theorem atois_some (w : List UInt8) (r : List (List UInt8)) (v : Int) (h : atoiO w = some v) : atois (w :: r) = (atois r).map (v :: ·) := by
  rw [atois, h]
  simp only
  cases atois r <;> rfl
theorem atois_none (w : List UInt8) (r : List (List UInt8)) (h : atoiO w = none) : atois (w :: r) = none := by
  rw [atois, h]
theorem own_shape {w : World} {B e n : Nat} {v : Value} {xs : List Value} (h : w.ownsRow B e 1 v n xs) : ∃ A c, v = .slice A n c := by
  rcases h.2 with ⟨rfl, h0⟩ | ⟨g, cap, cur, rfl, _⟩
  · exact ⟨none, 0, by rw [h0]⟩
  · exact ⟨some ⟨g, 0, none⟩, cap, rfl⟩
/-- what parseLine returns for a line -/
def LineRes (s : ByteArray) (v : Value) : Prop := ∃ (a : Act) (b : Bool), v = .tuple #[a.val, .bool b] ∧ lineP s.data.toList = if b = true then some a else none
theorem lineP_of (s : List UInt8) (w0 : List UInt8) (r : List (List UInt8)) (ns : List Int) (h1 : wordsL s = w0 :: r) (h2 : atois r = some ns) : lineP s = if rightB (candA w0 ns) 8 = true ∧ (lineB (candA w0 ns)).data.toList = s then some (candA w0 ns) else none := by
  unfold lineP
  rw [h1]
  simp only
  rw [h2]
theorem right_can {a : Act} {w : World} (h : rightB a 8 = true) (ht : Tab w) : CanA w a := by
  have hb : ∀ n : Int, 0 ≤ n → n ≤ 1000000 → Can w n := fun n h0 h1 => .inr ⟨ht, by omega, by omega⟩
  rcases right_cases a h with ⟨u, hu, rfl⟩ | rfl | rfl | rfl | ⟨x, b, h1, h2, h3, rfl⟩
  · exact ⟨hb _ (by show (0 : Int) ≤ u; omega) (by show (u : Int) ≤ _; omega), hb 0 (by decide) (by decide), hb 0 (by decide) (by decide)⟩
  · exact ⟨hb 0 (by decide) (by decide), hb 0 (by decide) (by decide), hb 0 (by decide) (by decide)⟩
  · exact ⟨hb 0 (by decide) (by decide), hb 0 (by decide) (by decide), hb 0 (by decide) (by decide)⟩
  · exact ⟨hb 0 (by decide) (by decide), hb 0 (by decide) (by decide), hb 0 (by decide) (by decide)⟩
  · exact ⟨hb 0 (by decide) (by decide), hb _ (by show (0 : Int) ≤ x; omega) (by show (x : Int) ≤ _; omega), hb _ (by show (0 : Int) ≤ b; omega) (by show (b : Int) ≤ _; omega)⟩
end Go.Proofs.YtcdinoepjimkmaaDoor
