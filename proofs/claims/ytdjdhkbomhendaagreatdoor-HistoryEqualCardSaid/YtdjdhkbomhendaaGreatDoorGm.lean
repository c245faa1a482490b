/-
  The first line of an event, as its numbers one behind the other; no program in sight. · Walks over strings.Builder: copyCheck, WriteString. · Walks over history: words.
-/
import Derived.Test.YtdjdhkbomhendaaGreatDoorGg
import Derived.Test.YtdjdhkbomhendaaGreatDoorShelf
import Derived.Shelf.Strings.Builder1
import Derived.Test.YtdjdhkbomhendaaGreatDoorHW1z
namespace Go.Proofs.YtdjdhkbomhendaaGreatDoor
open Go.RowKit
set_option linter.unusedVariables false
set_option maxHeartbeats 400000

def numsB (b : ByteArray) (l : List Int) : ByteArray := l.foldl (fun a n => a ++ spN n) b
def nums4 (e : Ev) : List Int := [e.ss, e.tx, e.st, e.ct + e.er]
theorem head_nums4 {e : Ev} (h : e.ok = true) : e.head = numsB (kwB e.kd) ((nums4 e).take (numK e.kd)) := by
  obtain ⟨kd, ss, tx, st, er, ct, rows, wts⟩ := e
  obtain ⟨h1, h2, h3, h4⟩ := (ev_ok.1 h).1
  dsimp only [bare0] at h1 h2 h3 h4
  unfold Ev.head numK nums4 numsB
  dsimp only
  by_cases h11 : 11 ≤ kd
  · obtain ⟨r1, r2, r3, r4, r5⟩ := h3 h11
    rw [if_neg (show ¬ kd < 11 by omega), if_neg (show ¬ kd = 5 by omega), if_pos r4, if_pos h11]
    rfl
  · obtain ⟨r1, r2, r3, r4, r5, r6, r7, r8⟩ := h4 (by omega)
    rw [if_pos (show kd < 11 by omega), if_neg h11]
    by_cases h5 : kd = 5
    · have := r6 (by omega) (by omega)
      rw [if_pos h5, if_pos this, if_pos (show kd = 5 ∨ kd = 7 ∨ kd = 10 from .inl h5), this, Int.add_zero]
      rfl
    · have hc := r8 h5
      rw [if_neg h5]
      by_cases h7 : kd = 7 ∨ kd = 10
      · have := r5 h7
        rw [if_neg (show ¬ er = 0 by omega), if_pos (show kd = 5 ∨ kd = 7 ∨ kd = 10 from .inr h7), hc, Int.zero_add]
        rfl
      · have := r6 (by omega) (by omega)
        rw [if_pos this, if_neg (show ¬ (kd = 5 ∨ kd = 7 ∨ kd = 10) by omega)]
        rfl
theorem numsB_take {l : List Int} {k : Nat} {x : Int} (b : ByteArray) (h : l[k]? = some x) : numsB b (l.take (k + 1)) = numsB b (l.take k) ++ spN x := fold_take _ b h
theorem numsB_sz {l : List Int} {b : ByteArray} (h : ∀ x ∈ l, i64 x) : (numsB b l).size ≤ b.size + 22 * l.length := by
  have := fold_sz spN 22 l b fun x hx => by
    have := itoB_sz (h x hx)
    unfold spN
    rw [sz1]
    show 1 + _ ≤ 22
    omega
  unfold numsB
  omega
theorem nums4_in {e : Ev} (h : e.sm) (hok : e.ok = true) : ∀ x ∈ nums4 e, i64 x := by
  obtain ⟨⟨_, a1, a2, a3, a4, a5⟩, _⟩ := h
  obtain ⟨h1, h2, h3, h4⟩ := (ev_ok.1 hok).1
  dsimp only [bare0] at h1 h2 h3 h4
  intro x hx
  simp only [nums4, List.mem_cons, List.not_mem_nil, or_false] at hx
  rcases hx with rfl | rfl | rfl | rfl
  · exact a1
  · exact a2
  · exact a3
  · unfold i64 at *
    by_cases h11 : 11 ≤ e.kd
    · obtain ⟨r1, r2, r3, r4, r5⟩ := h3 h11
      omega
    · obtain ⟨r1, r2, r3, r4, r5, r6, r7, r8⟩ := h4 (by omega)
      by_cases h5 : e.kd = 5
      · have := r6 (by omega) (by omega)
        omega
      · have := r8 h5
        omega
theorem ok_kd {e : Ev} (h : e.ok = true) : 1 ≤ e.kd ∧ e.kd ≤ 13 := by
  obtain ⟨h1, h2, _⟩ := (ev_ok.1 h).1
  exact ⟨h1, h2⟩
end Go.Proofs.YtdjdhkbomhendaaGreatDoor
namespace Go.Proofs.YtdjdhkbomhendaaGreatDoor
open Go.RowKit
set_option maxHeartbeats 1000000
set_option maxRecDepth 100000

theorem sizeB : (Tryz.prog.info? 66).map (·.size) = some 2 := by kernel_rfl
theorem liesB : liesAt Tryz.prog Tryz.prog.depth 66 (2 / Tryz.prog.cellsOf 66) 0 66 1 = true := by kernel_rfl

theorem check_used (b : Nat) (w : World) (h0 : w.cell? ⟨b, 0, none⟩ = some (.pointer (some ⟨b, 0, none⟩))) :
    Calls Tryz.prog 62 #[.pointer (some ⟨b, 0, none⟩)] w fun e w' => e = .returned (.tuple #[]) ∧ w = w' := by
  obtain ⟨j, hj, _⟩ := Option.map_eq_some_iff.1 sizeB
  go_enter Tryz.func62, Tryz.ntmps62
  go_wp2
  rw [Lib.run_neq_ptr_same w _ Tryz.underlying63 hj]
  go_wp2
  go_end0
  exact ⟨rfl, rfl⟩

theorem check_fresh (b : Nat) (w : World) (h0 : w.cell? ⟨b, 0, none⟩ = some (.pointer none)) (hsh : w.shape? b = some (66, 2)) (hfz : w.frozen? ⟨b, 0, none⟩ = false) :
    Calls Tryz.prog 62 #[.pointer (some ⟨b, 0, none⟩)] w fun e w' => e = .returned (.tuple #[]) ∧ w' = w.setCell ⟨b, 0, none⟩ (.pointer (some ⟨b, 0, none⟩)) := by
  obtain ⟨j, hj, hjs⟩ := Option.map_eq_some_iff.1 sizeB
  go_enter Tryz.func62, Tryz.ntmps62
  go_wp2
  rw [Lib.run_to_unsafe w ⟨b, 0, none⟩ Tryz.underlying63 Tryz.underlying122 hj (by rw [hjs]; decide) hsh (Nat.zero_lt_succ 1)]
  simp only [Result.andThen]
  rw [Oper.upon_value]
  go_wp2
  rw [run_callFunc_extern Tryz.func91 (by kernel_rfl) (by kernel_rfl) (by kernel_rfl) (e := Extern.AbiNoEscape.same) (by kernel_rfl)]
  rw [Lib.run_noEscape]
  simp only [Result.andThen]
  rw [Oper.upon_value]
  go_wp2
  rw [Lib.run_from_unsafe w ⟨b, 0, none⟩ Tryz.underlying122 Tryz.underlying63 hj hsh liesB]
  simp only [Result.andThen]
  rw [Oper.upon_value]
  go_wp2
  go_end0
  exact ⟨rfl, rfl⟩

theorem infoU : (Tryz.prog.info? 5).map (fun i => (i.zero, i.size, i.bytes)) = some (some (.int .u8 0), 1, 1) := by kernel_rfl

/-- every block that is neither b nor a row of bytes is as it was -/
def KeepB (b : Nat) (w w' : World) : Prop := ∀ (g : Nat) (t : TypeId) (cs : List Value), Blk w g t cs → t ≠ 5 → g ≠ b → Blk w' g t cs
theorem check_any (B b : Nat) (bs : List Value) (w : World) (h : Lib.IsBuilder 66 5 B b bs w) :
    Calls Tryz.prog 62 #[.pointer (some ⟨b, 0, none⟩)] w fun e w' => e = .returned (.tuple #[]) ∧ Lib.BuilderAt 66 5 B b (.pointer (some ⟨b, 0, none⟩)) bs w' ∧ Below B w w' ∧ KeepB b w w' := by
  rcases h with h | h
  · refine (check_fresh b w h.cell0 h.shape h.frozen0).mono ?_
    rintro e w' ⟨rfl, rfl⟩
    exact ⟨rfl, h.used _, (Below.refl B w).setCell (p := ⟨b, 0, none⟩) h.1 _, fun g t cs hb _ hne => hb.far hne _⟩
  · refine (check_used b w h.cell0).mono ?_
    rintro e w' ⟨rfl, rfl⟩
    exact ⟨rfl, h, Below.refl B w, fun g t cs hb _ hne => hb⟩

theorem writes_any (B b : Nat) (bs : List Value) (s : ByteArray) (w : World) (h : Lib.IsBuilder 66 5 B b bs w) (hlen : bs.length + s.size ≤ 140737488355328) (hBw : B ≤ w.heap.size) :
    Calls Tryz.prog 28 #[.pointer (some ⟨b, 0, none⟩), .string s] w fun e w' => e = .returned (.tuple #[.int .i64 s.size, .nilIface]) ∧ Lib.BuilderAt 66 5 B b (.pointer (some ⟨b, 0, none⟩)) (bs ++ Lib.strCells s) w' ∧ Below B w w' ∧ KeepB b w w' := by
  obtain ⟨i0, hi, hz0, hz1, hz2⟩ := info_parts infoU
  go_enter Tryz.func28, Tryz.ntmps28
  go_wp2_with (go_at_call 62; refine (check_any B b bs _ h).mono ?_)
  rintro e w1 ⟨rfl, h1, hb1, hk1⟩
  obtain ⟨hB, v, hbk, hown, hne⟩ := h1
  have c0 : w1.cell? ⟨b, 0, none⟩ = some (.pointer (some ⟨b, 0, none⟩)) := by rw [Lib.cell_of_heap hbk]; rfl
  have c1 : w1.cell? ⟨b, 1, none⟩ = some v := by rw [Lib.cell_of_heap hbk]; rfl
  go_wp2_with (at_builtin; refine Lib.wpList_append_own_string _ rfl _ _ 64 9 rfl B 5 i0 Tryz.underlying64 Tryz.underlying9 hi hz0 hz1 hz2 _ _ _ rfl hown s rfl ?c3 ?c4 ?c5 ?_)
  case c3 => unfold maxLen; omega
  case c4 => omega
  case c5 => have := hb1.size; omega
  intro v' w2 hown' hgrow _
  have hlt : b < w1.heap.size := (Array.getElem?_eq_some_iff.1 hbk).1
  have hb2 : w2.heap[b]? = some (.cells #[.pointer (some ⟨b, 0, none⟩), v] 66 (0, 0)) := by
    rw [hgrow.block b hlt (fun e => hne e.symm)]
    exact hbk
  have d0 : w2.cell? ⟨b, 0, none⟩ = some (.pointer (some ⟨b, 0, none⟩)) := by rw [Lib.cell_of_heap hb2]; rfl
  have d1 : w2.cell? ⟨b, 1, none⟩ = some v := by rw [Lib.cell_of_heap hb2]; rfl
  have f1 : w2.frozen? ⟨b, 1, none⟩ = false := Lib.frozen_of_heap hb2 1
  obtain ⟨ao, n', cap, rfl⟩ : ∃ ao n' cap, v' = .slice ao n' cap := by
    rcases hown'.2 with ⟨hv, _⟩ | ⟨g, cap, cur, hv, _⟩
    · exact ⟨_, _, _, hv⟩
    · exact ⟨_, _, _, hv⟩
  go_wp2
  go_ret2
  refine ⟨rfl, ?_, ?_, ?_⟩
  · exact Lib.BuilderAt.put (T := 66) (e := 5) hB hb2 (bs' := bs ++ Lib.strCells s) (by simpa [Lib.strCells_length] using hown') (by decide)
  · exact (hb1.grown hgrow (by have := hb1.size; omega) (fun k hk => (hown.lt k hk).1)).setCell (p := ⟨b, 1, none⟩) hB _
  · intro q t cs hq ht hne
    refine ((hk1 q t cs hq ht hne).grown hgrow ?_).far hne _
    intro he
    obtain ⟨cur, hcur⟩ := own_type hown he.symm
    have h1 := hk1 q t cs hq ht hne
    unfold Blk at h1
    rw [hcur] at h1
    simp only [Option.some.injEq, Obj.cells.injEq] at h1
    exact ht h1.2.1.symm

theorem own_base {w : World} {B B' e sz n : Nat} {v : Value} {xs : List Value} (h : w.ownsRow B e sz v n xs) (hb : B' ≤ B) : w.ownsRow B' e sz v n xs := by
  obtain ⟨h1, h2⟩ := h
  refine ⟨h1, ?_⟩
  rcases h2 with h2 | ⟨g, cap, cur, hv, hg, r⟩
  · exact .inl h2
  · exact .inr ⟨g, cap, cur, hv, Nat.le_trans hb hg, r⟩
theorem bld_mono {T e B B' b : Nat} {bs : List Value} {w : World} (h : Lib.IsBuilder T e B b bs w) (hb : B' ≤ B) : Lib.IsBuilder T e B' b bs w := by
  rcases h with ⟨h1, v, h2, h3, h4⟩ | ⟨h1, v, h2, h3, h4⟩
  · exact .inl ⟨Nat.le_trans hb h1, v, h2, own_base h3 hb, h4⟩
  · exact .inr ⟨Nat.le_trans hb h1, v, h2, own_base h3 hb, h4⟩
theorem bld_ext {T e B b : Nat} {bs : List Value} {w w' : World} (h : Lib.IsBuilder T e B b bs w) (hx : Ext w w') : Lib.IsBuilder T e B b bs w' := by
  rcases h with ⟨h1, v, h2, h3, h4⟩ | ⟨h1, v, h2, h3, h4⟩
  · exact .inl ⟨h1, v, (Below.block hx b (Array.getElem?_eq_some_iff.1 h2).1).trans h2, ownN_ext h3 hx, h4⟩
  · exact .inr ⟨h1, v, (Below.block hx b (Array.getElem?_eq_some_iff.1 h2).1).trans h2, ownN_ext h3 hx, h4⟩
theorem bel_trans {a b c : World} (h : Ext a b) (k : Below a.heap.size b c) : Ext a c := Below.trans h k
theorem ret_two {a b : Value} {c d : Value} (h : a = c) (k : b = d) : Ending.returned (.tuple #[a, b]) = .returned (.tuple #[c, d]) := by rw [h, k]
/-- the bytes of a string, appended -/
theorem cells_app (a b : ByteArray) : Lib.byteCells (a ++ b).data.toList = Lib.byteCells a.data.toList ++ Lib.strCells b := by
  rw [ByteArray.data_append, Array.toList_append, Lib.byteCells_append, Lib.strCells_eq]
theorem cells_len (a : ByteArray) : (Lib.byteCells a.data.toList).length = a.size := by rw [Lib.byteCells_length]; rfl
/-- the builder at block b holds the bytes of t -/
def BldIs (B b : Nat) (t : ByteArray) (w : World) : Prop := Lib.IsBuilder 66 5 B b (Lib.byteCells t.data.toList) w
theorem BldIs.ext {B b : Nat} {t : ByteArray} {w w' : World} (h : BldIs B b t w) (hx : Ext w w') : BldIs B b t w' := bld_ext h hx
theorem BldIs.lt {B b : Nat} {t : ByteArray} {w : World} (h : BldIs B b t w) : b < w.heap.size := by
  rcases h with ⟨h1, v, h2, h3, h4⟩ | ⟨h1, v, h2, h3, h4⟩
  · exact (Array.getElem?_eq_some_iff.1 h2).1
  · exact (Array.getElem?_eq_some_iff.1 h2).1
theorem write_any (B b : Nat) (t s : ByteArray) (w : World) (h : BldIs B b t w) (hlen : t.size + s.size ≤ 140737488355328) (hBw : B ≤ w.heap.size) :
    Calls Tryz.prog 28 #[.pointer (some ⟨b, 0, none⟩), .string s] w fun e w' => e = .returned (.tuple #[.int .i64 s.size, .nilIface]) ∧ BldIs B b (t ++ s) w' ∧ Below B w w' ∧ KeepB b w w' := by
  refine (writes_any B b _ s w h (by rw [cells_len]; exact hlen) hBw).mono ?_
  rintro e w' ⟨rfl, h1, h2, h3⟩
  refine ⟨rfl, ?_, h2, h3⟩
  unfold BldIs
  rw [cells_app]
  exact .inr h1
theorem bstring_any (B b : Nat) (t : ByteArray) (w : World) (h : BldIs B b t w) (hBw : B ≤ w.heap.size) :
    Calls Tryz.prog 30 #[.pointer (some ⟨b, 0, none⟩)] w fun e w' => e = .returned (.string t) ∧ Below B w w' := by
  refine (Tryz.Builder_String_any B b _ w h hBw).mono ?_
  rintro e w' ⟨rfl, hx⟩
  exact ⟨ret_str (t_inj rfl), hx⟩
theorem bld_new (B : Nat) (w : World) (hB : B ≤ w.heap.size) : BldIs B w.heap.size ⟨#[]⟩ (w.alloc (.cells #[.pointer none, .slice none 0 0] 66)) := bld_mono (Lib.fresh_isBuilder 66 5 w) hB

end Go.Proofs.YtdjdhkbomhendaaGreatDoor
namespace Go.Proofs.YtdjdhkbomhendaaGreatDoor
set_option linter.unusedVariables false
set_option linter.unusedSimpArgs false
open Go.RowKit
set_option maxHeartbeats 1000000
set_option maxRecDepth 100000

def kwL : List ByteArray := [kwB 0, kwB 1, kwB 2, kwB 3, kwB 4, kwB 5, kwB 6, kwB 7, kwB 8, kwB 9, kwB 10, kwB 11, kwB 12, kwB 13]
/-- the slice of the words -/
def WordsAt (w : World) (b : Nat) : Prop := ∀ (j : Nat) (x : ByteArray), kwL[j]? = some x → w.cell? ⟨b, 0 + j, none⟩ = some (.string x)
theorem WordsAt.ext {w w' : World} {b : Nat} (h : WordsAt w b) (hx : Ext w w') : WordsAt w' b := fun j x hj => hx.keep (h j x hj)
theorem WordsAt.at {w : World} {b : Nat} (h : WordsAt w b) {k : Int} (h0 : 0 ≤ k) (h1 : k < 14) : w.cell? ⟨b, k.toNat, none⟩ = some (.string (kwB k)) := by
  have := h k.toNat (kwB k) (by
    rcases int_cases h0 h1 with rfl | rfl | rfl | rfl | rfl | rfl | rfl | rfl | rfl | rfl | rfl | rfl | rfl | rfl <;> rfl)
  rwa [Nat.zero_add] at this
theorem words_any (w : World) : Calls Tryz.prog 63 #[] w fun e w' => ∃ b, e = .returned (.slice (some ⟨b, 0, none⟩) 14 14) ∧ WordsAt w' b ∧ b < w'.heap.size ∧ Ext w w' := by
  go_enter Tryz.func63, Tryz.ntmps63
  go_wp2_with fail
  refine bodyPost_ret (v := .slice (some ⟨w.heap.size, 0, none⟩) 14 14) (by simp [results, Tryz.results63, go_sem]) rfl ⟨_, rfl, ?_, by simp, (Ext.refl _).alloc _⟩
  intro j x hj
  rw [Nat.zero_add, World.cell?_alloc_new]
  have hj2 : j < 14 := (List.getElem?_eq_some_iff.1 hj).1
  have : j = 0 ∨ j = 1 ∨ j = 2 ∨ j = 3 ∨ j = 4 ∨ j = 5 ∨ j = 6 ∨ j = 7 ∨ j = 8 ∨ j = 9 ∨ j = 10 ∨ j = 11 ∨ j = 12 ∨ j = 13 := by omega
  rcases this with rfl | rfl | rfl | rfl | rfl | rfl | rfl | rfl | rfl | rfl | rfl | rfl | rfl | rfl <;> (obtain rfl := Option.some.inj hj; rfl)
end Go.Proofs.YtdjdhkbomhendaaGreatDoor
