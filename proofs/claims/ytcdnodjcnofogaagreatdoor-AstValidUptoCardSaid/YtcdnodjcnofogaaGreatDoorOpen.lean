/-
  Opening an expression.
-/
import Derived.Deep.Slices
import Derived.Deep.Fields
import Derived.ChangeSame
import Derived.ProofKit
import Derived.OpenShut
import Derived.ShutString
import Derived.Lib.SmallJoins
import Derived.Test.YtcdnodjcnofogaaGreatDoorW1
namespace Go.Proofs.YtcdnodjcnofogaaGreatDoor
open Go.ChangeShapes Go.WideShapes Go.Deep Go.RowKit
set_option maxHeartbeats 1000000
set_option maxRecDepth 10000

theorem cellsE : Tryz.prog.cellsOf 35 = 8 := by kernel_rfl
theorem cellsV : Tryz.prog.cellsOf 33 = 3 := by kernel_rfl
theorem cellsI : Tryz.prog.cellsOf 3 = 1 := by kernel_rfl
theorem cellsI6 : Tryz.prog.cellsOf 2 = 1 := by kernel_rfl
theorem cellsS : Tryz.prog.cellsOf 9 = 1 := by kernel_rfl
theorem cellsL : Tryz.prog.cellsOf 25 = 1 := by kernel_rfl
theorem cell_spot {w : World} {a : Addr} {v : Value} (k0 : w.cell? a = some v) : a.spot = none := by
  unfold World.cell? at k0
  split at k0
  · split at k0
    · cases k0
    · rename_i h; simpa using h
  · cases k0
theorem list8 {α : Type} {l : List α} (h : l.length = 8) : ∃ c0 c1 c2 c3 c4 c5 c6 c7, l = [c0, c1, c2, c3, c4, c5, c6, c7] := by
  match l, h with
  | [c0, c1, c2, c3, c4, c5, c6, c7], _ => exact ⟨c0, c1, c2, c3, c4, c5, c6, c7, rfl⟩
theorem some_at {α : Type} {l : List α} {i n : Nat} (h : l.length = n) (hi : i < n) : ∃ x, l[i]? = some x := ⟨l[i]'(by omega), List.getElem?_eq_getElem (by omega)⟩
section
variable {H : Type} {enc : TypeId × Value → H} {w : World} {spare : Nat → Bool} {held : Bool} {base : Nat}
theorem open_nd {fuel : Nat} {cs : List Value} {x : DataW H × List MemPlace} (h : DataW.trod enc Tryz.prog w base spare held fuel 35 cs = some x) :
    ∃ (d : Nd) (c7 : Value) (n : Nat) (y : DataW H × List MemPlace), fuel = n + 1 ∧ d.fit ∧ cs = [.int .i64 d.op, .string d.tb, .string d.nm, .int .i64 d.ix, .int .i64 d.vk, .int .i64 d.vi, .string d.vt, c7] ∧ DataW.trod enc Tryz.prog w base spare held n 25 [c7] = some y := by
  obtain ⟨xs, n, rfl, _, hl, hxl, hf⟩ := DataW.trod_struct Tryz.underlying35 h
  obtain ⟨c0, c1, c2, c3, c4, c5, c6, c7, rfl⟩ := list8 (hl.trans cellsE)
  have hxl : xs.length = 6 := hxl
  obtain ⟨x0, hx0⟩ := some_at hxl (i := 0) (by omega)
  obtain ⟨x1, hx1⟩ := some_at hxl (i := 1) (by omega)
  obtain ⟨x2, hx2⟩ := some_at hxl (i := 2) (by omega)
  obtain ⟨x3, hx3⟩ := some_at hxl (i := 3) (by omega)
  obtain ⟨x4, hx4⟩ := some_at hxl (i := 4) (by omega)
  obtain ⟨x5, hx5⟩ := some_at hxl (i := 5) (by omega)
  have h0 : DataW.trod enc Tryz.prog w base spare held n 3 (List.take (Tryz.prog.cellsOf 3) (List.drop 0 [c0, c1, c2, c3, c4, c5, c6, c7])) = some x0 := (hf 0 _ rfl).trans hx0
  have h1 : DataW.trod enc Tryz.prog w base spare held n 9 (List.take (Tryz.prog.cellsOf 9) (List.drop 1 [c0, c1, c2, c3, c4, c5, c6, c7])) = some x1 := (hf 1 _ rfl).trans hx1
  have h2 : DataW.trod enc Tryz.prog w base spare held n 9 (List.take (Tryz.prog.cellsOf 9) (List.drop 2 [c0, c1, c2, c3, c4, c5, c6, c7])) = some x2 := (hf 2 _ rfl).trans hx2
  have h3 : DataW.trod enc Tryz.prog w base spare held n 3 (List.take (Tryz.prog.cellsOf 3) (List.drop 3 [c0, c1, c2, c3, c4, c5, c6, c7])) = some x3 := (hf 3 _ rfl).trans hx3
  have h4 : DataW.trod enc Tryz.prog w base spare held n 33 (List.take (Tryz.prog.cellsOf 33) (List.drop 4 [c0, c1, c2, c3, c4, c5, c6, c7])) = some x4 := (hf 4 _ rfl).trans hx4
  have h5 : DataW.trod enc Tryz.prog w base spare held n 25 (List.take (Tryz.prog.cellsOf 25) (List.drop 7 [c0, c1, c2, c3, c4, c5, c6, c7])) = some x5 := (hf 5 _ rfl).trans hx5
  simp only [cellsI, cellsS, cellsV, cellsL, List.drop_zero, List.drop_succ_cons, List.take_succ_cons, List.take_zero] at h0 h1 h2 h3 h4 h5
  obtain ⟨a0, e0, _, w0⟩ := DataW.trod_int Tryz.underlying3 h0
  obtain ⟨a1, e1, _, w1⟩ := DataW.trod_string Tryz.underlying9 h1
  obtain ⟨a2, e2, _, w2⟩ := DataW.trod_string Tryz.underlying9 h2
  obtain ⟨a3, e3, _, w3⟩ := DataW.trod_int Tryz.underlying3 h3
  obtain ⟨ys, m, rfl, _, _, hyl, hg⟩ := DataW.trod_struct Tryz.underlying33 h4
  have hyl : ys.length = 3 := hyl
  obtain ⟨y0, hy0⟩ := some_at hyl (i := 0) (by omega)
  obtain ⟨y1, hy1⟩ := some_at hyl (i := 1) (by omega)
  obtain ⟨y2, hy2⟩ := some_at hyl (i := 2) (by omega)
  have g0 : DataW.trod enc Tryz.prog w base spare held m 3 (List.take (Tryz.prog.cellsOf 3) (List.drop 0 [c4, c5, c6])) = some y0 := (hg 0 _ rfl).trans hy0
  have g1 : DataW.trod enc Tryz.prog w base spare held m 2 (List.take (Tryz.prog.cellsOf 2) (List.drop 1 [c4, c5, c6])) = some y1 := (hg 1 _ rfl).trans hy1
  have g2 : DataW.trod enc Tryz.prog w base spare held m 9 (List.take (Tryz.prog.cellsOf 9) (List.drop 2 [c4, c5, c6])) = some y2 := (hg 2 _ rfl).trans hy2
  simp only [cellsI, cellsI6, cellsS, List.drop_zero, List.drop_succ_cons, List.take_succ_cons, List.take_zero] at g0 g1 g2
  obtain ⟨b0, i0, _, v0⟩ := DataW.trod_int Tryz.underlying3 g0
  obtain ⟨b1, i1, _, v1⟩ := DataW.trod_int Tryz.underlying2 g1
  obtain ⟨b2, i2, _, v2⟩ := DataW.trod_string Tryz.underlying9 g2
  simp only [List.cons.injEq, and_true] at e0 e1 e2 e3 i0 i1 i2
  subst e0 e1 e2 e3 i0 i1 i2
  refine ⟨⟨a0, a1, a2, a3, b0, b1, b2⟩, c7, m + 1, x5, rfl, ⟨bounds_i64 w0, bounds_i64 w3, bounds_i64 v0, bounds_i64 v1, ?_, ?_, ?_⟩, rfl, h5⟩
  · exact Nat.le_trans w1 (by unfold maxLen; omega)
  · exact Nat.le_trans w2 (by unfold maxLen; omega)
  · exact Nat.le_trans v2 (by unfold maxLen; omega)
theorem open_ex : ∀ (fuel : Nat) (cs : List Value) (x : DataW H × List MemPlace), DataW.trod enc Tryz.prog w base spare held fuel 35 cs = some x → ∃ e : Ex, ExC w e cs := by
  intro fuel
  induction fuel using Nat.strongRecOn with
  | ind fuel ih =>
    intro cs x h
    obtain ⟨d, c7, n, y, rfl, hd, rfl, h5⟩ := open_nd h
    rcases DataW.trod_slice Tryz.underlying25 h5 with ⟨h7, _⟩ | ⟨a, len, cap, elems, rest, m, rfl, h7, _, _, hl, hm, hlen, hel, _, _⟩
    · simp only [List.cons.injEq, and_true] at h7
      subst h7
      exact ⟨.mk d [], by rw [ExC]; exact ⟨hd, Nat.zero_le _, none, 0, rfl, trivial⟩⟩
    · simp only [List.cons.injEq, and_true] at h7
      subst h7
      have hk : ∀ i, ∃ e : Ex, i < len → ∃ cs', (∀ j, j < 8 → w.cell? ((a.add (i * 8)).add j) = cs'[j]?) ∧ cs'.length = 8 ∧ ExC w e cs' := by
        intro i
        by_cases hi : i < len
        · have he := hel i hi
          obtain ⟨z, hz⟩ := some_at hlen hi
          rw [hz, cellsE, Option.bind_eq_some_iff] at he
          obtain ⟨cs', hc, ht⟩ := he
          obtain ⟨_, hcl, hat⟩ := World.cells?_some hc
          obtain ⟨e, hE⟩ := ih m (by omega) cs' z ht
          exact ⟨e, fun _ => ⟨cs', hat, hcl, hE⟩⟩
        · exact ⟨exZ, fun h => absurd h hi⟩
      obtain ⟨f, hfs⟩ := Classical.axiomOfChoice hk
      refine ⟨.mk d ((List.range len).map f), ?_⟩
      rw [ExC]
      refine ⟨hd, by simp; unfold maxLen at hm; omega, some a, cap, by simp [Nd.cells], ?_⟩
      rw [exsAt_iff]
      intro j e he
      rw [List.getElem?_map] at he
      have hlt : j < len := by
        by_cases h : j < len
        · exact h
        · rw [List.getElem?_eq_none (by simp; omega)] at he; cases he
      rw [List.getElem?_range hlt] at he
      simp only [Option.map_some, Option.some.injEq] at he
      subst he
      obtain ⟨cs', hat, hcl, hE⟩ := hfs j hlt
      have hsp : a.spot = none := by
        obtain ⟨cs0, hat0, hcl0, _⟩ := hfs 0 (by omega)
        have k0 := hat0 0 (by omega)
        have e0 : (a.add (0 * 8)).add 0 = a := by simp [Addr.add]
        rw [e0, List.getElem?_eq_getElem (by omega)] at k0
        exact cell_spot k0
      obtain ⟨b, off, sp⟩ := a
      dsimp only at hsp
      subst hsp
      have hadd : ∀ (o j : Nat), (⟨b, o, none⟩ : Addr).add j = ⟨b, o + j, none⟩ := fun o j => by unfold Addr.add; split <;> simp_all
      refine ⟨cs', ⟨b, off, rfl, fun i v hv => ?_⟩, hE⟩
      have hi : i < 8 := by have := (List.getElem?_eq_some_iff.1 hv).1; omega
      have := hat i hi
      rw [hadd, hadd, hv] at this
      rw [show off + (0 + j) * 8 + i = off + j * 8 + i by omega]
      exact this
end
/-- an argument, opened -/
theorem open_arg {H : Type} {enc : TypeId × Value → H} {w : World} {base b0 : Nat} {r : Reach} {spare : Nat → Bool} {held : Bool} {v : Value} {d : DataW H} {p : List MemPlace} (hv : Value.okWide Tryz.prog w r b0 35 v)
    (h : DataW.Trod enc Tryz.prog w base spare held 35 v d p) : ∃ (e : Ex) (A : Option Addr) (n c : Nat), v = e.d.val A n c ∧ ExV w e A n c := by
  obtain ⟨cs, rfl, hsz⟩ := okWide_struct Tryz.underlying35 hv
  obtain ⟨fuel, hf⟩ := h
  obtain ⟨e, hE⟩ := open_ex fuel _ _ hf
  cases e with
  | mk d ks =>
    rw [ExC] at hE
    obtain ⟨h1, h2, A, c, h3, h4⟩ := hE
    refine ⟨.mk d ks, A, ks.length, c, ?_, ⟨rfl, h2, h1, h4⟩⟩
    obtain ⟨l⟩ := cs
    have h3 : l = d.cells A ks.length c := h3
    subst h3
    rfl
end Go.Proofs.YtcdnodjcnofogaaGreatDoor
