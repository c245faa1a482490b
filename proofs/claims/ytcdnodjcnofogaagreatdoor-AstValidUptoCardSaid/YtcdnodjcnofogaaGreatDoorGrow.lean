/-
  Walks: Grow of a nil slice of expressions.
-/
import Derived.Test.YtcdnodjcnofogaaGreatDoorW20
import Derived.Test.YtcdnodjcnofogaaGreatDoorApp
namespace Go.Proofs.YtcdnodjcnofogaaGreatDoor
open Go.RowKit
set_option linter.unusedVariables false
set_option linter.unusedSimpArgs false
set_option maxHeartbeats 1000000
set_option maxRecDepth 100000

theorem info_ex : (Tryz.prog.info? 35).map (fun i => (i.zero, i.size, i.bytes)) = some (some (.agg #[.int .i64 0, .string ⟨#[]⟩, .string ⟨#[]⟩, .int .i64 0, .int .i64 0, .int .i64 0, .string ⟨#[]⟩, .slice none 0 0]), 8, 104) := by kernel_rfl
theorem zero_size (z : Array Value) (n : Nat) : (Builtin.zeroCells z n).size = n * z.size := by unfold Builtin.zeroCells; simp
/-- a row that holds nothing yet -/
theorem own_room (w : World) (e sz cap n m : Nat) (B : Nat) (cs : Array Value) (hB : B ≤ w.heap.size) (hc : cs.size = cap * sz) (hm : cap ≤ maxLen) : (w.alloc (.cells cs e)).ownsRow B e sz (.slice (some ⟨w.heap.size, 0, none⟩) 0 cap) 0 [] :=
  ⟨by simp, .inr ⟨w.heap.size, cap, cs, rfl, hB, by show (w.heap.push _)[w.heap.size]? = _; simp, Nat.zero_le _, hm, hc, by simp⟩⟩
theorem grow_nil (w : World) (T : Nat) (hT : T ≤ 1000000000) : Calls Tryz.prog 114 #[.slice none 0 0, .int .i64 (T : Int)] w fun r w' =>
    ∃ v, r = .returned v ∧ w'.ownsRow w.heap.size 35 8 v 0 [] ∧ Ext w w' := by
  obtain ⟨i0, hi, hz0, hz1, hz2⟩ := info_parts info_ex
  have d0 : decide ((T : Int) < 0) = false := by simp
  by_cases h0 : 0 < T
  · have d1 : decide ((0 : Int) < (T : Int)) = true := by simp; omega
    go_enter Tryz.func114, Tryz.ntmps114
    go_wp2_with (at_builtin; refine wpList_append_make _ rfl (.tmp 20) (.tmp 21) _ _ rfl 35 i0 _ Tryz.underlying25 Tryz.underlying3 hi hz0 T rfl rfl h0 (by omega) (by rw [hz2]; omega) ?_)
    go_ret
    refine ⟨_, rfl, ?_, ((Ext.refl w).drew).alloc _⟩
    have hge := grownCap_ge w T 0 35
    refine own_room w.drew 35 8 (grownCap w T 0 35) T T w.heap.size _ (Nat.le_refl _) ?_ (grownCap_le_maxLen w T 0 35 (by unfold maxLen; omega))
    rw [Array.size_append, zero_size, zero_size, ← Nat.add_mul]
    show (T + (grownCap w T 0 35 - T)) * 8 = _
    congr 1
    omega
  · obtain rfl : T = 0 := by omega
    go_enter Tryz.func114, Tryz.ntmps114
    go_wp2_with fail
    go_ret
    exact ⟨_, rfl, ⟨rfl, .inl ⟨rfl, rfl⟩⟩, Ext.refl w⟩
/-- the cells of expressions, one behind the other -/
inductive LC (w : World) : List Ex → List Value → Prop
  | nil : LC w [] []
  | cons {e : Ex} {es : List Ex} {cs rest : List Value} : ExC w e cs → LC w es rest → LC w (e :: es) (cs ++ rest)
theorem exc_len {w : World} {e : Ex} {cs : List Value} (h : ExC w e cs) : cs.length = 8 ∧ ∀ u ∈ cs, u.oneCell' = true := by
  cases e with
  | mk d ks =>
    rw [ExC] at h
    obtain ⟨_, _, A, c, rfl, _⟩ := h
    refine ⟨rfl, fun u hu => ?_⟩
    simp [Nd.cells] at hu
    rcases hu with rfl | rfl | rfl | rfl | rfl | rfl | rfl | rfl <;> rfl
theorem LC.len {w : World} {l : List Ex} {xs : List Value} (h : LC w l xs) : xs.length = l.length * 8 ∧ ∀ u ∈ xs, u.oneCell' = true := by
  induction h with
  | nil => exact ⟨rfl, by simp⟩
  | cons hc _ ih =>
    obtain ⟨h1, h2⟩ := exc_len hc
    refine ⟨by rw [List.length_append, h1, ih.1, List.length_cons]; omega, fun u hu => ?_⟩
    rcases List.mem_append.1 hu with hu | hu
    · exact h2 u hu
    · exact ih.2 u hu
theorem LC.app {w : World} {l m : List Ex} {xs ys : List Value} (h : LC w l xs) (k : LC w m ys) : LC w (l ++ m) (xs ++ ys) := by
  induction h with
  | nil => exact k
  | cons hc _ ih => rw [List.cons_append, List.append_assoc]; exact .cons hc ih
theorem LC.one {w : World} {e : Ex} {cs : List Value} (h : ExC w e cs) : LC w [e] cs := by
  have := LC.cons h LC.nil
  rwa [List.append_nil] at this
theorem LC.ext {w w' : World} {l : List Ex} {xs : List Value} (h : LC w l xs) (hx : Ext w w') : LC w' l xs := by
  induction h with
  | nil => exact .nil
  | cons hc _ ih => exact .cons (exc_ext hx _ _ hc) ih
theorem LC.get {w : World} {l : List Ex} {xs : List Value} (h : LC w l xs) : ∀ (i : Nat) (e : Ex), l[i]? = some e → ∃ cs, ExC w e cs ∧ ∀ (j : Nat) (v : Value), cs[j]? = some v → xs[i * 8 + j]? = some v := by
  induction h with
  | nil => intro i e h; simp at h
  | @cons e es cs rest hc hr ih =>
    intro i x hx
    obtain ⟨hl, _⟩ := exc_len hc
    cases i with
    | zero =>
      simp at hx
      subst hx
      refine ⟨cs, hc, fun j v hv => ?_⟩
      have hj := (List.getElem?_eq_some_iff.1 hv).1
      rw [Nat.zero_mul, Nat.zero_add, List.getElem?_append_left hj]
      exact hv
    | succ i =>
      obtain ⟨cs', h1, h2⟩ := ih i x (by simpa using hx)
      refine ⟨cs', h1, fun j v hv => ?_⟩
      rw [List.getElem?_append_right (by omega), hl, show (i + 1) * 8 + j - 8 = i * 8 + j by omega]
      exact h2 j v hv
/-- a slice read: its cells -/
theorem kids_reads {w : World} {A : Option Addr} {l : List Ex} {n : Nat} (h : KidsAt w A l) (hl : l.length = n) : ∃ xs, LC w l xs ∧ Reads w w.heap.size 8 A n xs := by
  have key : ∀ (l : List Ex) (i : Nat), ExsAt w l A i → ∃ xs, LC w l xs ∧ (l ≠ [] → ∃ b off, A = some ⟨b, off, none⟩ ∧ b < w.heap.size ∧ ∀ j u, xs[j]? = some u → w.cell? ⟨b, off + (i * 8 + j), none⟩ = some u) := by
    intro l
    induction l with
    | nil => intro i _; exact ⟨[], .nil, fun h => absurd rfl h⟩
    | cons e es ih =>
      intro i h
      rw [ExsAt] at h
      obtain ⟨⟨cs, ⟨b, off, hA, hc⟩, he⟩, hr⟩ := h
      obtain ⟨xs, h1, h2⟩ := ih (i + 1) hr
      obtain ⟨hl8, _⟩ := exc_len he
      have h0 : 0 < cs.length := by omega
      have hb : b < w.heap.size := cell_lt (hc 0 cs[0] (List.getElem?_eq_getElem h0))
      refine ⟨cs ++ xs, .cons he h1, fun _ => ⟨b, off, hA, hb, fun j u hj => ?_⟩⟩
      by_cases hj8 : j < 8
      · rw [List.getElem?_append_left (by omega)] at hj
        have := hc j u hj
        rwa [Nat.add_assoc] at this
      · rw [List.getElem?_append_right (by omega), hl8] at hj
        have hne : es ≠ [] := by
          rintro rfl
          have := h1.len.1
          have hx0 : xs = [] := List.eq_nil_of_length_eq_zero (by simpa using this)
          rw [hx0] at hj
          simp at hj
        obtain ⟨b2, off2, hA2, _, h3⟩ := h2 hne
        rw [hA] at hA2
        simp only [Option.some.injEq, Addr.mk.injEq, and_true] at hA2
        obtain ⟨rfl, rfl⟩ := hA2
        have := h3 (j - 8) u hj
        rwa [show (i + 1) * 8 + (j - 8) = i * 8 + j by omega] at this
  obtain ⟨xs, h1, h2⟩ := key l 0 h
  refine ⟨xs, h1, by rw [h1.len.1, hl], fun hn => ?_⟩
  obtain ⟨b, off, hA, hb, h3⟩ := h2 (by rintro rfl; simp at hl; omega)
  refine ⟨⟨b, off, none⟩, hA, hb, fun j u hj => ?_⟩
  have := h3 j u hj
  rw [Nat.zero_mul, Nat.zero_add] at this
  have hadd : (⟨b, off, none⟩ : Addr).add j = ⟨b, off + j, none⟩ := by unfold Addr.add; split <;> simp_all
  rw [hadd]
  exact this
/-- an owned row read as a slice -/
theorem own_kids {w : World} {B e n : Nat} {v : Value} {l : List Ex} {xs : List Value} (h : w.ownsRow B e 8 v n xs) (hl : LC w l xs) : ∃ A c, v = .slice A n c ∧ KidsAt w A l ∧ l.length = n := by
  have hn : l.length = n := by have := h.1; have := hl.len.1; omega
  have hc := fun g (hg : v.ownBlock = some g) => h.cells hg
  have hk : ∀ A, (∀ i e, l[i]? = some e → ∃ cs, CellsAt w A (i * 8) cs ∧ ExC w e cs) → KidsAt w A l := by
    intro A hA
    unfold KidsAt
    rw [exsAt_iff]
    intro j e he
    obtain ⟨cs, h1, h2⟩ := hA j e he
    exact ⟨cs, by rwa [Nat.zero_add], h2⟩
  rcases h.2 with ⟨rfl, h0⟩ | ⟨g, cap, cur, rfl, _⟩
  · refine ⟨none, 0, by rw [h0], hk _ ?_, hn⟩
    intro i e he
    have : l = [] := List.eq_nil_of_length_eq_zero (by omega)
    subst this
    simp at he
  · refine ⟨_, _, rfl, hk _ ?_, hn⟩
    intro i e he
    obtain ⟨cs, h1, h2⟩ := hl.get i e he
    refine ⟨cs, ⟨g, 0, rfl, fun j u hj => ?_⟩, h1⟩
    have := hc g rfl (i * 8 + j) u (h2 j u hj)
    have hadd : ∀ j, (⟨g, 0, none⟩ : Addr).add j = ⟨g, 0 + j, none⟩ := fun j => by unfold Addr.add; split <;> simp_all
    rwa [hadd, ← Nat.add_assoc] at this
end Go.Proofs.YtcdnodjcnofogaaGreatDoor
