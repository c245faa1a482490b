/-
  Plain laws for the pattern package: Words, Shortest, and what they find.
-/
import Derived.Test.YtbniemkllhhnfaaPure8
import Derived.Test.YtbniemkllhhnfaaPure6
namespace Go.Proofs.Ytbniemkllhhnfaa
open Go.RowKit

/-- tests that the law's searches are made with -/
def Few (ts : List Tst) : Prop := ts.length ≤ 4 ∧ ∀ t ∈ ts, t.p.size ≤ 6 ∧ 0 ≤ t.kd ∧ t.kd ≤ 3
def passAll (ts : List Tst) (t : List Nat) : Bool := ts.all fun τ => psB τ.kd τ.ng (N τ.p) t
theorem Few.le16 {ts : List Tst} (h : Few ts) : ∀ t ∈ ts, t.p.size ≤ 16 := fun t ht => Nat.le_trans (h.2 t ht).1 (by omega)

theorem fold_nxs (τ : Tst) (ts : List Tst) (t : List Nat) : ∀ (s : Nat) (l : List Nat), t.foldl (nxs (τ :: ts)) (s :: l) = run τ.kd (N τ.p) t s :: t.foldl (nxs ts) l := by
  induction t with
  | nil => intro s l; rfl
  | cons c t ih => intro s l; rw [List.foldl_cons, List.foldl_cons, nxs, ih]; rfl
theorem acc_pass (ts : List Tst) (t : List Nat) : accT ts (begs ts) t = passAll ts t := by
  unfold accT passAll
  induction ts with
  | nil => rw [List.all_nil]; cases t.foldl (nxs []) (begs []) <;> rfl
  | cons τ ts ih =>
    rw [begs, List.map_cons, fold_nxs, allOk, List.all_cons]
    rw [begs] at ih
    rw [ih, psB, N_len]
def sol (ts : List Tst) (n : Nat) : List (List Nat) := (wds n).filter (passAll ts)
theorem sols_begs (ts : List Tst) (n : Nat) : sols ts n (begs ts) = sol ts n := by
  unfold sols sol
  congr 1
  funext t
  exact acc_pass ts t
theorem wds_len (n : Nat) : ∀ x ∈ wds n, x.length = n ∧ ∀ y ∈ x, y < 256 := by
  induction n with
  | zero => intro x hx; simp [wds] at hx; subst hx; simp
  | succ n ih =>
    intro x hx
    rw [wds, List.mem_flatMap] at hx
    obtain ⟨c, hc, hx⟩ := hx
    rw [List.mem_map] at hx
    obtain ⟨y, hy, rfl⟩ := hx
    have hc2 : c < 256 := by
      unfold chars cfrom at hc
      rw [List.mem_range'] at hc
      obtain ⟨i, hi, rfl⟩ := hc
      omega
    have := ih y hy
    refine ⟨by simp [this.1], fun z hz => ?_⟩
    rw [List.mem_cons] at hz
    rcases hz with rfl | hz
    · exact hc2
    · exact this.2 z hz

def Sm (ts : List Tst) (l : List Nat) : Prop := l.length = ts.length ∧ smlL ts l
theorem Sm.beg (ts : List Tst) : Sm ts (begs ts) := ⟨by simp [begs], fun i t ht => by
  have := beg_sml t.kd (N t.p)
  rw [N_len] at this
  simpa [at0, begs, ht] using this⟩
theorem Sm.next (ts : List Tst) (l : List Nat) (c : Nat) (h : Sm ts l) : Sm ts (nxs ts l c) := ⟨nxs_len ts l c h.1, fun i t ht => by
  rw [nxs_at ts l c i t h.1 ht]
  have := nx_sml t.kd (N t.p) (at0 l i) c (by rw [N_len]; exact h.2 i t ht)
  rwa [N_len] at this⟩
theorem Sm.lt {ts : List Tst} {l : List Nat} (hf : Few ts) (h : Sm ts l) : ∀ s ∈ l, s < 128 := by
  intro s hs
  obtain ⟨i, hi, rfl⟩ := List.getElem_of_mem hs
  have hi2 : i < ts.length := by have := h.1; omega
  have h1 := h.2 i ts[i] (List.getElem?_eq_getElem hi2)
  have := sml_lt _ _ _ (hf.2 _ (List.getElem_mem hi2)).1 h1
  simpa [at0, List.getElem?_eq_getElem hi] using this
theorem New.small {ts : List Tst} {n : Nat} {d : List (List Nat)} (hf : Few ts) (hn : n < 256) (h : New ts (Sm ts) n [] d) : d.length ≤ 68719476736 :=
  dead_len ts hf.1 n hn d ⟨h.1, fun x hx => by
    rcases h.2 x hx with h | ⟨l, k, a, b, c, e, f⟩
    · exact .inl h
    · exact .inr ⟨l, k, a, b.lt hf, c, e, f⟩⟩

theorem words_law (ts : List Tst) (hf : Few ts) (length most : Int) (h0 : 0 ≤ length) (h1 : length ≤ 200) (hm : 0 < most) :
    (fnd ts most length.toNat (begs ts) [] ⟨[], []⟩).2.out = (sol ts length.toNat).take most.toNat ∧ (fnd ts most length.toNat (begs ts) [] ⟨[], []⟩).2.dead.length < 4611686018427387904 := by
  obtain ⟨a, b, c, d⟩ := fnd_law ts most (Sm ts) hf.le16 (fun l c => Sm.next ts l c) length.toNat (by omega) (begs ts) [] ⟨[], []⟩ (begs_ok ts hf.le16) (Sm.beg ts) (by simpa using hm) (fun _ _ _ _ h => by cases h) List.nodup_nil
  have := c.small hf (by omega)
  refine ⟨?_, by omega⟩
  rw [a, sols_begs]
  simp
theorem wordsF_law (ts : List Tst) (hf : Few ts) (length most : Int) (h0 : 0 ≤ length) (h1 : length ≤ 200) (hm : 0 < most) : wordsF ts length most = (sol ts length.toNat).take most.toNat := by
  unfold wordsF
  rw [if_neg (by omega), (words_law ts hf length most h0 h1 hm).1]
/-- what a search over several lengths finds -/
def ShoSaid (ts : List Tst) (n : Int) (k : Nat) : Option (List Nat) → Prop
  | none => ∀ i : Int, 0 ≤ i → n ≤ i → i < n + k → sol ts i.toNat = []
  | some x => ∃ i : Int, 0 ≤ i ∧ n ≤ i ∧ i < n + k ∧ (∃ r, sol ts i.toNat = x :: r) ∧ ∀ j : Int, 0 ≤ j → n ≤ j → j < i → sol ts j.toNat = []
theorem shoLoop_law (ts : List Tst) (hf : Few ts) (k : Nat) : ∀ (n : Int) (st : Fst), n + k ≤ 201 → st.out = [] → DOk ts st.dead → New ts (Sm ts) 255 [] st.dead →
    (shoLoop ts k n st).2.out.length ≤ 1 ∧ (shoLoop ts k n st).2.dead.length < 4611686018427387904 ∧ ShoSaid ts n k (shoLoop ts k n st).1 := by
  induction k with
  | zero =>
    intro n st hn ho hd hN
    have := hN.small hf (by omega)
    refine ⟨by simp [shoLoop, ho], by simp only [shoLoop]; omega, ?_⟩
    intro i h0 h1 h2; omega
  | succ k ih =>
    intro n st hn ho hd hN
    unfold shoLoop
    by_cases h0 : n < 0
    · rw [if_pos h0]
      obtain ⟨a, b, c⟩ := ih (n + 1) st (by omega) ho hd hN
      refine ⟨a, b, ?_⟩
      cases hr : (shoLoop ts k (n + 1) st).1 with
      | none =>
        rw [hr] at c
        intro i h1 h2 h3
        exact c i h1 (by omega) (by omega)
      | some x =>
        rw [hr] at c
        obtain ⟨i, c1, c2, c3, c4, c5⟩ := c
        exact ⟨i, c1, by omega, by omega, c4, fun j j0 j1 j2 => c5 j j0 (by omega) j2⟩
    · rw [if_neg h0]
      obtain ⟨a, b, c, d⟩ := fnd_law ts 1 (Sm ts) hf.le16 (fun l c => Sm.next ts l c) n.toNat (by omega) (begs ts) [] st (begs_ok ts hf.le16) (Sm.beg ts) (by simp [ho]) hd hN.1
      rw [sols_begs] at a d
      have hN2 : New ts (Sm ts) 255 [] (fnd ts 1 n.toNat (begs ts) [] st).2.dead := ⟨c.1, fun x hx => by
        rcases c.2 x hx with h | ⟨l, k, a, b, c, e, f⟩
        · exact hN.2 x h
        · exact .inr ⟨l, k, a, b, c, by omega, f⟩⟩
      have hs := hN2.small hf (by omega)
      have ha : (fnd ts 1 n.toNat (begs ts) [] st).2.out = (sol ts n.toNat).take 1 := by rw [a, ho]; simp
      cases hso : sol ts n.toNat with
      | cons x r =>
        rw [hso] at ha
        simp only [List.take_succ_cons, List.take_zero] at ha
        rw [ha]
        dsimp only
        refine ⟨by simp [ha], by omega, n, by omega, by omega, by omega, ⟨r, hso⟩, fun j j0 j1 j2 => by omega⟩
      | nil =>
        rw [hso] at ha
        simp only [List.take_nil] at ha
        rw [ha]
        dsimp only
        obtain ⟨a', b', c'⟩ := ih (n + 1) _ (by omega) ha b hN2
        refine ⟨a', b', ?_⟩
        cases hr : (shoLoop ts k (n + 1) (fnd ts 1 n.toNat (begs ts) [] st).2).1 with
        | none =>
          rw [hr] at c'
          intro i h1 h2 h3
          by_cases hi : i = n
          · rw [hi]; exact hso
          · exact c' i h1 (by omega) (by omega)
        | some x =>
          rw [hr] at c'
          obtain ⟨i, c1, c2, c3, c4, c5⟩ := c'
          refine ⟨i, c1, by omega, by omega, c4, fun j j0 j1 j2 => ?_⟩
          by_cases hi : j = n
          · rw [hi]; exact hso
          · exact c5 j j0 (by omega) j2
theorem sho_law (ts : List Tst) (hf : Few ts) (min max : Int) (hmax : max ≤ 200) : (shoF ts min max).2.out.length < 1000000 ∧ (shoF ts min max).2.dead.length < 4611686018427387904 ∧ ShoSaid ts min (max + 1 - min).toNat (shoF ts min max).1 := by
  by_cases hm : min ≤ max + 1
  · obtain ⟨a, b, c⟩ := shoLoop_law ts hf (max + 1 - min).toNat min ⟨[], []⟩ (by omega) rfl (fun _ _ _ _ h => by cases h) ⟨List.nodup_nil, fun x hx => .inl hx⟩
    exact ⟨by unfold shoF; omega, by unfold shoF; omega, c⟩
  · have e : (max + 1 - min).toNat = 0 := by omega
    unfold shoF
    rw [e]
    exact ⟨by simp [shoLoop], by simp [shoLoop], fun i h0 h1 h2 => by omega⟩
theorem sol_len {ts : List Tst} {n : Nat} {x : List Nat} (h : x ∈ sol ts n) : x.length = n ∧ passAll ts x = true ∧ ∀ y ∈ x, y < 256 := by
  unfold sol at h
  rw [List.mem_filter] at h
  have := wds_len n x h.1
  exact ⟨this.1, h.2, this.2⟩

end Go.Proofs.Ytbniemkllhhnfaa
