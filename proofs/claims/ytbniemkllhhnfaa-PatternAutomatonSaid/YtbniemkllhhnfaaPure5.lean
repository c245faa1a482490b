/-
  Plain functions for the search of the pattern package.
-/
import Derived.Test.YtbniemkllhhnfaaPure4
namespace Go.Proofs.Ytbniemkllhhnfaa
open Go.RowKit

/-- a test -/
structure Tst where
  v : Int
  kd : Int
  ng : Bool
  p : ByteArray
/-- a test that the functions are called with -/
def Tst.ok (t : Tst) : Prop := 0 ≤ t.kd ∧ t.kd ≤ 3 ∧ t.p.size ≤ 16 ∧ prn (N t.p) = true
def Tst.val (t : Tst) : Value := .agg #[.int .i64 t.v, .int .i64 t.kd, .bool t.ng, .string t.p]

def key3 (s : Nat) : List Nat := [s % 256, s / 256 % 256, s / 65536 % 256]
def keyL (l : List Nat) (left : Nat) : List Nat := (left % 256) :: l.flatMap key3

/-- the states of all tests after one more character -/
def nxs : List Tst → List Nat → Nat → List Nat
  | t :: ts, s :: l, c => nx t.kd (N t.p) s c :: nxs ts l c
  | _, _, _ => []
def begs (ts : List Tst) : List Nat := ts.map fun t => beg t.kd (N t.p)
/-- all tests pass at the states -/
def allOk : List Tst → List Nat → Bool
  | t :: ts, s :: l => (okOf t.kd t.p.size s != t.ng) && allOk ts l
  | _, _ => true
structure Fst where
  out : List (List Nat)
  dead : List (List Nat)
/-- the loop over the characters -/
def fndLoop (most : Int) (rec : Nat → Fst → Bool × Fst) : List Nat → Bool → Fst → Bool × Fst
  | [], found, st => (found, st)
  | c :: cs, found, st => if (st.out.length : Int) < most then (let r := rec c st; fndLoop most rec cs (found || r.1) r.2) else (found, st)
def cfrom (c : Nat) : List Nat := List.range' c (127 - c)
def chars : List Nat := cfrom 32
def fnd (ts : List Tst) (most : Int) : Nat → List Nat → List Nat → Fst → Bool × Fst
  | 0, l, text, st => if allOk ts l then (true, { st with out := st.out ++ [text] }) else (false, st)
  | n + 1, l, text, st =>
    if st.dead.contains (keyL l (n + 1)) then (false, st) else
      let r := fndLoop most (fun c s => fnd ts most n (nxs ts l c) (text ++ [c]) s) chars false st
      if r.1 then (true, r.2) else (false, { r.2 with dead := keyL l (n + 1) :: r.2.dead })

theorem keyL_lt (l : List Nat) (left : Nat) : ∀ x ∈ keyL l left, x < 256 := by
  intro x hx
  simp only [keyL, key3, List.mem_cons, List.mem_flatMap] at hx
  rcases hx with rfl | ⟨s, _, h⟩
  · omega
  · simp at h; omega
theorem flat3_len (l : List Nat) : (l.flatMap key3).length = 3 * l.length := by
  induction l with
  | nil => rfl
  | cons a l ih => simp only [List.flatMap_cons, List.length_append, ih, List.length_cons, key3, List.length_nil]; omega
theorem keyL_len (l : List Nat) (left : Nat) : (keyL l left).length = 1 + 3 * l.length := by
  simp only [keyL, List.length_cons, flat3_len]; omega
theorem keyL_take (l : List Nat) (left k : Nat) (h : k < l.length) : keyL (l.take (k + 1)) left = keyL (l.take k) left ++ key3 (at0 l k) := by
  rw [keyL, keyL, List.take_succ_eq_append_getElem h, List.flatMap_append]
  simp [at0, List.getElem?_eq_getElem h]

theorem key3_cells (s : Nat) (h : s < 131072) : [Value.int .u8 ((s : Int) % 256), Value.int .u8 ((s : Int) / 256 % 256), Value.int .u8 ((s : Int) / 65536)] = u8s (key3 s) := by
  have e1 : ((s % 256 : Nat) : Int) = (s : Int) % 256 := by omega
  have e2 : ((s / 256 % 256 : Nat) : Int) = (s : Int) / 256 % 256 := by omega
  have e3 : ((s / 65536 % 256 : Nat) : Int) = (s : Int) / 65536 := by omega
  simp only [u8s, key3, List.map_cons, List.map_nil, e1, e2, e3]
theorem u8s_app (a b : List Nat) : u8s (a ++ b) = u8s a ++ u8s b := by simp [u8s]

theorem cfrom_cons (c : Nat) (h : c < 127) : cfrom c = c :: cfrom (c + 1) := by
  unfold cfrom
  rw [show 127 - c = (127 - (c + 1)) + 1 by omega, List.range'_succ]
theorem cfrom_nil (c : Nat) (h : 127 ≤ c) : cfrom c = [] := by
  unfold cfrom
  rw [show 127 - c = 0 by omega]; rfl
/-- the states of the tests can occur -/
def okL (ts : List Tst) (l : List Nat) : Prop := l.length = ts.length ∧ ∀ (i : Nat) (t : Tst), ts[i]? = some t → okSt t.kd t.p.size (at0 l i)
theorem nxs_len (ts : List Tst) (l : List Nat) (c : Nat) (h : l.length = ts.length) : (nxs ts l c).length = ts.length := by
  induction ts generalizing l with
  | nil => cases l <;> simp [nxs]
  | cons t ts ih =>
    cases l with
    | nil => simp at h
    | cons s l => simp [nxs]; exact ih l (by simpa using h)
theorem nxs_at (ts : List Tst) (l : List Nat) (c i : Nat) (t : Tst) (h : l.length = ts.length) (ht : ts[i]? = some t) : at0 (nxs ts l c) i = nx t.kd (N t.p) (at0 l i) c := by
  induction ts generalizing l i with
  | nil => simp at ht
  | cons t0 ts ih =>
    cases l with
    | nil => simp at h
    | cons s l =>
      cases i with
      | zero => simp at ht; subst ht; simp [nxs, at0]
      | succ i => 
        have := ih l i (by simpa using h) (by simpa using ht)
        simpa [nxs, at0] using this
theorem nxs_ok (ts : List Tst) (l : List Nat) (c : Nat) (hts : ∀ t ∈ ts, t.p.size ≤ 16) (h : okL ts l) : okL ts (nxs ts l c) := by
  refine ⟨nxs_len ts l c h.1, fun i t ht => ?_⟩
  rw [nxs_at ts l c i t h.1 ht]
  have := nx_ok t.kd (N t.p) (at0 l i) c (by rw [N_len]; exact hts t (List.mem_of_getElem? ht)) (by rw [N_len]; exact h.2 i t ht)
  rwa [N_len] at this
/-- the new states, k of them in place -/
def nxk (ts : List Tst) (l : List Nat) (c k : Nat) : List Nat := (nxs ts l c).take k ++ List.replicate (ts.length - k) 0
theorem nxk_zero (ts : List Tst) (l : List Nat) (c : Nat) : nxk ts l c 0 = List.replicate ts.length 0 := by simp [nxk]
theorem nxk_all (ts : List Tst) (l : List Nat) (c : Nat) (h : l.length = ts.length) : nxk ts l c ts.length = nxs ts l c := by
  simp [nxk, List.take_of_length_le (Nat.le_of_eq (nxs_len ts l c h))]
theorem nxk_len (ts : List Tst) (l : List Nat) (c k : Nat) (h : l.length = ts.length) (hk : k ≤ ts.length) : (nxk ts l c k).length = ts.length := by
  simp [nxk, nxs_len ts l c h]; omega
theorem nxk_step (ts : List Tst) (l : List Nat) (c k : Nat) (t : Tst) (h : l.length = ts.length) (ht : ts[k]? = some t) : (nxk ts l c k).set k (nx t.kd (N t.p) (at0 l k) c) = nxk ts l c (k + 1) := by
  have hk : k < ts.length := (List.getElem?_eq_some_iff.1 ht).1
  have hl := nxs_len ts l c h
  have hv := nxs_at ts l c k t h ht
  unfold nxk
  rw [List.set_append, if_neg (by simp; omega), List.take_succ_eq_append_getElem (by omega), List.append_assoc]
  congr 1
  rw [show ts.length - k = (ts.length - (k + 1)) + 1 by omega, List.replicate_succ]
  simp only [List.length_take, hl, show min k ts.length = k by omega, Nat.sub_self, List.set_cons_zero, List.singleton_append]
  congr 1
  rw [← hv]
  simp [at0, List.getElem?_eq_getElem (show k < (nxs ts l c).length by omega)]
theorem okL_lt (ts : List Tst) (l : List Nat) (hts : ∀ t ∈ ts, t.p.size ≤ 16) (h : okL ts l) : ∀ s ∈ l, s < 131072 := by
  intro s hs
  obtain ⟨i, hi, rfl⟩ := List.getElem_of_mem hs
  have hi2 : i < ts.length := by have := h.1; omega
  have h1 := h.2 i ts[i] (List.getElem?_eq_getElem hi2)
  have := okSt_lt _ _ _ (hts _ (List.getElem_mem hi2)) h1
  simpa [at0, List.getElem?_eq_getElem hi] using this
theorem begs_ok (ts : List Tst) (hts : ∀ t ∈ ts, t.p.size ≤ 16) : okL ts (begs ts) := by
  refine ⟨by simp [begs], fun i t ht => ?_⟩
  have hi : i < ts.length := (List.getElem?_eq_some_iff.1 ht).1
  have := beg_ok t.kd (N t.p) (by rw [N_len]; exact hts t (List.mem_of_getElem? ht))
  rw [N_len] at this
  simpa [at0, begs, ht] using this
/-- the search only adds -/
theorem fndLoop_mono (most : Int) (rec : Nat → Fst → Bool × Fst) (hr : ∀ c s, s.out.length ≤ (rec c s).2.out.length ∧ s.dead.length ≤ (rec c s).2.dead.length) (cs : List Nat) :
    ∀ (f : Bool) (s : Fst), s.out.length ≤ (fndLoop most rec cs f s).2.out.length ∧ s.dead.length ≤ (fndLoop most rec cs f s).2.dead.length := by
  induction cs with
  | nil => intro f s; simp [fndLoop]
  | cons c cs ih =>
    intro f s
    unfold fndLoop
    split
    · have h1 := hr c s
      have h2 := ih (f || (rec c s).1) (rec c s).2
      exact ⟨Nat.le_trans h1.1 h2.1, Nat.le_trans h1.2 h2.2⟩
    · simp
theorem fnd_mono (ts : List Tst) (most : Int) (left : Nat) : ∀ (l text : List Nat) (s : Fst), s.out.length ≤ (fnd ts most left l text s).2.out.length ∧ s.dead.length ≤ (fnd ts most left l text s).2.dead.length := by
  induction left with
  | zero => intro l text s; unfold fnd; split <;> simp
  | succ n ih =>
    intro l text s
    unfold fnd
    split
    · simp
    · have := fndLoop_mono most (fun c s => fnd ts most n (nxs ts l c) (text ++ [c]) s) (fun c s => ih _ _ _) chars false s
      dsimp only
      split
      · exact this
      · exact ⟨this.1, by simp; omega⟩

/-- Words -/
def wordsF (ts : List Tst) (length most : Int) : List (List Nat) := if length < 0 ∨ most ≤ 0 then [] else (fnd ts most length.toNat (begs ts) [] ⟨[], []⟩).2.out
/-- Shortest: so many lengths are still to be tried -/
def shoLoop (ts : List Tst) : Nat → Int → Fst → Option (List Nat) × Fst
  | 0, _, st => (none, st)
  | k + 1, n, st => if n < 0 then shoLoop ts k (n + 1) st else
      match (fnd ts 1 n.toNat (begs ts) [] st).2.out with
      | x :: _ => (some x, (fnd ts 1 n.toNat (begs ts) [] st).2)
      | [] => shoLoop ts k (n + 1) (fnd ts 1 n.toNat (begs ts) [] st).2
def shoF (ts : List Tst) (min max : Int) : Option (List Nat) × Fst := shoLoop ts (max + 1 - min).toNat min ⟨[], []⟩
theorem shoLoop_mono (ts : List Tst) (k : Nat) : ∀ (n : Int) (s : Fst), s.out.length ≤ (shoLoop ts k n s).2.out.length ∧ s.dead.length ≤ (shoLoop ts k n s).2.dead.length := by
  induction k with
  | zero => intro n s; simp [shoLoop]
  | succ k ih =>
    intro n s
    unfold shoLoop
    have h1 := fnd_mono ts 1 n.toNat (begs ts) [] s
    split
    · exact ih _ _
    · split
      · exact h1
      · have h2 := ih (n + 1) (fnd ts 1 n.toNat (begs ts) [] s).2
        exact ⟨Nat.le_trans h1.1 h2.1, Nat.le_trans h1.2 h2.2⟩

end Go.Proofs.Ytbniemkllhhnfaa
