/-
  Walks over the schedule package and its reference: the source of numbers.
-/
import Derived.Test.YtcdinoepjimkmaaDoorW2
import Derived.Laws.Closers25b
namespace Go.Proofs.YtcdinoepjimkmaaDoor
open Go.RowKit
set_option maxHeartbeats 1000000
set_option maxRecDepth 100000

/-- the next state; the number of a state -/
def nxs (s : Int) : Int := IntKind.u64.wrap (s + 11400714819323198485)
def mz1 (x : Int) : Int := IntKind.u64.wrap (bits BinOp.xor IntKind.u64 x (x / 1073741824) * 13787848793156543929)
def mz2 (x : Int) : Int := IntKind.u64.wrap (bits BinOp.xor IntKind.u64 x (x / 134217728) * 10723151780598845931)
def mz3 (x : Int) : Int := bits BinOp.xor IntKind.u64 x (x / 2147483648)
def mz (s : Int) : Int := mz3 (mz2 (mz1 s))
theorem mz_lo (s : Int) : 0 ≤ mz s := bits_lo_u64 BinOp.xor (mz2 (mz1 s)) _
theorem mz_hi (s : Int) : mz s ≤ 18446744073709551615 := bits_hi_u64 BinOp.xor (mz2 (mz1 s)) _
/-- the next number below n -/
def rn (s n : Int) : Int := mz (nxs s) % n
theorem rn_lo (s n : Int) (h : 1 ≤ n) : 0 ≤ rn s n := Int.emod_nonneg _ (by omega)
theorem rn_hi (s n : Int) (h : 1 ≤ n) : rn s n < n := Int.emod_lt_of_pos _ (by omega)
theorem wrap_mod (x n : Int) (h0 : 0 ≤ x) (h1 : 1 ≤ n) (h2 : n ≤ 1000000) : wrap64 (x.tmod n) = x % n := by
  rw [Int.tmod_eq_emod_of_nonneg h0]
  have a := Int.emod_nonneg x (show n ≠ 0 by omega)
  have b := Int.emod_lt_of_pos x (show 0 < n by omega)
  exact IntWalk.wrap64_in _ ⟨by omega, by omega⟩

theorem rnext_any (s : Int) (w : World) : Calls Tryd.prog 28 #[.int .u64 s] w fun e w' => e = .returned (.tuple #[.int .u64 (nxs s), .int .u64 (mz (nxs s))]) ∧ w = w' := by
  go_enter Tryd.func28, Tryd.ntmps28
  go_wp2
  go_ret2
  exact ⟨rfl, rfl⟩

theorem next_any (s n : Int) (g : Nat) (w : World) (hb : Blk w g 51 [.int .u64 s]) (hn : 1 ≤ n) (hn2 : n ≤ 1000000) : Calls Tryd.prog 27 #[.pointer (some ⟨g, 0, none⟩), .int .i64 n] w fun e w' => e = .returned (.int .i64 (rn s n)) ∧ Blk w' g 51 [.int .u64 (nxs s)] ∧ Onl g w w' := by
  have hc := hb.cell_some (i := 0) (v := .int .u64 s) rfl
  have hf := hb.frozen 0
  have h2 := hid (hb.set 0 (.int .u64 (nxs s)))
  go_enter Tryd.func27, Tryd.ntmps27
  go_wp2
  go_ret
  exact ⟨ret_int (wrap_mod (mz (nxs s)) n (mz_lo _) hn hn2), h2.out, (Onl.refl g w).setCell 0 _⟩

/-- an action of a random schedule -/
def rstep (S ck cr st : Int) (o : Bool) : Act × Int × Bool :=
  if rn st 1000 < ck then (⟨2, 0, 0, 0⟩, nxs st, o)
  else if rn st 1000 < ck + cr then
    if 0 < rn (nxs st) 6 then (⟨3, 0, rn (nxs st) 6, rn (nxs (nxs st)) 65⟩, nxs (nxs (nxs st)), true)
    else (⟨3, 0, rn (nxs st) 6, 0⟩, nxs (nxs st), true)
  else if 800 ≤ rn st 1000 ∧ o = true then (⟨4, 0, 0, 0⟩, nxs st, false)
  else (⟨1, rn (nxs st) S, 0, 0⟩, nxs (nxs st), o)
/-- the source behind some actions, and the actions -/
def rndS (S ck cr seed : Int) : Nat → Int × Bool
  | 0 => (seed, false)
  | n + 1 => (rstep S ck cr (rndS S ck cr seed n).1 (rndS S ck cr seed n).2).2
def rndL (S ck cr seed : Int) : Nat → List Act
  | 0 => []
  | n + 1 => rndL S ck cr seed n ++ [(rstep S ck cr (rndS S ck cr seed n).1 (rndS S ck cr seed n).2).1]
theorem rndL_len (S ck cr seed : Int) (n : Nat) : (rndL S ck cr seed n).length = n := by
  induction n with
  | zero => rfl
  | succ n ih => simp [rndL, ih]
theorem rstep_right (S ck cr st : Int) (o : Bool) (h : 1 ≤ S) : rightB (rstep S ck cr st o).1 S = true := by
  have a := rn_lo (nxs st) 6 (by omega)
  have b := rn_hi (nxs st) 6 (by omega)
  have c := rn_lo (nxs (nxs st)) 65 (by omega)
  have d := rn_hi (nxs (nxs st)) 65 (by omega)
  have e := rn_lo (nxs st) S h
  have f := rn_hi (nxs st) S h
  unfold rstep
  split
  · simp [rightB]
  · split
    · split
      · simp [rightB]; omega
      · simp [rightB]; omega
    · split
      · simp [rightB]
      · simp [rightB]; omega
theorem rnd_valid (S ck cr seed : Int) (n : Nat) (h : 1 ≤ S) : validB (rndL S ck cr seed n) S = true := by
  induction n with
  | zero => rfl
  | succ n ih =>
    unfold validB at ih ⊢
    rw [rndL, List.all_append, ih]
    simp [rstep_right _ _ _ _ _ h]

theorem own_ne {w : World} {B e sz n g t : Nat} {v : Value} {xs cs : List Value} (h : w.ownsRow B e sz v n xs) (hb : Blk w g t cs) (ht : t ≠ e) : v.ownBlock ≠ some g := fun he => by
  obtain ⟨cur, hh⟩ := own_type h he
  unfold Blk at hb
  rw [hh] at hb
  simp at hb
  exact ht hb.2.symm

end Go.Proofs.YtcdinoepjimkmaaDoor
