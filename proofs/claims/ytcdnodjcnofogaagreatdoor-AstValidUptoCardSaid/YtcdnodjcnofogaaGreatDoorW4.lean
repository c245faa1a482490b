/-
  Walks: the search in a slice of expressions.
-/
import Derived.Test.YtcdnodjcnofogaaGreatDoorW3
namespace Go.Proofs.YtcdnodjcnofogaaGreatDoor
open Go.RowKit
set_option linter.unusedVariables false
set_option maxHeartbeats 1000000
set_option maxRecDepth 100000

/-- an index, or -1 -/
def IdxOf (b : Bool) (r : Ending) : Prop := ∃ x : Int, I64 x ∧ r = .returned (.int .i64 x) ∧ decide (0 ≤ x) = b
theorem any_take {α : Type} {l : List α} {k : Nat} {e : α} {p : α → Bool} (h : l[k]? = some e) (hp : p e = true) : l.any p = true := List.any_eq_true.2 ⟨e, List.mem_of_getElem? h, hp⟩
theorem any_step {α : Type} {l : List α} {k : Nat} {e : α} {p : α → Bool} (h : l[k]? = some e) (h0 : (l.take k).any p = false) (hp : p e = false) : (l.take (k + 1)).any p = false := by
  obtain ⟨hi, rfl⟩ := List.getElem?_eq_some_iff.1 h
  rw [List.take_succ_eq_append_getElem hi, List.any_append, h0]
  simp [hp]
theorem any_end {α : Type} {l : List α} {n : Nat} {p : α → Bool} (hl : l.length = n) (h0 : (l.take n).any p = false) : l.any p = false := by
  rwa [List.take_of_length_le (by omega)] at h0

/-- the function can be entered -/
def Ent (F : FuncId) : Prop := ∀ (args : Array Value) (W : World), (callFunc F args).run Tryz.prog W = .ok (.enter F args) W
theorem index_ex (F : FuncId) (hE : Ent F) (p : Ex → Bool) (l : List Ex) (A : Option Addr) (n c : Nat) (w : World) (hl : l.length = n) (hn : n ≤ 9223372036854775807) (hk : KidsAt w A l)
    (hF : ∀ x ∈ l, ∀ (A' : Option Addr) (n' c' : Nat) (W : World), Ext w W → ExV W x A' n' c' → Calls Tryz.prog F #[x.d.val A' n' c'] W fun r W' => r = .returned (.bool (p x)) ∧ Ext W W') :
    Calls Tryz.prog 113 #[.slice A n c, .func (Fn.func F) #[] #[]] w fun r w' => IdxOf (l.any p) r ∧ Ext w w' := by
  unfold Ent at hE
  have HL := hid hl
  have HK := hid hk
  have HF := hid hF
  clear hl hk hF
  go_enter Tryz.func113, Tryz.ntmps113
  go_wp2_with fail
  go_loopw [5, 8] (fun _ iv wr => ∃ (k : Nat), k ≤ n ∧ iv = .int .i64 k ∧ (l.take k).any p = false ∧ Ext w wr) (fun _ i _ => n - (intOf i).toNat)
  case atStart => exact ⟨0, Nat.zero_le _, rfl, rfl, Ext.refl w⟩
  case round =>
    obtain ⟨k, hkn, rfl, hr, hxr⟩ := hrel
    have HXr := hid hxr
    have HRr := hid hr
    by_cases hlt : k < n
    · obtain ⟨e', he⟩ := at_lt HL.out hlt
      obtain ⟨b, off, A', n', c', rfl, q0, q1, q2, q3, q4, q5, q6, q7, hv'⟩ := (HK.out.ext hxr).get he
      have HC := hid (HF.out e' (mem_at he) A' n' c' _ hxr hv')
      have HE := hid he
      clear he hv' hxr hr
      cases hp : p e'
      · rw [hp] at HC
        have HP : Hid ((l.take (k + 1)).any p = false) := any_step HE.out HRr.out hp
        clear hp
        go_wp2_with fail
        refine HC.out.mono ?_
        rintro _ w2 ⟨rfl, hx2⟩
        go_wp2_with fail
        go_roundw
        case rel => exact ⟨k + 1, by omega, by go_num, HP.out, HXr.out.trans hx2⟩
        case measure => simp [intOf]; omega
      · rw [hp] at HC
        have HP : Hid (l.any p = true) := any_take HE.out hp
        clear hp
        go_wp2_with fail
        refine HC.out.mono ?_
        rintro _ w2 ⟨rfl, hx2⟩
        go_wp2_with fail
        go_ret
        exact ⟨⟨k, ⟨by omega, by omega⟩, rfl, by rw [HP.out]; simp⟩, HXr.out.trans hx2⟩
    · obtain rfl : k = n := by omega
      have HP : Hid (l.any p = false) := any_end HL.out HRr.out
      clear hr
      go_wp2_with fail
      go_ret
      exact ⟨⟨-1, ⟨by omega, by omega⟩, rfl, by rw [HP.out]; rfl⟩, HXr.out⟩
theorem ent101 : Ent 101 := fun _ _ => by kernel_rfl
end Go.Proofs.YtcdnodjcnofogaaGreatDoor
