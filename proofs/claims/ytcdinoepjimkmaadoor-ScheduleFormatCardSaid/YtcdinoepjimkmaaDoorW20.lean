/-
  Walks over the schedule package: parseLine, any line.
-/
import Derived.Test.YtcdinoepjimkmaaDoorW16
import Derived.Test.YtcdinoepjimkmaaDoorW17
import Derived.Test.YtcdinoepjimkmaaDoorW19
namespace Go.Proofs.YtcdinoepjimkmaaDoor
open Go.RowKit
set_option linter.unusedVariables false

theorem parseline_any (s : ByteArray) (w : World) (hs : s.size ≤ 20000) (hsh : HasCap w) (htab : Tab w) (her : Er w) : Calls Tryd.prog 33 #[.string s] w fun e w' => ∃ v, e = .returned v ∧ LineOf s v ∧ Ext w w' := by
  obtain ⟨ws, hws, hwz, hw0, hw1, hsp⟩ := split_any s hs
  have hsp' : ∀ W, Ext w W → Calls Tryd.prog 39 #[.string s, .string ⟨#[32]⟩] W fun e w' => e = .returned (.slice (some ⟨W.heap.size, 0, none⟩) ws.length ws.length) ∧ Ext W w' ∧ Blk w' W.heap.size 9 (ws.map Value.string) :=
    fun W h => hsp W (Sh.ext hsh h)
  cases ws with
  | nil => simp at hw0
  | cons t0 tr =>
    cases tr with
    | nil => exact parseline_zero s t0 w hs htab hws.symm hsp'
    | cons t1 tr =>
      exact parseline_more s t0 (t1 :: tr) (tr.length + 1) w hs htab her rfl (Nat.succ_pos _) hw1 hws.symm hwz hsp'
end Go.Proofs.YtcdinoepjimkmaaDoor
