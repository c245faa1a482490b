/-
  Well-formed statements; no program in sight.
-/
import Derived.Test.YtcdnodjcnofogaaGreatDoorStmt
namespace Go.Proofs.YtcdnodjcnofogaaGreatDoor
open Go.RowKit
set_option linter.unusedVariables false

/-- a number between two bounds -/
def inB (lo hi x : Int) : Bool := decide (lo ≤ x) && decide (x ≤ hi)
def Cd.ok (x : Cd) : Bool := if (x.ty == 1) = true then nameB x.nm && inB (-2147483648) 2147483648 x.lo && inB (-2147483648) 2147483648 x.hi && x.mx == 0 else x.ty == 2 && nameB x.nm && x.lo == 0 && x.hi == 0 && inB 0 2147483648 x.mx
def Rf.ok (x : Rf) : Bool := namesB x.cs && nameB x.tb && namesB x.tg
def Itm.ok (x : Itm) : Bool := if (x.ag == 1) = true then x.ex.absent else decide (0 ≤ x.ag) && decide (x.ag ≤ 5) && x.ex.formed
def Src.ok (x : Src) : Bool := nameB x.tb && (x.al.toList.isEmpty || nameB x.al)
def Ord'.ok (x : Ord') : Bool := inB 1 2147483648 x.it
def colX (e : Ex) : Bool := e.d.op == 2 && e.formed
def rowOk (l : List Ex) : Bool := decide (0 < l.length) && l.all Ex.formed
def Asg.ok (x : Asg) : Bool := nameB x.cl && x.ex.formed
def St.noDef (s : St) : Bool := decide (s.cols.length + s.keys.length + s.frs.length + s.chk.length = 0)
def St.defOk (s : St) : Bool := !s.noDef && s.cols.all Cd.ok && s.keys.all namesB && s.frs.all Rf.ok && s.chk.all Ex.formed
def St.qOk (s : St) : Bool := s.itms.all Itm.ok && decide (0 < s.frm.length) && s.frm.all Src.ok && s.grp.all colX && s.ord.all Ord'.ok && inB 0 2147483648 s.lim
/-- well-formed -/
def St.formed (s : St) : Bool :=
  let tabled := decide (s.kd ≤ 4)
  let named := s.kd == 9 || s.kd == 10 || s.kd == 11
  let cond := s.kd == 3 || s.kd == 4 || s.kd == 5
  decide (1 ≤ s.kd) && decide (s.kd ≤ 11) && (tabled == !s.tb.toList.isEmpty) && (!tabled || nameB s.tb) && (named == !s.nm.toList.isEmpty) && (!named || nameB s.nm) &&
    (s.whr.absent || cond && s.whr.formed) && ((s.kd == 1) == !s.noDef) && ((s.kd == 2) == decide (0 < s.vals.length)) && ((s.kd == 3) == decide (0 < s.sets.length)) && ((s.kd == 5) == decide (0 < s.frm.length)) &&
    (s.kd == 5 || decide (s.itms.length + s.grp.length + s.ord.length = 0) && s.lim == 0) &&
    (if s.kd = 1 then s.defOk else if s.kd = 2 then s.vals.all rowOk else if s.kd = 3 then s.sets.all Asg.ok else if s.kd = 5 then s.qOk else true)
theorem any_not {α : Type} (l : List α) (q : α → Bool) : (l.any fun x => !q x) = !l.all q := by
  induction l with
  | nil => rfl
  | cons a l ih => simp [ih]
theorem namesB_eq (l : List ByteArray) : namesB l = (decide (0 < l.length) && !(l.any fun s => !nameB s)) := by
  rw [any_not, Bool.not_not]
  unfold namesB
  cases l <;> simp
end Go.Proofs.YtcdnodjcnofogaaGreatDoor
