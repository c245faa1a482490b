/- Readers never go back; statements; the reference reads as the parser does. -/
import Derived.Test.YtjigcpfjhfoheaaGreatDoorVad
namespace Go.Proofs.YtjigcpfjhfoheaaGreatDoor
open Go.RowKit List Go.Proofs.Tryz
set_option maxHeartbeats 400000
set_option maxRecDepth 100000
set_option linter.unusedVariables false
set_option linter.unusedSimpArgs false
section
open Lx (Tk)
section
variable {a b:M Ex} (h:Sim a b) (ha:Stk a) (hb:Stk b) (hz:Nz b)
include h ha hb hz
end
theorem end_bad {s:Ps} (h:s.bad=true):endP s=s:=by rw[endP,mc h,if_neg (by simp),pk h]
end
end Go.Proofs.YtjigcpfjhfoheaaGreatDoor
