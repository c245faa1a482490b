/- The wrap of an Upto row of the parser: a witness, and the row's condition by a test. -/
import Derived.Deep.DeepHandedRow
import Derived.LaidLaws
import Derived.JoinedCond
import Derived.Handed
import Derived.SizedLaws
import Derived.LaidMore
import Derived.MakeChecks
import Derived.Test.YtjigcpfjhfoheaaGreatDoorVbg
import Derived.Test.YtjigcpfjhfoheaaGreatDoorVci
namespace Go.Proofs.YtjigcpfjhfoheaaGreatDoor
open Go.RowKit List Go.Proofs.Tryz
set_option maxHeartbeats 400000
set_option maxRecDepth 100000
set_option linter.unusedVariables false
set_option linter.unusedSimpArgs false
section
open Go Go.RowKit
section
variable {H:Type} {enc:TypeId×Value→H}
theorem witness_upto {C:Checked} {n:Os} {f:FuncId} {m:Func} {s:OpenSpec} {b:List PathCond} {apart:Bool} {e:List (String×DataW Unit)} (j:World) (args:Array Value) (k:j.os=n)
  (l:(j.forCall (fun _ _=>0) ⟨#[],args,[]⟩).Shaped C.prog)
  (g:Input.okWideB C.prog (j.forCall (fun _ _=>0) ⟨#[],args,[]⟩) f ⟨#[],args,[]⟩=true)
  (h:s.preRow enc C.prog m b apart e (j.forCall (fun _ _=>0) ⟨#[],args,[]⟩).memory args):
  ∃(w:World) (a:Tape) (i:Input),w.os=n∧(w.forCall a i).Shaped C.prog∧i.vars= []∧Input.okWide C.prog (w.forCall a i) .any w.heap.size f i∧
   s.preRow enc C.prog m b apart e (w.forCall a i).memory i.args∧({} :Assume).holds C.prog (lone (Frame.enter C.prog f i.args .normal) [] (w.forCall a i)):=
 ⟨j,fun _ _=>0,⟨#[],args,[]⟩,k,l,(Input.okWide_of_okWideB (base:=0) g).1,(Input.okWide_of_okWideB g).2,h,by
  simp only[Assume.holds]
  exact⟨by simp,by simp,fun _=>Modest.zero,by simp,by simp⟩⟩
theorem preRow_of_test {P:Program} {f:Func} {s:OpenSpec} {a:List PathCond} {apart:Bool} {e:List (String×DataW Unit)} {w:World} {args:Array Value} (b:Nat) (k:(H:Type)→List (DataW H)→Bool) (m:s.cond=some k)
  (i:(DataW.whole enc P w f.params.toList s.vars apart args.toList b).any (fun x=>a.all (PathCond.test P ⟨f.params.toList,x.1,s.bare.plain.varTypes P,x.2.1⟩) &&k H (x.1++x.2.1))=true)
  (j:s.bare.sizedB enc P f apart w args b=true) (n:laidMetH P e w):s.preRow enc P f a apart e w args:=by
 cases l:DataW.whole enc P w f.params.toList s.vars apart args.toList b with
 |none=>rw[l]at i;cases i
 |some x=>
  rw[l]at i
  have h:a.all (PathCond.test P ⟨f.params.toList,x.1,s.bare.plain.varTypes P,x.2.1⟩)=true∧k H (x.1++x.2.1)=true:=by simpa using i
  exact OpenSpec.preRow_of_cond b l h.1 (fun o g=>by rw[m]at g;cases g;exact h.2) j n
end
end
end Go.Proofs.YtjigcpfjhfoheaaGreatDoor
