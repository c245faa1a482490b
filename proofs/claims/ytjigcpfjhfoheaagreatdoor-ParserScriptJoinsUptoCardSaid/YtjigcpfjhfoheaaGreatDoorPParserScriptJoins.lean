/- For every input of bulk at most 1048576 the law ParserScriptJoins returns true, and each argument reads afterwards as it read before. No condition but that the listed variables hold what the text lays (tied). -/
import Derived.Test.YtjigcpfjhfoheaaGreatDoorRjl
import Derived.Test.YtjigcpfjhfoheaaGreatDoorRcj
import Derived.Test.YtjigcpfjhfoheaaGreatDoorRai
import Derived.ProofKit
import Derived.OpenShut
import Derived.ShutString
import Derived.ChangeOld
import Derived.Below
import Derived.Lib.SmallJoins
import Derived.LaidMore
import Derived.Lay
import Derived.Stop.Joined
import Derived.SevenTiedAt
import Derived.Test.YtjigcpfjhfoheaaGreatDoorCards
import Derived.Test.YtjigcpfjhfoheaaGreatDoorTie
namespace Go.Proofs.YtjigcpfjhfoheaaGreatDoor.parserScriptJoinsUptoDone
open Go.ChangeShapes Go.WideShapes Go.ChangeAt Go.RowKit
set_option linter.unusedVariables false
set_option linter.unusedSimpArgs false
theorem own:ownKnob Tryz.prog.godebug=none:=by kernel_rfl
theorem laidOut:laidOutB Tryz.prog=true:=by kernel_rfl
set_option maxRecDepth 100000 in
theorem contract (H:Type) (enc:TypeId×Value→H) (W:World) (base:Nat) (args:Array Value) (ds gs:List (DataW H)) (before:List MemPlace)
  (hval0:∀(j:Nat) t v,Tryz.f10.params[j]? =some t→args[j]? =some v→Value.okWide Tryz.prog W .any base t v)
  (hW:DataW.Whole enc Tryz.prog Tryz.f10.params.toList Rows.parserScriptJoinsSpec.vars false W args.toList ds gs before) (hcond0:Rows.uptoSmall H (ds++gs)=true)
  (hL:laidMetH Tryz.prog Rows.parserScriptJoinsUptoRow.laid W) (hsh:W.ShapedOpen Tryz.prog):
  Calls Tryz.prog 10 args W fun e W'=> ∃v,e= .returned v∧Rows.parserScriptJoinsSpec.post enc Tryz.prog Tryz.f10 false true false false W args v W':=by
 have hval:∀(j:Nat) t v,Tryz.f10.params[j]? =some t→args[j]? =some v→Value.okWide Tryz.prog W .any base t v:=hval0
 have hW':=hW
 obtain⟨p,q,hA0,hV,rfl,hfz,hnd⟩:=hW
 have hA:DataW.TrodAll enc Tryz.prog W 0 (fun _=>true) true Tryz.f10.params.toList args.toList ds p:=hA0
 rw[Tryz.params10]at hA hval
 obtain⟨v0,vs0,d0,ds0,p0,q0,hargs,rfl,rfl,h0,r0⟩:=trodAll_cons hA
 obtain⟨rfl,rfl,rfl⟩:=trodAll_nil r0
 obtain rfl:args= #[v0]:=by cases args;simp_all
 obtain⟨rfl,rfl⟩:=trodVars_none hV
 have hcond:Rows.uptoBulk d0≤1048576:=by
  have:=of_decide_eq_true hcond0
  simp only[List.append_nil,List.cons_append,List.nil_append,Rows.uptoBulkAll]at this
  omega
 have k0:=h0
 have lt0:∀x∈p0,x.block<W.heap.size:=by obtain⟨m,hm⟩:=k0;exact DataW.trod_lt m _ _ _ hm
 obtain⟨l0,A0,c0,rfl,n0,x0⟩:=open_stmts (hval 0 49 v0 rfl rfl) h0 (by have:=hcond;omega)
 clear hA0 hval0
 refine(law_joins l0 A0 c0 W n0 x0 (gd_of hL (MakeChecks.laidMetH_plain _ _ _ (by kernel_rfl)) hsh)).mono fun e W' ⟨he,bel0⟩=>?_
 have bel:Below W.heap.size W W':=bel0
 subst he
 exact⟨_,rfl,_,_,_,[],_,[],hW',trodAll_mk1 (shut_bool Tryz.underlying4 _),(trodAll_cons_mk (Below.trod laidOut (by kernel_rfl) (of_decide_eq_true (by kernel_rfl)) k0 bel lt0) trodAll_mk0),rfl,bel.frame _,fun h=>by cases h⟩
set_option maxRecDepth 100000 in
theorem lifted (os:Os) (started:os.Started) (H:Type) (enc:TypeId×Value→H) (F:Stop.Interp):
  ReturnsInHanded {} Tryz.checked os 10 .any ((Rows.OpenSpec.upto Rows.parserScriptJoinsSpec).preRow enc Tryz.prog Tryz.f10 Rows.parserScriptJoinsUptoRow.domain false Rows.parserScriptJoinsUptoRow.laid) (((Rows.OpenSpec.upto Rows.parserScriptJoinsSpec).at F).post enc Tryz.prog Tryz.f10 false true false false):=by
 refine returnsInHanded_of_row (C:=Tryz.checked) (s:=Rows.OpenSpec.upto Rows.parserScriptJoinsSpec) own started (by kernel_rfl) Tryz.func10
  (witness_upto (enc:=enc) (C:=Tryz.checked) (World.laidAll Tryz.prog os Rows.parserScriptJoinsUptoRow.laid) #[.slice none 0 0] (World.laidAll_os _ _ _)
   (World.shaped_of_ZipB (by kernel_rfl) (by kernel_rfl)) (by kernel_rfl)
   (preRow_of_test 8 Rows.uptoSmall rfl (by kernel_rfl) (by kernel_rfl)
    (by rw[MakeChecks.laidMetH_plain _ _ _ (by kernel_rfl)];exact laidMet_laidAll _ (by kernel_rfl) (by kernel_rfl)))) ?_
 intro W base args ds gs before hval hW _ hcond _ hL hsh _
 exact contract H enc W base args ds gs before hval hW (hcond _ rfl) hL hsh
theorem k_inPlace:(Rows.parserScriptJoinsUptoRow.inPlace==Tryz.pinned.checked.prog.inPlace 10)=true:=by kernel_rfl
theorem k_unfollowed:(Rows.parserScriptJoinsUptoRow.unfollowed==Tryz.pinned.checked.prog.unfollowed 10)=true:=by kernel_rfl
theorem k_recurses:(Rows.parserScriptJoinsUptoRow.recurses==Tryz.pinned.checked.prog.recurses 10)=true:=by kernel_rfl
theorem k_varsNamed:(Rows.parserScriptJoinsUptoRow.named==Tryz.pinned.checked.prog.varsNamed 10)=true:=by kernel_rfl
theorem closed:joinedFacts Tryz.pinned.checked.prog 10 Tryz.f10 Rows.parserScriptJoinsSpec Rows.parserScriptJoinsUptoRow=true:=by
 unfold joinedFacts
 rw[k_inPlace,k_unfollowed,k_recurses,k_varsNamed]
 kernel_rfl
theorem over:Rows.parserScriptJoinsUptoRow.holds Tryz.pinned (Rows.OpenSpec.upto Rows.parserScriptJoinsSpec):=
 OpenClaim.holds_of_cond 10 Tryz.f10 rfl rfl rfl rfl rfl rfl rfl ⟨rfl,rfl,rfl,rfl,rfl⟩ rfl rfl rfl rfl rfl (by kernel_rfl) Tryz.func10 closed
  (of_decide_eq_true (by kernel_rfl)) (by unfold Func.isWrapper;rw[if_neg (of_decide_eq_false (by kernel_rfl))];exact⟨rfl,rfl⟩)
  (fun os started H enc _ F=>by rw[OpenClaim.pre_eq_preRow];exact lifted os started H enc F)
theorem proved:Rows.ParserScriptJoinsUptoCardSaid:=
 Claim7.holds_tied_plain_at .later [] _ _ _ _ over (fun _ h=>by cases h) (by as_aux_lemma=>kernel_rfl) (fun _ h=>by cases h) parserScriptJoinsUpto_row_tie rfl ⟨rfl,rfl⟩ (by as_aux_lemma=>kernel_rfl) rfl
  (fun f fn hf hfn=>by
   obtain rfl:f=10:=Option.some.inj ((show Tryz.prog.funcNamed "disjoint/disjointlaw11.ParserScriptJoins" =some 10 by kernel_rfl).symm.trans hf)|>.symm
   obtain rfl:fn=Tryz.f10:=(Option.some.inj (Tryz.func10.symm.trans hfn)).symm
   exact⟨by kernel_rfl,fun j t ht=>by
    rw[Tryz.params10]at ht
    have hm:t∈[49]:=by simpa using Array.mem_of_getElem? ht
    have hall:([49].all fun u=>!Tryz.prog.wantsStandIn u)=true:=by kernel_rfl
    exact(show Tryz.prog.wantsStandIn t=false by simpa using List.all_eq_true.1 hall t hm)⟩)
  (by as_aux_lemma=>kernel_rfl)
#print axioms proved
end Go.Proofs.YtjigcpfjhfoheaaGreatDoor.parserScriptJoinsUptoDone
