/- The wrap of a row that lists variables, the world's shape kept; what the library's variables hold. -/
import Derived.Handed
import Derived.SizedLaws
import Derived.Shelf.Vars
import Derived.Stop.LaidErr
import Derived.Lib.LaidTab
import Derived.LaidMore
import Derived.Stop.Joined
import Derived.MakeChecks
import Derived.Test.YtjigcpfjhfoheaaGreatDoorQcg
import Derived.Test.YtjigcpfjhfoheaaGreatDoorRows
namespace Go.Proofs.YtjigcpfjhfoheaaGreatDoor
open Go.RowKit
set_option maxHeartbeats 400000
set_option maxRecDepth 100000
set_option linter.unusedVariables false
set_option linter.unusedSimpArgs false
section
open Go Go.RowKit Go.Stop
section
variable {H:Type} {enc:TypeId×Value→H}
end
theorem sh_of {W:World} (h:W.ShapedOpen Tryz.prog):Sh W:=
 cell_of_shapedOpen_int (g:=1) (t:=3) (zero:=#[.int .i64 0]) h (by decide) (by kernel_rfl) rfl (by kernel_rfl) (by kernel_rfl) Tryz.underlying3
theorem tyTab:(Tryz.prog.globals[4]?).map (·.type)=some 256:=by kernel_rfl
theorem gSyn:Tryz.prog.globalNamed "strconv.ErrSyntax" =some 2:=by kernel_rfl
theorem gRng:Tryz.prog.globalNamed "strconv.ErrRange" =some 3:=by kernel_rfl
theorem tySyn:(Tryz.prog.globals[2]?).map (·.type)=some 198:=by kernel_rfl
theorem tyRng:(Tryz.prog.globals[3]?).map (·.type)=some 198:=by kernel_rfl
theorem starE: "*" ++ "errors.errorString" = "*errors.errorString" :=by decide
theorem rowE (u:TypeId) (h:Tryz.prog.typeName? 3 u=some "*errors.errorString"):u=260:=
 typeName_ptr_named (nm:= "errors.errorString") (by rw[starE];kernel_rfl) (by kernel_rfl) (by decide) u (by rw[starE];exact h)
theorem kH {x0 x1 x3:String×DataW Unit} {r:List (String×DataW Unit)} {W:World}
  (h:laidMet Tryz.prog (x0::x1::("internal/strconv.uint64pow10",Rows.laid_internal_strconv_uint64pow10)::x3::("strconv.ErrRange",Rows.laid_strconv_ErrRange)::("strconv.ErrSyntax",Rows.laid_strconv_ErrSyntax)::r) W):Tab W∧Er W:=by
 have h2:=h.tail.tail
 have h4:=h2.tail.tail
 have h5:=h4.tail
 have htab:Lib.TabIs Tryz.prog W "internal/strconv.uint64pow10" .u64 Lib.pow10Tab:=Lib.tabIs_of_head gTab tyTab Tryz.underlying256 Tryz.underlying232 (by kernel_rfl) (by kernel_rfl) h2
 obtain⟨a3,s3,hv3,_,_,_⟩:=laid_sentinel h4 gRng tyRng Tryz.underlying198 rowE Tryz.underlying260 Tryz.underlying262 rfl rfl Tryz.underlying9 (by kernel_rfl) (by kernel_rfl)
 obtain⟨a2,s2,hv2,_,_,_⟩:=laid_sentinel h5 gSyn tySyn Tryz.underlying198 rowE Tryz.underlying260 Tryz.underlying262 rfl rfl Tryz.underlying9 (by kernel_rfl) (by kernel_rfl)
 refine⟨⟨htab,?_⟩,⟨260,_,by simpa using World.var?_cell gSyn hv2 0⟩,⟨260,_,by simpa using World.var?_cell gRng hv3 0⟩⟩
 have:=fU (htab.cell gTab 0 (by decide))
 exact this
theorem gKw:Tryz.prog.globalNamed "disjoint/lexer.keywords" =some 0:=by kernel_rfl
theorem tyKw:(Tryz.prog.globals[0]?).map (·.type)=some 101:=by kernel_rfl
def kwData {H:Type} :List (DataW H):=Lx.kwNames.map fun l=> .lit (.string l)
theorem kwData_eq {H:Type} :(Rows.laid_disjoint_lexer_keywords:DataW H)= .slice kwData []:=rfl
theorem spot_none {w:World} {a:Addr} {v:Value} (h:w.cell? a=some v):a.spot=none:=by
 unfold World.cell? at h
 split at h
 ·split at h
  ·cases h
  ·rename_i hs
   cases hsp:a.spot
   ·rfl
   ·rw[hsp]at hs;simp at hs
 ·cases h
theorem kw_of {x0:String×DataW Unit} {r:List (String×DataW Unit)} {W:World} (h:laidMet Tryz.prog (x0::("disjoint/lexer.keywords",Rows.laid_disjoint_lexer_keywords)::r) W):Lx.KwAt W:=by
 obtain⟨ps,⟨g',t',cs,fuel,p,q,hg',ht',hvar,hd,_,_⟩,_⟩:=h.tail
 obtain rfl:=Option.some.inj (gKw.symm.trans hg')
 obtain rfl:=Option.some.inj (tyKw.symm.trans ht')
 rw[kwData_eq]at hd
 obtain⟨a,cap,hcs,_,hel⟩:=open_row Tryz.underlying101 (by kernel_rfl) hd
 have hl:((kwData:List (DataW Unit))).length=47:=rfl
 have hcell:∀j,j<47→W.cell? (a.add j)=some (.string (Lx.kwStr j)):=by
  intro j hj
  have hkd:(kwData:List (DataW Unit))[j]? =some (.lit (.string (Lx.kwAt j))):=by
   unfold kwData Lx.kwAt
   rw[List.getElem?_map,List.getD_eq_getElem?_getD,List.getElem?_eq_getElem (show j<Lx.kwNames.length from hj)]
   rfl
  obtain⟨v,n,q2,hc,ht⟩:=hel j _ hkd
  obtain⟨s,e1,e2,_⟩:=DataW.trod_string Tryz.underlying9 ht
  simp only[List.cons.injEq,and_true]at e1
  subst e1
  rw[hc]
  have e3:s.data.toList=Lx.kwAt j:=by
   have:=congrArg Prod.fst e2
   simp only[DataW.lit.injEq,Lit.string.injEq]at this
   exact this.symm
  congr 2
  unfold Lx.kwStr
  rw[←e3]
 obtain⟨b,off,sp⟩:=a
 have hsp:sp=none:=by
  have h0:=hcell 0 (by decide)
  have:=spot_none h0
  unfold Addr.add at this
  cases sp with
  |none=>rfl
  |some x=>simp at this
 subst hsp
 refine⟨b,off,cap,?_,fun j hj=>?_⟩
 ·have h1:=World.var?_cell gKw hvar 0
  rw[h1]
  have h2:cs= #[Value.slice (some ⟨b,off,none⟩) 47 cap]:=by
   apply Array.toList_inj.1
   rw[hcs,hl]
  rw[h2]
  rfl
 ·have:=hcell j hj
  have hadd:(⟨b,off,none⟩:Addr).add j=⟨b,off+j,none⟩:=by unfold Addr.add;split<;>simp_all
  rwa [hadd]at this
theorem gd_of {x0 x1 x3:String×DataW Unit} {r:List (String×DataW Unit)} {W:World} (h:laidMetH Tryz.prog (x0::x1::("internal/strconv.uint64pow10",Rows.laid_internal_strconv_uint64pow10)::x3::("strconv.ErrRange",Rows.laid_strconv_ErrRange)::("strconv.ErrSyntax",Rows.laid_strconv_ErrSyntax)::("disjoint/lexer.keywords",Rows.laid_disjoint_lexer_keywords)::r) W)
  (hp:laidMetH Tryz.prog (x0::x1::("internal/strconv.uint64pow10",Rows.laid_internal_strconv_uint64pow10)::x3::("strconv.ErrRange",Rows.laid_strconv_ErrRange)::("strconv.ErrSyntax",Rows.laid_strconv_ErrSyntax)::("disjoint/lexer.keywords",Rows.laid_disjoint_lexer_keywords)::r) W=laidMet Tryz.prog (x0::x1::("internal/strconv.uint64pow10",Rows.laid_internal_strconv_uint64pow10)::x3::("strconv.ErrRange",Rows.laid_strconv_ErrRange)::("strconv.ErrSyntax",Rows.laid_strconv_ErrSyntax)::("disjoint/lexer.keywords",Rows.laid_disjoint_lexer_keywords)::r) W) (hs:W.ShapedOpen Tryz.prog):Pg W:=by
 have hm:=hp ▸ h
 exact⟨⟨sh_of hs,(kH hm).1⟩,(kH hm).2,kw_of hm.tail.tail.tail.tail.tail⟩
end
end Go.Proofs.YtjigcpfjhfoheaaGreatDoor
