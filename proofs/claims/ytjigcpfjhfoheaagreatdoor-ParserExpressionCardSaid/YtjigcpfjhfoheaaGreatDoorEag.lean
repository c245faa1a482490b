/- A whole block loaded, in a plain region and in one that draws its order; Walks: weight, Nodes, Depth; Walks: Nodes, Depth; Walks: counted, upTo; Walks: the search in a slice of expressions; Walks: small functions on nodes; Walks: . -/
import Derived.Test.YtjigcpfjhfoheaaGreatDoorEaa
import Derived.Laws.Rows
import Derived.Deep.Quiet
import Derived.Test.YtjigcpfjhfoheaaGreatDoorProg
import Derived.Lib.Strings
import Derived.Lib.IndexMore
import Derived.Test.YtjigcpfjhfoheaaGreatDoorShelf
namespace Go.Proofs.YtjigcpfjhfoheaaGreatDoor
open Go.RowKit
set_option maxHeartbeats 4000000
set_option maxRecDepth 100000
set_option linter.unusedVariables false
set_option linter.unusedSimpArgs false
section
section
variable {P:Program}
theorem wpList_load_blk {ops:Array Oper} {rest:List Oper} {o:Oper} {a:Act} {w:World} {Q:Exit→Act→World→Prop} (hgd:o.guard=none) (ty:TypeId) (x:Operand) (ho:o.op= .load ty x)
  (g:Nat) (hx:a.eval x= .pointer (some ⟨g,0,none⟩)) (t:TypeId) (cs:List Value) (d:TypeDesc) (hg:Blk w g t cs)
  (hu:P.underlying ty=some d) (hd:(match d with| .struct _| .array _ _=>true|_=>false)=true) (hi:(P.info? ty).map (·.size)=some cs.length)
  (h:wpList P ops Q rest (a.put o.dst (.agg cs.toArray)) w):wpList P ops Q (o::rest) a w:=
 wpList_load_row hgd ty x ho g hx t cs.toArray (0,0) d hg hu hd (by simpa using hi) h
theorem quiet_load_blk {ops:Array Oper} {C:World→Prop} {Q:Act→Prop} {rest:List Oper} {o:Oper} {a:Act} (hgd:o.guard=none) (ty:TypeId) (x:Operand) (ho:o.op= .load ty x)
  (g:Nat) (hx:a.eval x= .pointer (some ⟨g,0,none⟩)) (t:TypeId) (cs:List Value) (d:TypeDesc) (hg:∀w,C w→Blk w g t cs)
  (hu:P.underlying ty=some d) (hd:(match d with| .struct _| .array _ _=>true|_=>false)=true) (hi:(P.info? ty).map (·.size)=some cs.length)
  (h:wpQuiet P ops C Q rest (a.put o.dst (.agg cs.toArray))):wpQuiet P ops C Q (o::rest) a:=by
 unfold wpQuiet
 have hw:Region.wanted o (yielded ops a.tmps)=true:=by simp[Region.wanted,hgd]
 rw[if_pos hw]
 refine⟨.agg cs.toArray,fun w hC=>?_,h⟩
 unfold Oper.quietAt execOp
 simp only[ho,hx,Instr.loadAt,Instr.sureAddr,Sem.run_bind,Sem.run_pure,Result.andThen_ok,run_loadVar_row w g t ty cs.toArray (0,0) d (hg w hC) hu hd (by simpa using hi)]
 exact⟨rfl,rfl⟩
theorem later_blk {w:World} {g t:Nat} {cs:List Value} (h:Blk w g t cs):∀w',(∃x:Later w,w'=x.now)→Blk w' g t cs:=by
 rintro _ ⟨x,rfl⟩
 exact h.ext x.ext
end
end
theorem mem_at {l:List Ex} {i:Nat} {e:Ex} (h:l[i]? =some e):e∈l:=List.mem_of_getElem? h
theorem at_lt {l:List Ex} {i n:Nat} (hl:l.length=n) (h:i<n):∃e,l[i]? =some e:=⟨_,List.getElem?_eq_getElem (by omega)⟩
theorem take_at {l:List Ex} {i:Nat} {e:Ex} (h:l[i]? =some e):l.take (i+1)=l.take i++ [e]:=by
 obtain⟨hi,rfl⟩:=List.getElem?_eq_some_iff.1 h
 exact List.take_succ_eq_append_getElem hi
theorem nodes_split (d:Nd) (ks:List Ex):(Ex.mk d ks).nodes=(if d.op=0 then 0 else 1)+nodesL ks:=rfl
theorem nodes_step {l:List Ex} {k:Nat} {e:Ex} (h:l[k]? =some e):nodesL (l.take (k+1))=nodesL (l.take k)+e.nodes:=by
 rw[take_at h,nodesL_app,nodesL,nodesL,Nat.add_zero]
theorem depth_step {l:List Ex} {k:Nat} {e:Ex} (h:l[k]? =some e):depthL (l.take (k+1))=max (depthL (l.take k)) e.depth:=by
 rw[take_at h,depthL_app,depthL,depthL];omega
theorem nodes_mem {l:List Ex} {e:Ex} (h:e∈l):e.nodes≤nodesL l:=by
 induction l with
 |nil=>cases h
 |cons a l ih=>
  rw[nodesL]
  rcases List.mem_cons.1 h with rfl|h
  ·omega
  ·have:=ih h;omega
theorem depth_any:∀(e:Ex) (A:Option Addr) (n c:Nat) (w:World),ExV w e A n c→e.nodes≤100000000→
  Calls Tryz.prog 113 #[e.d.val A n c] w fun r w'=>r= .returned (.int .i64 (e.depth:Int))∧Ext w w':=by
 intro e
 induction e using Ex.ind with
 |h d ks ih=>
  intro A n c w hv hm
  obtain⟨h1,h2,h3,h4⟩:=hv
  have HL:Hid (ks.length=n):=h1
  have HK:Hid (KidsAt w A ks):=h4
  have HI:=hid ih
  have hm2:nodesL ks≤100000000:=by rw[nodes_split]at hm;omega
  have HM2:=hid hm2
  have HD:Hid (depthL ks≤nodesL ks):=(depthL_le ks).1
  clear h1 h4 ih h3 hm hm2
  have HN:Hid ((Ex.mk d ks).depth=(if d.op=0 then 0 else 1)+depthL ks):=rfl
  unfold Nd.val
  simp only[Ex.d]
  obtain⟨op,tb,nm,ix,vk,vi,vt⟩:=d
  simp only
  simp only at HN
  have HB:=hid (Blk.of_new w 37 (eC op tb nm ix vk vi vt A n c))
  have HX:=hid ((Ext.refl w).alloc (.cells #[.int .i64 op,.string tb,.string nm,.int .i64 ix,.int .i64 vk,.int .i64 vi,.string vt,.slice A n c] 37))
  go_enter Tryz.func113,Tryz.ntmps113
  go_wp2_with fail
  generalize w.alloc (.cells #[.int .i64 op,.string tb,.string nm,.int .i64 ix,.int .i64 vk,.int .i64 vi,.string vt,.slice A n c] 37)=w1 at*
  generalize w.heap.size=g at*
  go_loopw [3,9] (fun nv iv wr=> ∃(r k:Nat),k≤n∧r≤100000000∧nv= .int .i64 r∧iv= .int .i64 k∧r=depthL (ks.take k)∧Ext w1 wr) (fun _ i _=>n- (intOf i).toNat)
  case atStart=>exact⟨0,0,Nat.zero_le _,by omega,rfl,rfl,rfl,Ext.refl w1⟩
  case round=>
   obtain⟨r,k,hk,hrl,rfl,rfl,hr,hxr⟩:=hrel
   have HXr:=hid hxr
   have HRr:=hid hr
   have c7:=(HB.out.ext hxr).cell 7
   have c0:=(HB.out.ext hxr).cell 0
   simp only[List.getElem?_cons_succ,List.getElem?_cons_zero]at c7 c0
   by_cases hlt:k<n
   ·obtain⟨e',he⟩:=at_lt HL.out hlt
    obtain⟨b,off,A',n',c',rfl,q0,q1,q2,q3,q4,q5,q6,q7,hv'⟩:=((HK.out.ext HX.out).ext hxr).get he
    have HV:=hid hv'
    have HM:=hid (mem_at he)
    have HS:=hid (depth_step he)
    have HE:Hid (e'.nodes≤100000000):=by unfold Hid;have:=nodes_mem HM.out;have:=HM2.out;omega
    have hdl:e'.depth≤100000000:=by have:=(depthL_le [e']).2 e' (by simp);have:=HE.out;omega
    clear he hv' hxr hr
    go_wp2_with (go_at_call 113;refine(HI.out e' HM.out A' n' c' _ (HV.out.ext ((Ext.refl wr).alloc _)) HE.out).mono ?_;rintro _ w2 ⟨rfl,hx2⟩)
    go_roundw
    case rel=>
     refine⟨max r e'.depth,k+1,by omega,by omega,?_,by go_num,?_,(HXr.out.alloc _).trans hx2⟩
     ·congr 1;omega
     ·rw[HS.out,HRr.out]
    case measure=>simp[intOf];omega
   ·obtain rfl:k=n:=by omega
    have HT:Hid (ks.take k=ks):=List.take_of_length_le (Nat.le_of_eq HL.out)
    clear hr
    by_cases h0:op=0
    ·have hb:(op !=0)=false:=by simp[h0]
     have HN2:Hid ((Ex.mk ⟨op,tb,nm,ix,vk,vi,vt⟩ ks).depth=r):=by unfold Hid;rw[HN.out,if_pos h0,HRr.out,HT.out,Nat.zero_add]
     clear h0
     go_wp2_with fail
     go_ret
     exact⟨ret_int (by rw[HN2.out]),HX.out.trans HXr.out⟩
    ·have hb:(op !=0)=true:=by simpa using h0
     have HN2:Hid (((Ex.mk ⟨op,tb,nm,ix,vk,vi,vt⟩ ks).depth:Int)=(r:Int)+1):=by unfold Hid;rw[HN.out,if_neg h0,HRr.out,HT.out];omega
     clear h0
     go_wp2_with fail
     go_ret
     exact⟨ret_int (by rw[HN2.out]),HX.out.trans HXr.out⟩
theorem rdepth_any:∀(e:Ex) (A:Option Addr) (n c:Nat) (w:World),ExV w e A n c→e.nodes≤100000000→
  Calls Tryz.prog 74 #[e.d.val A n c] w fun r w'=>r= .returned (.int .i64 (e.depth:Int))∧Ext w w':=by
 intro e
 induction e using Ex.ind with
 |h d ks ih=>
  intro A n c w hv hm
  obtain⟨h1,h2,h3,h4⟩:=hv
  have HL:Hid (ks.length=n):=h1
  have HK:Hid (KidsAt w A ks):=h4
  have HI:=hid ih
  have hm2:nodesL ks≤100000000:=by rw[nodes_split]at hm;omega
  have HM2:=hid hm2
  have HD:Hid (depthL ks≤nodesL ks):=(depthL_le ks).1
  clear h1 h4 ih h3 hm hm2
  have HN:Hid ((Ex.mk d ks).depth=(if d.op=0 then 0 else 1)+depthL ks):=rfl
  unfold Nd.val
  simp only[Ex.d]
  obtain⟨op,tb,nm,ix,vk,vi,vt⟩:=d
  simp only
  simp only at HN
  have HB:=hid (Blk.of_new w 37 (eC op tb nm ix vk vi vt A n c))
  have HX:=hid ((Ext.refl w).alloc (.cells #[.int .i64 op,.string tb,.string nm,.int .i64 ix,.int .i64 vk,.int .i64 vi,.string vt,.slice A n c] 37))
  go_enter Tryz.func74,Tryz.ntmps74
  go_wp2_with fail
  generalize w.alloc (.cells #[.int .i64 op,.string tb,.string nm,.int .i64 ix,.int .i64 vk,.int .i64 vi,.string vt,.slice A n c] 37)=w1 at*
  generalize w.heap.size=g at*
  go_loopw [3,4] (fun nv iv wr=> ∃(r k:Nat),k≤n∧r≤100000000∧nv= .int .i64 r∧iv= .int .i64 k∧r=depthL (ks.take k)∧Ext w1 wr) (fun _ i _=>n- (intOf i).toNat)
  case atStart=>exact⟨0,0,Nat.zero_le _,by omega,rfl,rfl,rfl,Ext.refl w1⟩
  case round=>
   obtain⟨r,k,hk,hrl,rfl,rfl,hr,hxr⟩:=hrel
   have HXr:=hid hxr
   have HRr:=hid hr
   have c7:=(HB.out.ext hxr).cell 7
   have c0:=(HB.out.ext hxr).cell 0
   simp only[List.getElem?_cons_succ,List.getElem?_cons_zero]at c7 c0
   by_cases hlt:k<n
   ·obtain⟨e',he⟩:=at_lt HL.out hlt
    obtain⟨b,off,A',n',c',rfl,q0,q1,q2,q3,q4,q5,q6,q7,hv'⟩:=((HK.out.ext HX.out).ext hxr).get he
    have HV:=hid hv'
    have HM:=hid (mem_at he)
    have HS:=hid (depth_step he)
    have HE:Hid (e'.nodes≤100000000):=by unfold Hid;have:=nodes_mem HM.out;have:=HM2.out;omega
    have hdl:e'.depth≤100000000:=by have:=(depthL_le [e']).2 e' (by simp);have:=HE.out;omega
    clear he hv' hxr hr
    go_wp2_with (go_at_call 74;refine(HI.out e' HM.out A' n' c' _ (HV.out.ext (Ext.refl wr)) HE.out).mono ?_;rintro _ w2 ⟨rfl,hx2⟩)
    go_roundw
    case rel=>
     refine⟨max r e'.depth,k+1,by omega,by omega,?_,by go_num,?_,HXr.out.trans hx2⟩
     ·congr 1;omega
     ·rw[HS.out,HRr.out]
    case measure=>simp[intOf];omega
   ·obtain rfl:k=n:=by omega
    have HT:Hid (ks.take k=ks):=List.take_of_length_le (Nat.le_of_eq HL.out)
    clear hr
    by_cases h0:op=0
    ·have hb:(op !=0)=false:=by simp[h0]
     have HN2:Hid ((Ex.mk ⟨op,tb,nm,ix,vk,vi,vt⟩ ks).depth=r):=by unfold Hid;rw[HN.out,if_pos h0,HRr.out,HT.out,Nat.zero_add]
     clear h0
     go_wp2_with fail
     go_ret
     exact⟨ret_int (by rw[HN2.out]),HX.out.trans HXr.out⟩
    ·have hb:(op !=0)=true:=by simpa using h0
     have HN2:Hid (((Ex.mk ⟨op,tb,nm,ix,vk,vi,vt⟩ ks).depth:Int)=(r:Int)+1):=by unfold Hid;rw[HN.out,if_neg h0,HRr.out,HT.out];omega
     clear h0
     go_wp2_with fail
     go_ret
     exact⟨ret_int (by rw[HN2.out]),HX.out.trans HXr.out⟩
theorem kid_nodes {l:List Ex} {k:Nat} {d:Nd} {ks:List Ex} (h:l[k]? =some (.mk d ks)):nodesL (l.take (k+1))=nodesL (l.take k)+((if d.op=0 then 0 else 1)+nodesL ks):=nodes_step h
theorem nodes_take (l:List Ex) (k:Nat):nodesL (l.take k)≤nodesL l:=by
 have:=nodesL_app (l.take k) (l.drop k)
 rw[List.take_append_drop]at this
 omega
theorem size_ks (d:Nd) (ks:List Ex):(Ex.mk d ks).size=1+sizeL ks:=rfl
theorem counted_any:∀(N:Nat) (l:List Ex) (A:Option Addr) (n c L:Nat) (w:World),sizeL l≤N→l.length=n→n≤9223372036854775807→KidsAt w A l→L≤100000→
  Calls Tryz.prog 110 #[.slice A n c,.int .i64 (L:Int)] w fun r w'=>r= .returned (.int .i64 ((min (nodesL l) (L+1):Nat):Int))∧Ext w w':=by
 intro N
 induction N with
 |zero=>
  intro l A n c L w hz hl hn hk hL
  have:l= []:=by
   cases l with
   |nil=>rfl
   |cons a l=>rw[sizeL]at hz;have:=size_pos a;omega
  subst this
  obtain rfl:n=0:=hl.symm
  go_enter Tryz.func110,Tryz.ntmps110
  go_wp2_with fail
  go_loop [5,10] (fun nv iv=>nv= .int .i64 0∧iv= .int .i64 0) (fun _ _=>0)
  case atStart=>exact⟨rfl,rfl⟩
  case round=>
   obtain⟨rfl,rfl⟩:=hrel
   go_wp2_with fail
   go_ret
   exact⟨ret_int (by simp[nodesL]),Ext.refl w⟩
 |succ N ih=>
  intro l A n c L w hz hl hn hk hL
  have HZ:=hid hz
  have HL:=hid hl
  have HK:=hid hk
  have HI:=hid ih
  clear hz hl hk ih
  go_enter Tryz.func110,Tryz.ntmps110
  go_wp2_with fail
  go_loopw [5,10] (fun nv iv wr=> ∃(r k:Nat),k≤n∧r≤L∧nv= .int .i64 r∧iv= .int .i64 k∧r=nodesL (l.take k)∧Ext w wr) (fun _ i _=>n- (intOf i).toNat)
  case atStart=>exact⟨0,0,Nat.zero_le _,Nat.zero_le _,rfl,rfl,rfl,Ext.refl w⟩
  case round=>
   obtain⟨r,k,hkn,hrL,rfl,rfl,hr,hxr⟩:=hrel
   have HXr:=hid hxr
   have HRr:=hid hr
   by_cases hlt:k<n
   ·obtain⟨e',he⟩:=at_lt HL.out hlt
    obtain⟨b,off,A',n',c',rfl,q0,q1,q2,q3,q4,q5,q6,q7,hv'⟩:=(HK.out.ext hxr).get he
    have HV:=hid hv'
    have HM:=hid (mem_at he)
    obtain⟨⟨op,tb,nm,ix,vk,vi,vt⟩,ks⟩:=e'
    simp only[Ex.d]at q0 q1 q2 q3 q4 q5 q6
    have HS:=hid (kid_nodes he)
    have hks:n'≤9223372036854775807:=hv'.le
    have HSz:Hid (sizeL ks≤N):=by unfold Hid;have:=sizeL_mem HM.out;rw[size_ks]at this;have:=HZ.out;omega
    have HT:=hid (nodes_take l (k+1))
    clear he hv' hxr hr
    by_cases h0:op=0
    ·have hb:(op !=0)=false:=by simp[h0]
     have HS2:Hid (nodesL (l.take (k+1))=r+nodesL ks):=by unfold Hid;rw[HS.out,if_pos h0,←HRr.out,Nat.zero_add]
     obtain⟨m,hm⟩:∃m,min (nodesL ks) (L-r+1)=m:=⟨_,rfl⟩
     have HMm:=hid hm
     have hm2:m≤100001:=by omega
     clear h0 hm
     have hcl:((L-r:Nat):Int)=(L:Int)- (r:Int):=by omega
     have HC:Hid (∀W,Ext wr W→Calls Tryz.prog 110 #[.slice A' n' c',.int .i64 ((L:Int)- (r:Int))] W fun r w'=>r= .returned (.int .i64 (m:Int))∧Ext W w'):=by
      intro W hW
      rw[←hcl,←HMm.out]
      exact HI.out ks A' n' c' (L-r) W HSz.out HV.out.len hks (HV.out.kids.ext hW) (by omega)
     clear hcl
     by_cases h2:r+m≤L
     ·have HR2:Hid (r+m=nodesL (l.take (k+1))):=by unfold Hid;have:=HMm.out;rw[HS2.out];omega
      have g2:decide ((L:Int)<(r:Int)+(m:Int))=false:=by simp;omega
      go_wp2_with (go_at_call 110;refine(HC.out _ ((Ext.refl wr).alloc _)).mono ?_;rintro _ w2 ⟨rfl,hx2⟩)
      go_roundw
      case rel=>exact⟨r+m,k+1,by omega,by omega,by go_num,by go_num,HR2.out,(HXr.out.alloc _).trans hx2⟩
      case measure=>simp[intOf];omega
     ·have HR2:Hid (r+m=L+1∧L+1≤nodesL l):=by unfold Hid;have:=HMm.out;have:=HS2.out;have:=HT.out;omega
      have g2:decide ((L:Int)<(r:Int)+(m:Int))=true:=by simp;omega
      clear h2
      go_wp2_with (go_at_call 110;refine(HC.out _ ((Ext.refl wr).alloc _)).mono ?_;rintro _ w2 ⟨rfl,hx2⟩)
      go_ret
      exact⟨ret_int (by have:=HR2.out;omega),(HXr.out.alloc _).trans hx2⟩
    ·have hb:(op !=0)=true:=by simpa using h0
     have HS2:Hid (nodesL (l.take (k+1))=r+1+nodesL ks):=by unfold Hid;rw[HS.out,if_neg h0,←HRr.out,Nat.add_assoc]
     clear h0
     by_cases h1:r+1≤L
     ·obtain⟨m,hm⟩:∃m,min (nodesL ks) (L- (r+1)+1)=m:=⟨_,rfl⟩
      have HMm:=hid hm
      have hm2:m≤100001:=by omega
      clear hm
      have hcl:((L- (r+1):Nat):Int)=(L:Int)- ((r:Int)+1):=by omega
      have HC:Hid (∀W,Ext wr W→Calls Tryz.prog 110 #[.slice A' n' c',.int .i64 ((L:Int)- ((r:Int)+1))] W fun r w'=>r= .returned (.int .i64 (m:Int))∧Ext W w'):=by
       intro W hW
       rw[←hcl,←HMm.out]
       exact HI.out ks A' n' c' (L- (r+1)) W HSz.out HV.out.len hks (HV.out.kids.ext hW) (by omega)
      clear hcl
      have g1:decide ((r:Int)+1≤(L:Int))=true:=by simp;omega
      by_cases h2:r+1+m≤L
      ·have HR2:Hid (r+1+m=nodesL (l.take (k+1))):=by unfold Hid;have:=HMm.out;rw[HS2.out];omega
       have g2:decide ((L:Int)<(r:Int)+1+(m:Int))=false:=by simp;omega
       go_wp2_with (go_at_call 110;refine(HC.out _ ((Ext.refl wr).alloc _)).mono ?_;rintro _ w2 ⟨rfl,hx2⟩)
       go_roundw
       case rel=>exact⟨r+1+m,k+1,by omega,by omega,by go_num,by go_num,HR2.out,(HXr.out.alloc _).trans hx2⟩
       case measure=>simp[intOf];omega
      ·have HR2:Hid (r+1+m=L+1∧L+1≤nodesL l):=by unfold Hid;have:=HMm.out;have:=HS2.out;have:=HT.out;omega
       have g2:decide ((L:Int)<(r:Int)+1+(m:Int))=true:=by simp;omega
       clear h2
       go_wp2_with (go_at_call 110;refine(HC.out _ ((Ext.refl wr).alloc _)).mono ?_;rintro _ w2 ⟨rfl,hx2⟩)
       go_ret
       exact⟨ret_int (by have:=HR2.out;omega),(HXr.out.alloc _).trans hx2⟩
     ·have HR2:Hid (r=L∧L+1≤nodesL l):=by unfold Hid;have:=HS2.out;have:=HT.out;omega
      have g1:decide ((r:Int)+1≤(L:Int))=false:=by simp;omega
      have g2:decide ((L:Int)<(r:Int)+1)=true:=by simp;omega
      clear h1
      go_wp2_with fail
      go_ret
      exact⟨ret_int (by have:=HR2.out;omega),HXr.out.alloc _⟩
   ·obtain rfl:k=n:=by omega
    have HT:Hid (l.take k=l):=List.take_of_length_le (Nat.le_of_eq HL.out)
    clear hr
    go_wp2_with fail
    go_ret
    exact⟨ret_int (by rw[←HT.out,←HRr.out];omega),HXr.out⟩
theorem upto_any:∀(e:Ex) (A:Option Addr) (n c L:Nat) (w:World),ExV w e A n c→L≤100000→
  Calls Tryz.prog 73 #[e.d.val A n c,.int .i64 (L:Int)] w fun r w'=>r= .returned (.int .i64 ((min e.nodes (L+1):Nat):Int))∧Ext w w':=by
 intro e
 induction e using Ex.ind with
 |h d ks ih=>
  intro A n c L w hv hL
  obtain⟨h1,h2,h3,h4⟩:=hv
  have HL:Hid (ks.length=n):=h1
  have HK:Hid (KidsAt w A ks):=h4
  have HI:=hid ih
  clear h1 h4 ih h3
  have HN:=hid (nodes_split d ks)
  unfold Nd.val
  simp only[Ex.d]
  obtain⟨op,tb,nm,ix,vk,vi,vt⟩:=d
  simp only
  simp only at HN
  have HB:=hid (Blk.of_new w 37 (eC op tb nm ix vk vi vt A n c))
  have HX:=hid ((Ext.refl w).alloc (.cells #[.int .i64 op,.string tb,.string nm,.int .i64 ix,.int .i64 vk,.int .i64 vi,.string vt,.slice A n c] 37))
  obtain⟨r0,b0,hb0,hr0⟩:∃(r0:Nat) (b0:Bool),(op !=0)=b0∧(b0=true∧r0=1∨b0=false∧r0=0)∧(Ex.mk ⟨op,tb,nm,ix,vk,vi,vt⟩ ks).nodes=r0+nodesL ks:=by
   by_cases h:op=0
   ·exact⟨0,false,by simp[h],.inr ⟨rfl,rfl⟩,by rw[HN.out,if_pos h]⟩
   ·exact⟨1,true,by simpa using h,.inl ⟨rfl,rfl⟩,by rw[HN.out,if_neg h]⟩
  obtain⟨hb1,hr0⟩:=hr0
  have HR0:Hid (∃r0:Nat,(Ex.mk ⟨op,tb,nm,ix,vk,vi,vt⟩ ks).nodes=r0+nodesL ks∧(b0=true∧r0=1∨b0=false∧r0=0)):=⟨r0,hr0,hb1⟩
  clear hr0 HN
  rcases hb1 with ⟨rfl,rfl⟩|⟨rfl,rfl⟩
  all_goals
   go_enter Tryz.func73,Tryz.ntmps73
   go_wp2_with fail
   generalize w.alloc (.cells #[.int .i64 op,.string tb,.string nm,.int .i64 ix,.int .i64 vk,.int .i64 vi,.string vt,.slice A n c] 37)=w1 at*
   generalize w.heap.size=g at*
   go_loopw [5,6] (fun nv iv wr=> ∃(r k:Nat),k≤n∧r≤L+1∧nv= .int .i64 r∧iv= .int .i64 k∧(∃r0:Nat,(Ex.mk ⟨op,tb,nm,ix,vk,vi,vt⟩ ks).nodes=r0+nodesL ks∧r=min (r0+nodesL (ks.take k)) (L+1))∧Ext w1 wr) (fun _ i _=>n- (intOf i).toNat)
   case atStart=>
    obtain⟨r0,h5,h6⟩:=HR0.out
    refine⟨r0,0,Nat.zero_le _,by omega,?_,rfl,⟨r0,h5,by simp[nodesL];omega⟩,Ext.refl w1⟩
    rcases h6 with ⟨h6,rfl⟩|⟨h6,rfl⟩
    ·first|rfl|cases h6
    ·first|rfl|cases h6
   case round=>
    obtain⟨r,k,hk,hrL,rfl,rfl,hr,hxr⟩:=hrel
    have HXr:=hid hxr
    have HRr:=hid hr
    have c7:=(HB.out.ext hxr).cell 7
    simp only[List.getElem?_cons_succ,List.getElem?_cons_zero]at c7
    by_cases hlt:k<n
    ·by_cases hle:r≤L
     ·obtain⟨e',he⟩:=at_lt HL.out hlt
      obtain⟨b,off,A',n',c',rfl,q0,q1,q2,q3,q4,q5,q6,q7,hv'⟩:=((HK.out.ext HX.out).ext hxr).get he
      have HV:=hid hv'
      have HM:=hid (mem_at he)
      have HS:=hid (nodes_step he)
      obtain⟨m,hm⟩:∃m,min e'.nodes (L-r+1)=m:=⟨_,rfl⟩
      have HMm:=hid hm
      have hm2:m≤100001:=by omega
      clear hm
      have hcl:((L-r:Nat):Int)=(L:Int)- (r:Int):=by omega
      have HC:Hid (Calls Tryz.prog 73 #[e'.d.val A' n' c',.int .i64 ((L:Int)- (r:Int))] wr fun r w'=>r= .returned (.int .i64 (m:Int))∧Ext wr w'):=by
       unfold Hid
       rw[←hcl,←HMm.out]
       exact HI.out e' HM.out A' n' c' (L-r) _ HV.out (by omega)
      have g1:decide ((r:Int)≤(L:Int))=true:=by simp;omega
      have HR2:Hid (∀r0:Nat,r=min (r0+nodesL (ks.take k)) (L+1)→r+m=min (r0+nodesL (ks.take (k+1))) (L+1)):=by
       intro r0 h
       have h1:=HMm.out
       rw[HS.out]
       omega
      clear he hv' hxr hr hcl
      go_wp2_with (go_at_call 73;refine HC.out.mono ?_;rintro _ w2 ⟨rfl,hx2⟩)
      go_roundw
      case rel=>
       obtain⟨r0,h5,h6⟩:=HRr.out
       refine⟨r+m,k+1,by omega,by have:=HMm.out;omega,by go_num,by go_num,⟨r0,h5,HR2.out r0 h6⟩,HXr.out.trans hx2⟩
      case measure=>simp[intOf];omega
     ·have g1:decide ((r:Int)≤(L:Int))=false:=by simp;omega
      have HT:=hid (nodes_take ks k)
      have HLE:=hid hle
      clear hr hle
      go_wp2_with fail
      go_ret
      obtain⟨r0,h5,h6⟩:=HRr.out
      exact⟨ret_int (by have:=HT.out;have:=HLE.out;rw[h5];omega),HX.out.trans HXr.out⟩
    ·obtain rfl:k=n:=by omega
     have HT:Hid (ks.take k=ks):=List.take_of_length_le (Nat.le_of_eq HL.out)
     clear hr
     go_wp2_with fail
     go_ret
     obtain⟨r0,h5,h6⟩:=HRr.out
     exact⟨ret_int (by rw[h6,h5,HT.out]),HX.out.trans HXr.out⟩
def IdxOf (b:Bool) (r:Ending):Prop:=∃x:Int,I64 x∧r= .returned (.int .i64 x)∧decide (0≤x)=b
theorem any_take {α:Type} {l:List α} {k:Nat} {e:α} {p:α→Bool} (h:l[k]? =some e) (hp:p e=true):l.any p=true:=List.any_eq_true.2 ⟨e,List.mem_of_getElem? h,hp⟩
theorem any_step {α:Type} {l:List α} {k:Nat} {e:α} {p:α→Bool} (h:l[k]? =some e) (h0:(l.take k).any p=false) (hp:p e=false):(l.take (k+1)).any p=false:=by
 obtain⟨hi,rfl⟩:=List.getElem?_eq_some_iff.1 h
 rw[List.take_succ_eq_append_getElem hi,List.any_append,h0]
 simp[hp]
theorem any_end {α:Type} {l:List α} {n:Nat} {p:α→Bool} (hl:l.length=n) (h0:(l.take n).any p=false):l.any p=false:=by
 rwa [List.take_of_length_le (by omega)]at h0
def Ent (F:FuncId):Prop:=∀(args:Array Value) (W:World),(callFunc F args).run Tryz.prog W= .ok (.enter F args) W
theorem index_ex (F:FuncId) (hE:Ent F) (p:Ex→Bool) (l:List Ex) (A:Option Addr) (n c:Nat) (w:World) (hl:l.length=n) (hn:n≤9223372036854775807) (hk:KidsAt w A l)
  (hF:∀x∈l,∀(A':Option Addr) (n' c':Nat) (W:World),Ext w W→ExV W x A' n' c'→Calls Tryz.prog F #[x.d.val A' n' c'] W fun r W'=>r= .returned (.bool (p x))∧Ext W W'):
  Calls Tryz.prog 179 #[.slice A n c,.func (Fn.func F) #[] #[]] w fun r w'=>IdxOf (l.any p) r∧Ext w w':=by
 unfold Ent at hE
 have HL:=hid hl
 have HK:=hid hk
 have HF:=hid hF
 clear hl hk hF
 go_enter Tryz.func179,Tryz.ntmps179
 go_wp2_with fail
 go_loopw [5,8] (fun _ iv wr=> ∃(k:Nat),k≤n∧iv= .int .i64 k∧(l.take k).any p=false∧Ext w wr) (fun _ i _=>n- (intOf i).toNat)
 case atStart=>exact⟨0,Nat.zero_le _,rfl,rfl,Ext.refl w⟩
 case round=>
  obtain⟨k,hkn,rfl,hr,hxr⟩:=hrel
  have HXr:=hid hxr
  have HRr:=hid hr
  by_cases hlt:k<n
  ·obtain⟨e',he⟩:=at_lt HL.out hlt
   obtain⟨b,off,A',n',c',rfl,q0,q1,q2,q3,q4,q5,q6,q7,hv'⟩:=(HK.out.ext hxr).get he
   have HC:=hid (HF.out e' (mem_at he) A' n' c' _ hxr hv')
   have HE:=hid he
   clear he hv' hxr hr
   cases hp:p e'
   ·rw[hp]at HC
    have HP:Hid ((l.take (k+1)).any p=false):=any_step HE.out HRr.out hp
    clear hp
    go_wp2_with fail
    refine HC.out.mono ?_
    rintro _ w2 ⟨rfl,hx2⟩
    go_wp2_with fail
    go_roundw
    case rel=>exact⟨k+1,by omega,by go_num,HP.out,HXr.out.trans hx2⟩
    case measure=>simp[intOf];omega
   ·rw[hp]at HC
    have HP:Hid (l.any p=true):=any_take HE.out hp
    clear hp
    go_wp2_with fail
    refine HC.out.mono ?_
    rintro _ w2 ⟨rfl,hx2⟩
    go_wp2_with fail
    go_ret
    exact⟨⟨k,⟨by omega,by omega⟩,rfl,by rw[HP.out];simp⟩,HXr.out.trans hx2⟩
  ·obtain rfl:k=n:=by omega
   have HP:Hid (l.any p=false):=any_end HL.out HRr.out
   clear hr
   go_wp2_with fail
   go_ret
   exact⟨⟨-1,⟨by omega,by omega⟩,rfl,by rw[HP.out];rfl⟩,HXr.out⟩
theorem ent101:Ent 154:=fun _ _=>by kernel_rfl
theorem operands_any (op:Int) (w:World):Calls Tryz.prog 153 #[.int .i64 op] w fun r w'=>r= .returned (.int .i64 (opN op))∧w=w':=by
 go_enter Tryz.func153,Tryz.ntmps153
 go_wp2_with fail
 all_goals
  go_ret
  refine⟨ret_int ?_,rfl⟩
  simp only[beq_iff_eq,beq_eq_false_iff_ne]at*
  unfold opN
  first|rw[if_pos (by omega)]|rw[if_neg (by omega),if_pos (by omega)]|rw[if_neg (by omega),if_neg (by omega),if_pos (by omega)]|rw[if_neg (by omega),if_neg (by omega),if_neg (by omega)]
theorem args_any (op:Int) (w:World):Calls Tryz.prog 158 #[.int .i64 op] w fun r w'=>r= .returned (.int .i64 (opN op))∧w=w':=by
 go_enter Tryz.func158,Tryz.ntmps158
 go_wp2_with fail
 all_goals
  go_ret
  refine⟨ret_int ?_,rfl⟩
  simp only[beq_iff_eq,beq_eq_false_iff_ne]at*
  unfold opN
  first|rw[if_pos (by omega)]|rw[if_neg (by omega),if_pos (by omega)]|rw[if_neg (by omega),if_neg (by omega),if_pos (by omega)]|rw[if_neg (by omega),if_neg (by omega),if_neg (by omega)]
theorem within_any (x lo hi:Int) (w:World):Calls Tryz.prog 197 #[.int .i64 x,.int .i64 lo,.int .i64 hi] w fun r w'=>r= .returned (.bool (decide (lo≤x) &&decide (x≤hi)))∧w=w':=by
 by_cases h:lo≤x
 ·have hd:decide (lo≤x)=true:=by simpa using h
  have HD:=hid hd
  clear h
  go_enter Tryz.func197,Tryz.ntmps197
  go_wp2_with fail
  go_ret
  clear hd
  exact⟨ret_bool (by rw[HD.out,Bool.true_and]),rfl⟩
 ·have hd:decide (lo≤x)=false:=by simpa using h
  have HD:=hid hd
  clear h
  go_enter Tryz.func197,Tryz.ntmps197
  go_wp2_with fail
  go_ret
  clear hd
  exact⟨ret_bool (by rw[HD.out,Bool.false_and]),rfl⟩
theorem rnumber_any (x:Int) (w:World):Calls Tryz.prog 219 #[.int .i64 x] w fun r w'=>r= .returned (.bool (decide (0≤x) &&decide (x≤2147483648)))∧w=w':=by
 by_cases h:0≤x
 ·have hd:decide (0≤x)=true:=by simpa using h
  have HD:=hid hd
  clear h
  go_enter Tryz.func219,Tryz.ntmps219
  go_wp2_with fail
  go_ret
  clear hd
  exact⟨ret_bool (by rw[HD.out,Bool.true_and]),rfl⟩
 ·have hd:decide (0≤x)=false:=by simpa using h
  have HD:=hid hd
  clear h
  go_enter Tryz.func219,Tryz.ntmps219
  go_wp2_with fail
  go_ret
  clear hd
  exact⟨ret_bool (by rw[HD.out,Bool.false_and]),rfl⟩
def prn (l:List Nat):Bool:=l.all fun c=>decide (32≤c) &&decide (c≤126)
theorem textB_eq (s:ByteArray):textB s=(prn (N s) &&decide (s.size≤16)):=rfl
theorem all_step {s:ByteArray} {k:Nat} {p:Nat→Bool} (hk:k<s.size) (h:((N s).take k).all p=true) (h1:p s[k].toNat=true):((N s).take (k+1)).all p=true:=by
 rw[N_take_succ s k hk,List.all_append,h]
 simp[h1]
theorem all_no {s:ByteArray} {k:Nat} {p:Nat→Bool} (hk:k<s.size) (h1:p s[k].toNat=false):(N s).all p=false:=by
 rw[List.all_eq_false]
 exact⟨s[k].toNat,List.mem_of_getElem? (N_get s k hk),by simp[h1]⟩
theorem all_end {s:ByteArray} {k:Nat} {p:Nat→Bool} (hk:s.size≤k) (h:((N s).take k).all p=true):(N s).all p=true:=by
 rwa [List.take_of_length_le (by rw[N_len];exact hk)]at h
theorem text_any (s:ByteArray) (w:World) (hs:s.size≤9223372036854775807):Calls Tryz.prog 221 #[.string s] w fun r w'=>r= .returned (.bool (textB s))∧w=w':=by
 go_enter Tryz.func221,Tryz.ntmps221
 go_wp2_with fail
 go_loop [3,6] (fun _ i=> ∃k:Nat,k≤s.size∧i= .int .i64 k∧prn ((N s).take k)=true) (fun _ i=>s.size- (intOf i).toNat)
 case atStart=>exact⟨0,Nat.zero_le _,rfl,rfl⟩
 case round=>
  obtain⟨k,hk,rfl,hv⟩:=hrel
  have HV:=hid hv
  clear hv
  by_cases hlt:k<s.size
  ·by_cases h1:32≤s[k].toNat
   ·have d1:decide ((s[k].toNat:Int)<32)=false:=by simp;omega
    by_cases h2:s[k].toNat≤126
    ·have d2:decide (126<(s[k].toNat:Int))=false:=by simp;omega
     have HP:Hid (prn ((N s).take (k+1))=true):=all_step hlt HV.out (by simp[h1,h2])
     clear h1 h2
     go_wp2_with fail
     go_round
     case rel=>exact⟨k+1,by omega,by go_num,HP.out⟩
     case measure=>simp[intOf];omega
    ·have d2:decide (126<(s[k].toNat:Int))=true:=by simp;omega
     have HP:Hid (prn (N s)=false):=all_no hlt (by simp[h2])
     clear h1 h2
     go_wp2_with fail
     go_ret
     exact⟨ret_bool (by rw[textB_eq,HP.out];rfl),rfl⟩
   ·have d1:decide ((s[k].toNat:Int)<32)=true:=by simp;omega
    have HP:Hid (prn (N s)=false):=all_no hlt (by simp[h1])
    clear h1
    go_wp2_with fail
    go_ret
    exact⟨ret_bool (by rw[textB_eq,HP.out];rfl),rfl⟩
  ·have HP:Hid (prn (N s)=true):=all_end (by omega) HV.out
   go_wp2_with fail
   go_ret
   exact⟨ret_bool (by rw[textB_eq,HP.out,Bool.true_and,Bool.eq_iff_iff];simp;omega),rfl⟩
theorem rtext_any (s:ByteArray) (w:World) (hs:s.size≤9223372036854775807):Calls Tryz.prog 223 #[.string s] w fun r w'=>r= .returned (.bool (textB s))∧w=w':=by
 go_enter Tryz.func223,Tryz.ntmps223
 go_wp2_with fail
 go_loop [3] (fun i=> ∃k:Nat,k≤s.size∧i= .int .i64 k∧prn ((N s).take k)=true) (fun i=>s.size- (intOf i).toNat)
 case atStart=>exact⟨0,Nat.zero_le _,rfl,rfl⟩
 case round=>
  obtain⟨k,hk,rfl,hv⟩:=hrel
  have HV:=hid hv
  clear hv
  by_cases hlt:k<s.size
  ·by_cases h1:32≤s[k].toNat
   ·have d1:decide ((s[k].toNat:Int)<32)=false:=by simp;omega
    by_cases h2:s[k].toNat≤126
    ·have d2:decide (126<(s[k].toNat:Int))=false:=by simp;omega
     have HP:Hid (prn ((N s).take (k+1))=true):=all_step hlt HV.out (by simp[h1,h2])
     clear h1 h2
     go_wp2_with fail
     go_round
     case rel=>exact⟨k+1,by omega,by go_num,HP.out⟩
     case measure=>simp[intOf];omega
    ·have d2:decide (126<(s[k].toNat:Int))=true:=by simp;omega
     have HP:Hid (prn (N s)=false):=all_no hlt (by simp[h2])
     clear h1 h2
     go_wp2_with fail
     go_ret
     exact⟨ret_bool (by rw[textB_eq,HP.out];rfl),rfl⟩
   ·have d1:decide ((s[k].toNat:Int)<32)=true:=by simp;omega
    have HP:Hid (prn (N s)=false):=all_no hlt (by simp[h1])
    clear h1
    go_wp2_with fail
    go_ret
    exact⟨ret_bool (by rw[textB_eq,HP.out];rfl),rfl⟩
  ·have HP:Hid (prn (N s)=true):=all_end (by omega) HV.out
   go_wp2_with fail
   go_ret
   exact⟨ret_bool (by rw[textB_eq,HP.out,Bool.true_and,Bool.eq_iff_iff];simp;omega),rfl⟩
theorem str0 (s:ByteArray):s.toList= []↔s.size=0:=by
 rw[ByteArray.toList_eq]
 constructor
 ·intro h;show s.data.size=0;rw[←Array.length_toList,h];rfl
 ·intro h
  have h:s.data.size=0:=h
  exact List.eq_nil_of_length_eq_zero (by rw[Array.length_toList];exact h)
theorem str0_b (s:ByteArray):(s.size==0)=s.toList.isEmpty:=by
 rw[Bool.eq_iff_iff,beq_iff_eq,List.isEmpty_iff];exact(str0 s).symm
theorem empty_yes {s:ByteArray} (h:s.size=0):s=⟨#[]⟩:=by
 apply N_inj
 rw[N_nil']
 exact List.eq_nil_of_length_eq_zero (by rw[N_len];exact h)
theorem empty_no {s:ByteArray} (h:¬s.size=0):¬s.toList= []:=fun e=>h ((str0 s).1 e)
theorem empty_no2 {s:ByteArray} (h:¬s.size=0):s.toList.isEmpty=false:=by
 rw[←str0_b,beq_eq_false_iff_ne];exact h
theorem literal_any (vk vi:Int) (vt:ByteArray) (w:World) (hs:vt.size≤9223372036854775807) (d:Nd) (h0:d.vk=vk) (h1:d.vi=vi) (h2:d.vt=vt):
  Calls Tryz.prog 155 #[.agg #[.int .i64 vk,.int .i64 vi,.string vt]] w fun r w'=>r= .returned (.bool d.litB)∧Ext w w':=by
 subst h0 h1 h2
 by_cases hk0:d.vk=0
 ·have HL:Hid (d.litB=(d.vi==0&&d.vt.size==0)):=by unfold Hid Nd.litB;rw[if_pos hk0]
  generalize d.litB=L at*
  obtain⟨op,tb,nm,ix,vk,vi,vt⟩:=d
  simp only at*
  subst hk0
  go_enter Tryz.func155,Tryz.ntmps155
  go_wp2_with fail
  all_goals
   go_ret
   refine⟨ret_bool ?_,(Ext.refl w).alloc _⟩
   rw[HL.out,str0_b]
   simp[*]
 ·by_cases hk1:d.vk=1
  ·have HL:Hid (d.litB=(decide (0≤d.vi) &&decide (d.vi≤2147483648) &&d.vt.size==0)):=by unfold Hid Nd.litB;rw[if_neg hk0,if_pos hk1]
   generalize d.litB=L at*
   obtain⟨op,tb,nm,ix,vk,vi,vt⟩:=d
   simp only at*
   subst hk1
   clear hk0
   by_cases he:vt.size=0
   ·obtain rfl:=empty_yes he
    go_enter Tryz.func155,Tryz.ntmps155
    go_wp2_with (go_at_call 197;refine(within_any _ _ _ _).mono ?_;rintro _ w2 ⟨rfl,rfl⟩)
    go_ret
    exact⟨ret_bool (by rw[HL.out];simp;intros;rfl),(Ext.refl w).alloc _⟩
   ·have hne:=empty_no he
    have HL2:Hid (L=false):=by unfold Hid;rw[HL.out];simp[he]
    clear he
    go_enter Tryz.func155,Tryz.ntmps155
    go_wp2_with fail
    go_ret
    exact⟨ret_bool HL2.out.symm,(Ext.refl w).alloc _⟩
  ·by_cases hk2:d.vk=2
   ·have HL:Hid (d.litB=(d.vi==0&&textB d.vt)):=by unfold Hid Nd.litB;rw[if_neg hk0,if_neg hk1,if_pos hk2]
    generalize d.litB=L at*
    obtain⟨op,tb,nm,ix,vk,vi,vt⟩:=d
    simp only at*
    subst hk2
    clear hk0 hk1
    by_cases he:vi=0
    ·subst he
     go_enter Tryz.func155,Tryz.ntmps155
     go_wp2_with (go_at_call 221;refine(text_any _ _ hs).mono ?_;rintro _ w2 ⟨rfl,rfl⟩)
     go_ret
     exact⟨ret_bool (by rw[HL.out];simp),(Ext.refl w).alloc _⟩
    ·have HL2:Hid (L=false):=by unfold Hid;rw[HL.out];simp[he]
     have hb:(vi==0)=false:=by simpa using he
     clear he
     go_enter Tryz.func155,Tryz.ntmps155
     go_wp2_with fail
     go_ret
     exact⟨ret_bool HL2.out.symm,(Ext.refl w).alloc _⟩
   ·have HL:Hid (d.litB=false):=by unfold Hid Nd.litB;rw[if_neg hk0,if_neg hk1,if_neg hk2]
    generalize d.litB=L at*
    obtain⟨op,tb,nm,ix,vk,vi,vt⟩:=d
    simp only at*
    have b0:(vk==0)=false:=by simpa using hk0
    have b1:(vk==1)=false:=by simpa using hk1
    have b2:(vk==2)=false:=by simpa using hk2
    clear hk0 hk1 hk2
    go_enter Tryz.func155,Tryz.ntmps155
    go_wp2_with fail
    go_ret
    exact⟨ret_bool HL.out.symm,(Ext.refl w).alloc _⟩
theorem rliteral_any (vk vi:Int) (vt:ByteArray) (w:World) (hs:vt.size≤9223372036854775807) (d:Nd) (h0:d.vk=vk) (h1:d.vi=vi) (h2:d.vt=vt):
  Calls Tryz.prog 159 #[.agg #[.int .i64 vk,.int .i64 vi,.string vt]] w fun r w'=>r= .returned (.bool d.litB)∧Ext w w':=by
 subst h0 h1 h2
 by_cases hk0:d.vk=0
 ·have HL:Hid (d.litB=(d.vi==0&&d.vt.size==0)):=by unfold Hid Nd.litB;rw[if_pos hk0]
  generalize d.litB=L at*
  obtain⟨op,tb,nm,ix,vk,vi,vt⟩:=d
  simp only at*
  subst hk0
  by_cases he:vi=0
  ·subst he
   go_enter Tryz.func159,Tryz.ntmps159
   go_wp2_with fail
   go_ret
   exact⟨ret_bool (by rw[HL.out,str0_b];simp),(Ext.refl w).alloc _⟩
  ·have HL2:Hid (L=false):=by unfold Hid;rw[HL.out];simp[he]
   have hb:(vi==0)=false:=by simpa using he
   clear he
   go_enter Tryz.func159,Tryz.ntmps159
   go_wp2_with fail
   go_ret
   exact⟨ret_bool HL2.out.symm,(Ext.refl w).alloc _⟩
 ·by_cases hk1:d.vk=1
  ·have HL:Hid (d.litB=(decide (0≤d.vi) &&decide (d.vi≤2147483648) &&d.vt.size==0)):=by unfold Hid Nd.litB;rw[if_neg hk0,if_pos hk1]
   generalize d.litB=L at*
   obtain⟨op,tb,nm,ix,vk,vi,vt⟩:=d
   simp only at*
   subst hk1
   clear hk0
   have HN:=hid (rnumber_any vi)
   obtain⟨x,hx⟩:∃x,(decide (0≤vi) &&decide (vi≤2147483648))=x:=⟨_,rfl⟩
   rw[hx]at HN HL
   clear hx
   cases x
   ·go_enter Tryz.func159,Tryz.ntmps159
    go_wp2_with (go_at_call 219;refine(HN.out _).mono ?_;rintro _ w2 ⟨rfl,rfl⟩)
    go_ret
    exact⟨ret_bool (by rw[HL.out];rfl),(Ext.refl w).alloc _⟩
   ·go_enter Tryz.func159,Tryz.ntmps159
    go_wp2_with (go_at_call 219;refine(HN.out _).mono ?_;rintro _ w2 ⟨rfl,rfl⟩)
    go_ret
    exact⟨ret_bool (by rw[HL.out,str0_b];simp),(Ext.refl w).alloc _⟩
  ·by_cases hk2:d.vk=2
   ·have HL:Hid (d.litB=(d.vi==0&&textB d.vt)):=by unfold Hid Nd.litB;rw[if_neg hk0,if_neg hk1,if_pos hk2]
    generalize d.litB=L at*
    obtain⟨op,tb,nm,ix,vk,vi,vt⟩:=d
    simp only at*
    subst hk2
    clear hk0 hk1
    by_cases he:vi=0
    ·subst he
     go_enter Tryz.func159,Tryz.ntmps159
     go_wp2_with (go_at_call 223;refine(rtext_any _ _ hs).mono ?_;rintro _ w2 ⟨rfl,rfl⟩)
     go_ret
     exact⟨ret_bool (by rw[HL.out];simp),(Ext.refl w).alloc _⟩
    ·have HL2:Hid (L=false):=by unfold Hid;rw[HL.out];simp[he]
     have hb:(vi==0)=false:=by simpa using he
     clear he
     go_enter Tryz.func159,Tryz.ntmps159
     go_wp2_with fail
     go_ret
     exact⟨ret_bool HL2.out.symm,(Ext.refl w).alloc _⟩
   ·have HL:Hid (d.litB=false):=by unfold Hid Nd.litB;rw[if_neg hk0,if_neg hk1,if_neg hk2]
    generalize d.litB=L at*
    obtain⟨op,tb,nm,ix,vk,vi,vt⟩:=d
    simp only at*
    have b0:(vk==0)=false:=by simpa using hk0
    have b1:(vk==1)=false:=by simpa using hk1
    have b2:(vk==2)=false:=by simpa using hk2
    clear hk0 hk1 hk2
    go_enter Tryz.func159,Tryz.ntmps159
    go_wp2_with fail
    go_ret
    exact⟨ret_bool HL.out.symm,(Ext.refl w).alloc _⟩
theorem level_any (e:Ex) (A:Option Addr) (n c:Nat) (w:World):Calls Tryz.prog 207 #[e.d.val A n c] w fun r w'=>r= .returned (.int .i64 (lvl e.d.op))∧Ext w w':=by
 unfold Nd.val
 generalize e.d=d
 obtain⟨op,tb,nm,ix,vk,vi,vt⟩:=d
 simp only
 go_enter Tryz.func207,Tryz.ntmps207
 go_wp2_with fail
 all_goals
  go_ret
  refine⟨ret_int ?_,(Ext.refl w).alloc _⟩
  simp only[beq_iff_eq,beq_eq_false_iff_ne]at*
  unfold lvl
  first|(exfalso;omega)|repeat (first|rw[if_pos (by omega)]|rw[if_neg (by omega)])
theorem rlevel_any (e:Ex) (A:Option Addr) (n c:Nat) (w:World) (h:1≤e.d.op∧e.d.op≤20):Calls Tryz.prog 90 #[e.d.val A n c] w fun r w'=>r= .returned (.int .i64 (lvl e.d.op))∧Ext w w':=by
 unfold Nd.val
 generalize e.d=d at*
 obtain⟨op,tb,nm,ix,vk,vi,vt⟩:=d
 simp only at*
 have H:=hid h
 clear h
 go_enter Tryz.func90,Tryz.ntmps90
 go_wp2_with fail
 all_goals
  go_ret
  refine⟨ret_int ?_,(Ext.refl w).alloc _⟩
  have h:=H.out
  simp only[beq_iff_eq,beq_eq_false_iff_ne,decide_eq_true_eq,decide_eq_false_iff_not]at*
  unfold lvl
  first|(exfalso;omega)|repeat (first|rw[if_pos (by omega)]|rw[if_neg (by omega)])
def spaced:List (List Nat)→List Nat
 | []=> []
 |w::ws=>w++32::spaced ws
theorem prefix_word (s w r:List Nat) (hs:32∉s) (hw:32∉w):(s++ [32])<+:(w++32::r)↔s=w:=by
 induction s generalizing w with
 |nil=>
  cases w with
  |nil=>simp
  |cons c w=>simp at hw ⊢;exact hw.1
 |cons a s ih=>
  cases w with
  |nil=>
   simp at hs ⊢
   intro h;exact absurd h.symm hs.1
  |cons c w=>
   simp at hs hw
   simp only[List.cons_append,List.cons_prefix_cons,List.cons.injEq]
   rw[ih w hs.2 hw.2]
theorem infix_cons {a l:List Nat} {c:Nat} :a<:+:c::l↔a<+:c::l∨a<:+:l:=List.infix_cons_iff
theorem infix_word (s w r:List Nat) (hw:32∉w):(32::s)<:+:(w++r)↔(32::s)<:+:r:=by
 induction w with
 |nil=>rfl
 |cons c w ih=>
  simp at hw
  rw[List.cons_append,infix_cons,ih hw.2]
  constructor
  ·rintro(h|h)
   ·rw[List.cons_prefix_cons]at h;exact absurd h.1 hw.1
   ·exact h
  ·exact .inr
theorem infix_spaced (s:List Nat) (hs:32∉s):∀ws:List (List Nat),(∀w∈ws,32∉w)→((32::(s++ [32]))<:+:(32::spaced ws)↔s∈ws):=by
 intro ws
 induction ws with
 |nil=>
  intro _
  constructor
  ·intro h
   have:=h.length_le
   simp[spaced]at this
  ·intro h;cases h
 |cons w ws ih=>
  intro hw
  have h1:=hw w (by simp)
  rw[spaced,infix_cons,List.cons_prefix_cons,prefix_word s w _ hs h1,infix_word _ _ _ h1,ih fun x hx=>hw x (by simp[hx])]
  simp
theorem kw_no_space:∀w∈kwWords,32∉w:=by decide+kernel
def kwText:List Nat:=32::spaced kwWords
theorem kw_infix (s:List Nat) (hs:32∉s):(32::(s++ [32]))<:+:kwText↔kwWords.contains s=true:=by
 unfold kwText
 rw[infix_spaced s hs kwWords kw_no_space,List.contains_iff_mem]
theorem occ_iff (s sub:List UInt8) (j:Nat):Lib.occAt s sub j=true↔sub<+:s.drop j:=by
 unfold Lib.occAt
 first|(rw[List.isPrefixOf_iff_prefix])|(simp[List.isPrefixOf_iff_prefix])
theorem contains_infix (s sub:List UInt8):Lib.contains s sub=true↔sub<:+:s:=by
 unfold Lib.contains
 rw[decide_eq_true_eq]
 rcases Lib.index_spec s sub with ⟨h1,h2⟩|⟨i,h1,h2,h3,h4⟩
 ·constructor
  ·intro h;omega
  ·rintro⟨a,b,hab⟩
   have hj:a.length≤s.length:=by rw[←hab];simp
   have:=h2 a.length hj
   rw[←Bool.not_eq_true,occ_iff s sub _]at this
   exact absurd ⟨b,by rw[←hab];simp⟩ this
 ·constructor
  ·intro _
   have:=(occ_iff s sub i).1 h3
   obtain⟨t,ht⟩:=this
   exact⟨s.take i,t,by rw[List.append_assoc,ht,List.take_append_drop]⟩
  ·intro _;omega
theorem infix_map {a b:List UInt8} :a.map UInt8.toNat<:+:b.map UInt8.toNat↔a<:+:b:=by
 have inj:∀x y:List UInt8,x.map UInt8.toNat=y.map UInt8.toNat→x=y:=fun x y h=> (List.map_inj_right (f:=UInt8.toNat) fun a b h=>UInt8.toNat_inj.1 h).1 h
 constructor
 ·rintro⟨p,q,h⟩
  have hl:=congrArg List.length h
  simp at hl
  refine⟨b.take p.length,b.drop (p.length+a.length),?_⟩
  have h1:(b.drop p.length).take a.length=a:=by
   apply inj
   rw[List.map_take,List.map_drop,←h]
   simp[List.append_assoc]
  have h2:(b.drop p.length)=a++b.drop (p.length+a.length):=by
   conv=>lhs;rw[←List.take_append_drop a.length (b.drop p.length),h1,List.drop_drop]
  rw[List.append_assoc,←h2,List.take_append_drop]
 ·rintro⟨p,q,h⟩
  exact⟨p.map UInt8.toNat,q.map UInt8.toNat,by rw[←h];simp⟩
def kwIn (s:ByteArray):Bool:=Lib.contains (kwText.map UInt8.ofNat) ((⟨#[32]⟩++s++⟨#[32]⟩:ByteArray)).data.toList
theorem kwIn_iff (s:ByteArray) (h:32∉N s):kwIn s=kwWords.contains (N s):=by
 rw[Bool.eq_iff_iff]
 unfold kwIn
 rw[contains_infix,←kw_infix (N s) h,←infix_map]
 have e1:(kwText.map UInt8.ofNat).map UInt8.toNat=kwText:=by decide+kernel
 have e2:((⟨#[32]⟩++s++⟨#[32]⟩:ByteArray)).data.toList.map UInt8.toNat=32::(N s++ [32]):=by
  unfold N
  simp
 rw[e1,e2]
theorem nm_space {s:ByteArray} (h:32∈N s):(N s).all isNmC=false:=by
 rw[List.all_eq_false]
 exact⟨32,h,by decide⟩
theorem name_kw {s:ByteArray} (h:kwIn s=true):nameB s=false:=by
 unfold nameB nameL
 by_cases hs:32∈N s
 ·rw[nm_space hs];simp
 ·rw[kwIn_iff s hs]at h
  rw[h];simp
theorem name_nokw {s:ByteArray} (h:kwIn s=false) (c:Nat) (r:List Nat) (h0:N s=c::r) (h1:isLow c=true) (h2:s.size≤24):nameB s=(N s).all isNmC:=by
 unfold nameB nameL
 have e:fstLow (N s)=true:=by rw[h0];exact h1
 rw[e]
 by_cases hs:32∈N s
 ·rw[nm_space hs];simp
 ·rw[kwIn_iff s hs]at h
  rw[h,N_len];simp[h2]
def Sh (w:World):Prop:=∃m,w.cell? ⟨1,0,none⟩=some (.int .i64 m)
theorem Sh.ext {w w':World} (h:Sh w) (hx:Ext w w'):Sh w':=by
 obtain⟨m,h⟩:=h
 exact⟨m,hx.keep h⟩
theorem contains_any (K s:ByteArray) (w:World) (hw:Sh w) (hK:K=⟨(kwText.map UInt8.ofNat).toArray⟩):
  Calls Tryz.prog 181 #[.string K,.string (⟨#[32]⟩++s++⟨#[32]⟩)] w fun r w'=>r= .returned (.bool (kwIn s))∧w=w':=by
 obtain⟨m,hm⟩:=hw
 subst hK
 refine(Tryz.strings_Contains _ _ m w (by show((kwText.map UInt8.ofNat).toArray).size<_;decide+kernel) hm).mono ?_
 rintro e w' ⟨rfl,rfl⟩
 exact⟨rfl,rfl⟩
theorem name_len0 {s:ByteArray} (h:s.size=0):nameB s=false:=by
 unfold nameB
 rw[show N s= [] from List.eq_nil_of_length_eq_zero (by rw[N_len];exact h)]
 rfl
theorem name_long {s:ByteArray} (h:¬s.size≤24):nameB s=false:=by
 unfold nameB nameL
 rw[N_len]
 simp[h]
theorem N_head {s:ByteArray} (h:0<s.size):∃r,N s=s[0].toNat::r:=by
 have h1:=N_get s 0 h
 cases hN:N s with
 |nil=>rw[hN]at h1;cases h1
 |cons a l=>rw[hN]at h1;simp at h1;rw[h1];exact⟨l,rfl⟩
theorem name_first {s:ByteArray} (h:0<s.size) (h1:isLow s[0].toNat=false):nameB s=false:=by
 obtain⟨r,hr⟩:=N_head h
 unfold nameB nameL
 rw[hr]
 simp only[fstLow]
 rw[h1];rfl
theorem name_any (s : ByteArray) (w : World) (hw : Sh w) (hm : s.size ≤ 9223372036854775807) : Calls Tryz.prog 115 #[.string s] w fun r w' => r = .returned (.bool (nameB s)) ∧ w = w' := by
  by_cases h0 : s.size = 0
  · have hL := name_len0 h0
    rw [hL]
    obtain rfl := empty_yes h0
    clear h0 hL
    go_enter Tryz.func115, Tryz.ntmps115
    go_wp2_with fail
    go_ret
    exact ⟨rfl, rfl⟩
  · have hne := empty_no h0
    have hne2 := empty_no2 h0
    have hpos : 0 < s.size := by omega
    by_cases h24 : s.size ≤ 24
    · have d24 : decide ((24 : Int) < (s.size : Int)) = false := by simp; omega
      have hsz : s.size ≤ 1000 := by omega
      by_cases h1 : 97 ≤ s[0].toNat
      · have d1 : decide ((s[0].toNat : Int) < (97 : Int)) = false := by simp; omega
        by_cases h2 : s[0].toNat ≤ 122
        · have d2 : decide ((122 : Int) < (s[0].toNat : Int)) = false := by simp; omega
          have HLow : Hid (isLow s[0].toNat = true) := by unfold Hid isLow; simp [h1, h2]
          have HC := hid (fun K => contains_any K s w hw)
          obtain ⟨b, hb⟩ : ∃ b, kwIn s = b := ⟨_, rfl⟩
          rw [hb] at HC
          cases b
          · have HN : Hid (nameB s = (N s).all isNmC) := by
              obtain ⟨r, hr⟩ := N_head hpos
              exact name_nokw hb _ r hr HLow.out h24
            clear hb h1 h2 hw h24
            go_enter Tryz.func115, Tryz.ntmps115
            go_wp2_with (go_at_call 181; refine (HC.out _ ?hk1).mono ?_; (case hk1 => kernel_rfl); rintro _ w2 ⟨rfl, rfl⟩)
            go_loop [3, 4, 30] (fun _ _ i => ∃ k : Nat, k ≤ s.size ∧ i = .int .i64 k ∧ ((N s).take k).all isNmC = true) (fun _ _ i => s.size - (intOf i).toNat)
            case atStart => exact ⟨0, Nat.zero_le _, rfl, rfl⟩
            case round =>
              obtain ⟨k, hk, rfl, hv⟩ := hrel
              have HV := hid hv
              clear hv
              by_cases hlt : k < s.size
              · have HS : Hid (isNmC s[k].toNat = true → ((N s).take (k + 1)).all isNmC = true) := fun h => all_step hlt HV.out h
                have HF : Hid (isNmC s[k].toNat = false → (N s).all isNmC = false) := fun h => all_no hlt h
                have HI : Hid (isNmC s[k].toNat = (decide (97 ≤ s[k].toNat) && decide (s[k].toNat ≤ 122) || s[k].toNat == 95 || decide (48 ≤ s[k].toNat) && decide (s[k].toNat ≤ 57))) := rfl
                go_wp2_with fail
                all_goals first
                  | (go_round
                     case rel =>
                       refine ⟨k + 1, by omega, by go_num, HS.out ?_⟩
                       rw [HI.out]
                       simp only [beq_iff_eq, bne_iff_ne, ne_eq, beq_eq_false_iff_ne, bne_eq_false_iff_eq, decide_eq_true_eq, decide_eq_false_iff_not, Bool.or_eq_true, Bool.and_eq_true] at *
                       omega
                     case measure => simp [intOf]; omega)
                  | (go_ret
                     refine ⟨ret_bool ?_, rfl⟩
                     rw [HN.out]
                     symm
                     apply HF.out
                     rw [HI.out, ← Bool.not_eq_true]
                     simp only [beq_iff_eq, bne_iff_ne, ne_eq, beq_eq_false_iff_ne, bne_eq_false_iff_eq, decide_eq_true_eq, decide_eq_false_iff_not, Bool.or_eq_true, Bool.and_eq_true] at *
                     omega)
              · have HP : Hid ((N s).all isNmC = true) := all_end (by omega) HV.out
                go_wp2_with fail
                go_ret
                exact ⟨ret_bool (by rw [HN.out, HP.out]), rfl⟩
          · have HN : Hid (nameB s = false) := name_kw hb
            clear hb h1 h2 hw h24
            go_enter Tryz.func115, Tryz.ntmps115
            go_wp2_with (go_at_call 181; refine (HC.out _ ?hk1).mono ?_; (case hk1 => kernel_rfl); rintro _ w2 ⟨rfl, rfl⟩)
            go_ret
            exact ⟨ret_bool HN.out.symm, rfl⟩
        · have HN : Hid (nameB s = false) := name_first hpos (by unfold isLow; simp [h2])
          have d2 : decide ((122 : Int) < (s[0].toNat : Int)) = true := by simp; omega
          clear h1 h2 hw h24
          go_enter Tryz.func115, Tryz.ntmps115
          go_wp2_with fail
          go_ret
          exact ⟨ret_bool HN.out.symm, rfl⟩
      · have HN : Hid (nameB s = false) := name_first hpos (by unfold isLow; simp [h1])
        have d1 : decide ((s[0].toNat : Int) < (97 : Int)) = true := by simp; omega
        clear h1 hw h24
        go_enter Tryz.func115, Tryz.ntmps115
        go_wp2_with fail
        go_ret
        exact ⟨ret_bool HN.out.symm, rfl⟩
    · have HN : Hid (nameB s = false) := name_long h24
      have d24 : decide ((24 : Int) < (s.size : Int)) = true := by simp; omega
      clear hw h24
      go_enter Tryz.func115, Tryz.ntmps115
      go_wp2_with fail
      go_ret
      exact ⟨ret_bool HN.out.symm, rfl⟩
def kwStr (k:Nat):ByteArray:=S (kwWords.getD k [])
def kwB (s:ByteArray):Bool:=kwWords.contains (N s)
def kwVals:List Value:=kwWords.map fun l=> .string (S l)
theorem kwVals_get (k:Nat) (h:k<47):kwVals[k]? =some (.string (kwStr k)):=by
 have h':k<kwWords.length:=h
 unfold kwVals kwStr
 rw[List.getElem?_map,List.getD_eq_getElem?_getD,List.getElem?_eq_getElem h']
 rfl
theorem kw_small:∀l∈kwWords,∀x∈l,x<256:=by decide+kernel
theorem kw_hit {s:ByteArray} {k:Nat} (hk:k<47) (h:N (kwStr k)=N s):kwB s=true:=by
 unfold kwB
 have h':k<kwWords.length:=hk
 rw[List.contains_iff_mem,←h]
 unfold kwStr
 rw[List.getD_eq_getElem?_getD,List.getElem?_eq_getElem h',Option.getD_some,N_S _ (kw_small _ (List.getElem_mem h'))]
 exact List.getElem_mem h'
theorem kw_miss {s:ByteArray} (h:∀k,k<47→N (kwStr k)≠N s):kwB s=false:=by
 unfold kwB
 rw[←Bool.not_eq_true,List.contains_iff_mem]
 intro hm
 obtain⟨k,hk,he⟩:=List.getElem_of_mem hm
 apply h k hk
 unfold kwStr
 rw[List.getD_eq_getElem?_getD,List.getElem?_eq_getElem hk,Option.getD_some,N_S _ (kw_small _ (List.getElem_mem hk))]
 exact he
theorem keyword_any (s:ByteArray) (w:World):Calls Tryz.prog 216 #[.string s] w fun r w'=>r= .returned (.bool (kwB s))∧Ext w w':=by
 have HB:Hid (Blk (w.alloc (.cells kwVals.toArray 9)) w.heap.size 9 kwVals):=Blk.of_new w 9 kwVals
 have HX:Hid (Ext w (w.alloc (.cells kwVals.toArray 9))):=(Ext.refl w).alloc _
 go_enter Tryz.func216,Tryz.ntmps216
 go_wp2_with fail
 obtain⟨w1,hw1⟩:∃w1,w.alloc (.cells kwVals.toArray 9)=w1:=⟨_,rfl⟩
 rw[hw1]at HB HX
 change Code.wp _ _ _ _ (w.alloc (.cells kwVals.toArray 9))
 rw[hw1]
 clear hw1
 generalize w.heap.size=g at*
 go_loop [4] (fun i=> ∃k:Nat,k≤47∧i= .int .i64 k∧∀j,j<k→N (kwStr j)≠N s) (fun i=>47- (intOf i).toNat)
 case atStart=>exact⟨0,Nat.zero_le _,rfl,fun j hj=>absurd hj (Nat.not_lt_zero _)⟩
 case round=>
  obtain⟨k,hk,rfl,hno⟩:=hrel
  have HN:=hid hno
  clear hno
  by_cases hlt:k<47
  ·have hc:=(HB.out.cell k).trans (kwVals_get k hlt)
   by_cases he:N (kwStr k)=N s
   ·have b1:((kwStr k).toList==s.toList)=true:=by rw[str_eq,he];simp
    have HR:=hid (kw_hit hlt he)
    clear he
    generalize kwStr k=t at*
    go_wp2_with fail
    go_ret
    exact⟨ret_bool HR.out.symm,HX.out⟩
   ·have b1:((kwStr k).toList==s.toList)=false:=by rw[str_eq,beq_eq_false_iff_ne];exact he
    have HE:=hid he
    clear he
    have HQ:Hid (∀j,j<k+1→N (kwStr j)≠N s):=by
     intro j hj
     rcases Nat.lt_or_ge j k with h|h
     ·exact HN.out j h
     ·obtain rfl:j=k:=by omega
      exact HE.out
    clear HN HE
    generalize kwStr k=t at*
    go_wp2_with fail
    go_round
    case rel=>exact⟨k+1,by omega,by go_num,HQ.out⟩
    case measure=>simp[intOf];omega
  ·obtain rfl:k=47:=by omega
   go_wp2_with fail
   go_ret
   exact⟨ret_bool (kw_miss HN.out).symm,HX.out⟩
theorem rname_bits (s:ByteArray):nameB s=(fstLow (N s) && (N s).all isNmC&&decide (s.size≤24) &&!kwB s):=by unfold nameB nameL kwB;rw[N_len]
def chOk (k c:Nat):Bool:=isLow c||k !=0&&isNmC c
theorem chOk_all {s:ByteArray} {k:Nat} (hk:k<s.size) (h:∀j (hj:j<s.size),j<k→chOk j s[j].toNat=true) (h1:chOk k s[k].toNat=true):∀j (hj:j<s.size),j<k+1→chOk j s[j].toNat=true:=by
 intro j hj hlt
 rcases Nat.lt_or_ge j k with h2|h2
 ·exact h j hj h2
 ·obtain rfl:j=k:=by omega
  exact h1
theorem chOk_no {s:ByteArray} {k:Nat} (hk:k<s.size) (h:chOk k s[k].toNat=false):nameB s=false:=by
 unfold chOk at h
 rw[Bool.or_eq_false_iff]at h
 by_cases h0:k=0
 ·subst h0
  exact name_first hk h.1
 ·have h1:isNmC s[k].toNat=false:=by
   have:=h.2
   rw[Bool.and_eq_false_iff]at this
   rcases this with h2|h2
   ·simp at h2;exact absurd h2 h0
   ·exact h2
  rw[rname_bits,all_no hk h1]
  simp
theorem chOk_yes {s:ByteArray} (h:∀j (hj:j<s.size),j<s.size→chOk j s[j].toNat=true):nameB s=(decide (0<s.size) &&decide (s.size≤24) &&!kwB s):=by
 rw[rname_bits]
 by_cases hp:0<s.size
 ·obtain⟨r,hr⟩:=N_head hp
  have h1:=h 0 hp hp
  have h2:fstLow (N s)=true:=by
   rw[hr]
   simpa[fstLow,chOk] using h1
  have h3:(N s).all isNmC=true:=by
   rw[List.all_eq_true]
   intro x hx
   obtain⟨j,hj,he⟩:=List.getElem_of_mem hx
   rw[N_len]at hj
   have h4:=h j hj hj
   have h5:=N_get s j hj
   rw[List.getElem?_eq_getElem (by rw[N_len];exact hj)]at h5
   have h6:x=s[j].toNat:=by rw[←he];exact Option.some.inj h5
   rw[h6]
   unfold chOk at h4
   rw[Bool.or_eq_true,Bool.and_eq_true]at h4
   rcases h4 with h4|h4
   ·unfold isNmC;rw[h4];rfl
   ·exact h4.2
  rw[h2,h3];simp[hp]
 ·have hN:N s= []:=List.eq_nil_of_length_eq_zero (by rw[N_len];omega)
  rw[hN]
  simp[fstLow,hp]
theorem rname_any (s : ByteArray) (w : World) (hm : s.size ≤ 9223372036854775807) : Calls Tryz.prog 144 #[.string s] w fun r w' => r = .returned (.bool (nameB s)) ∧ Ext w w' := by
  go_enter Tryz.func144, Tryz.ntmps144
  go_wp2_with fail
  go_loop [3, 4] (fun i _ => ∃ k : Nat, k ≤ s.size ∧ i = .int .i64 k ∧ ∀ j (hj : j < s.size), j < k → chOk j s[j].toNat = true) (fun i _ => s.size - (intOf i).toNat)
  case atStart => exact ⟨0, Nat.zero_le _, rfl, fun j _ h => absurd h (Nat.not_lt_zero _)⟩
  case round =>
    obtain ⟨k, hk, rfl, hno⟩ := hrel
    have HV := hid hno
    clear hno
    by_cases hlt : k < s.size
    · have HS : Hid (chOk k s[k].toNat = true → ∀ j (hj : j < s.size), j < k + 1 → chOk j s[j].toNat = true) := fun h => chOk_all hlt HV.out h
      have HF : Hid (chOk k s[k].toNat = false → nameB s = false) := fun h => chOk_no hlt h
      have HI : Hid (chOk k s[k].toNat = (decide (97 ≤ s[k].toNat) && decide (s[k].toNat ≤ 122) || k != 0 && (decide (97 ≤ s[k].toNat) && decide (s[k].toNat ≤ 122) || s[k].toNat == 95 || decide (48 ≤ s[k].toNat) && decide (s[k].toNat ≤ 57)))) := rfl
      clear HV
      by_cases hk0 : k = 0
      · have HK0 := hid hk0
        have b0 : ((k : Int) == 0) = true := by rw [hk0]; rfl
        clear hk0
        go_wp2_with fail
        all_goals first
          | (go_round
             case rel =>
               refine ⟨k + 1, by omega, by go_num, HS.out ?_⟩
               rw [HI.out]
               have hk0 := HK0.out
               simp only [beq_iff_eq, bne_iff_ne, ne_eq, beq_eq_false_iff_ne, bne_eq_false_iff_eq, decide_eq_true_eq, decide_eq_false_iff_not, Bool.or_eq_true, Bool.and_eq_true, Bool.not_eq_true', Bool.not_eq_false'] at * <;> omega
             case measure => simp [intOf]; omega)
          | (go_ret
             refine ⟨ret_bool ?_, Ext.refl w⟩
             symm
             apply HF.out
             rw [HI.out, ← Bool.not_eq_true]
             have hk0 := HK0.out
             simp only [beq_iff_eq, bne_iff_ne, ne_eq, beq_eq_false_iff_ne, bne_eq_false_iff_eq, decide_eq_true_eq, decide_eq_false_iff_not, Bool.or_eq_true, Bool.and_eq_true, Bool.not_eq_true', Bool.not_eq_false'] at * <;> omega)
      · have HK0 := hid hk0
        have b0 : ((k : Int) == 0) = false := by rw [beq_eq_false_iff_ne]; omega
        clear hk0
        go_wp2_with fail
        all_goals first
          | (go_round
             case rel =>
               refine ⟨k + 1, by omega, by go_num, HS.out ?_⟩
               rw [HI.out]
               have hk0 := HK0.out
               simp only [beq_iff_eq, bne_iff_ne, ne_eq, beq_eq_false_iff_ne, bne_eq_false_iff_eq, decide_eq_true_eq, decide_eq_false_iff_not, Bool.or_eq_true, Bool.and_eq_true, Bool.not_eq_true', Bool.not_eq_false'] at * <;> omega
             case measure => simp [intOf]; omega)
          | (go_ret
             refine ⟨ret_bool ?_, Ext.refl w⟩
             symm
             apply HF.out
             rw [HI.out, ← Bool.not_eq_true]
             have hk0 := HK0.out
             simp only [beq_iff_eq, bne_iff_ne, ne_eq, beq_eq_false_iff_ne, bne_eq_false_iff_eq, decide_eq_true_eq, decide_eq_false_iff_not, Bool.or_eq_true, Bool.and_eq_true, Bool.not_eq_true', Bool.not_eq_false'] at * <;> omega)
    · obtain rfl : k = s.size := by omega
      have HN := hid (chOk_yes HV.out)
      have HK := hid (keyword_any s w)
      clear HV
      by_cases h0 : 0 < s.size
      · by_cases h1 : s.size ≤ 24
        · have d0 : decide ((0 : Int) < (s.size : Int)) = true := by simp; omega
          have d2 : decide (0 < s.size) = true := by simpa using h0
          have d1 : decide ((s.size : Int) ≤ (24 : Int)) = true := by simp; omega
          have HN2 : Hid (nameB s = !kwB s) := by unfold Hid; rw [HN.out]; simp [h0, h1]
          clear h1
          go_wp2_with (go_at_call 216; refine HK.out.mono ?_; rintro _ w2 ⟨rfl, hx2⟩)
          go_ret
          exact ⟨ret_bool HN2.out.symm, hx2⟩
        · have d0 : decide ((0 : Int) < (s.size : Int)) = true := by simp; omega
          have d2 : decide (0 < s.size) = true := by simpa using h0
          have d1 : decide ((s.size : Int) ≤ (24 : Int)) = false := by simp; omega
          have HN2 : Hid (nameB s = false) := by unfold Hid; rw [HN.out]; simp [h1]
          clear h1
          go_wp2_with fail
          go_ret
          exact ⟨ret_bool HN2.out.symm, Ext.refl w⟩
      · have d0 : decide ((0 : Int) < (s.size : Int)) = false := by simpa using h0
        have d2 : decide (0 < s.size) = false := by simpa using h0
        have HN2 : Hid (nameB s = false) := by unfold Hid; rw [HN.out]; simp [h0]
        go_wp2_with fail
        go_ret
        exact ⟨ret_bool HN2.out.symm, Ext.refl w⟩
end Go.Proofs.YtjigcpfjhfoheaaGreatDoor
