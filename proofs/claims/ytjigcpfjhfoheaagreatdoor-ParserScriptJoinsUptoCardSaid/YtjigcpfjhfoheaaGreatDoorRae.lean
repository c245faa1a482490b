/- A whole block loaded, in a plain region and in one that draws its order; Walks: weight, Nodes, Depth; Walks: Nodes, Depth; Walks: counted, upTo; Walks: the search in a slice of expressions; Walks: small functions on nodes; Walks: . -/
import Derived.Test.YtjigcpfjhfoheaaGreatDoorRaa
import Derived.Laws.Rows
import Derived.Deep.Quiet
import Derived.Test.YtjigcpfjhfoheaaGreatDoorProg
import Derived.Lib.Strings
import Derived.Lib.IndexMore
import Derived.Test.YtjigcpfjhfoheaaGreatDoorShelf
namespace Go.Proofs.YtjigcpfjhfoheaaGreatDoor
open Go.RowKit
set_option maxHeartbeats 4000000
set_option maxRecDepth 100000
set_option linter.unusedVariables false
set_option linter.unusedSimpArgs false
section
section
variable {P:Program}
theorem am {ops:Array Oper} {rest:List Oper} {o:Oper} {a:Act} {w:World} {Q:Exit→Act→World→Prop} (b:o.guard=none) (ty:TypeId) (x:Operand) (f:o.op= .load ty x)
  (g:Nat) (j:a.eval x= .pointer (some ⟨g,0,none⟩)) (t:TypeId) (cs:List Value) (d:TypeDesc) (e:Blk w g t cs)
  (i:P.underlying ty=some d) (hd:(match d with| .struct _| .array _ _=>true|_=>false)=true) (hi:(P.info? ty).map (·.size)=some cs.length)
  (h:wpList P ops Q rest (a.put o.dst (.agg cs.toArray)) w):wpList P ops Q (o::rest) a w:=
 wpList_load_row b ty x f g j t cs.toArray (0,0) d e i hd (by simpa using hi) h
theorem aW {ops:Array Oper} {C:World→Prop} {Q:Act→Prop} {rest:List Oper} {o:Oper} {a:Act} (b:o.guard=none) (ty:TypeId) (x:Operand) (i:o.op= .load ty x)
  (g:Nat) (l:a.eval x= .pointer (some ⟨g,0,none⟩)) (t:TypeId) (cs:List Value) (d:TypeDesc) (f:∀w,C w→Blk w g t cs)
  (j:P.underlying ty=some d) (hd:(match d with| .struct _| .array _ _=>true|_=>false)=true) (hi:(P.info? ty).map (·.size)=some cs.length)
  (h:wpQuiet P ops C Q rest (a.put o.dst (.agg cs.toArray))):wpQuiet P ops C Q (o::rest) a:=by
 unfold wpQuiet
 have k:Region.wanted o (yielded ops a.tmps)=true:=by simp[Region.wanted,b]
 rw[if_pos k]
 refine⟨.agg cs.toArray,fun w e=>?_,h⟩
 unfold Oper.quietAt execOp
 simp only[i,l,Instr.loadAt,Instr.sureAddr,Sem.run_bind,Sem.run_pure,Result.andThen_ok,run_loadVar_row w g t ty cs.toArray (0,0) d (f w e) j hd (by simpa using hi)]
 exact⟨rfl,rfl⟩
theorem ce {w:World} {g t:Nat} {cs:List Value} (h:Blk w g t cs):∀w',(∃x:ae w,w'=x.now)→Blk w' g t cs:=by
 rintro _ ⟨x,rfl⟩
 exact h.ext x.ext
end
end
theorem eT {l:List Ex} {i:Nat} {e:Ex} (h:l[i]? =some e):e∈l:=List.mem_of_getElem? h
theorem dI {l:List Ex} {i n:Nat} (a:l.length=n) (h:i<n):∃e,l[i]? =some e:=⟨_,List.getElem?_eq_getElem (by omega)⟩
theorem take_at {l:List Ex} {i:Nat} {e:Ex} (h:l[i]? =some e):l.take (i+1)=l.take i++ [e]:=by
 obtain⟨hi,rfl⟩:=List.getElem?_eq_some_iff.1 h
 exact List.take_succ_eq_append_getElem hi
theorem gc (d:Nd) (ks:List Ex):(Ex.mk d ks).nodes=(if d.op=0 then 0 else 1)+nodesL ks:=rfl
theorem lj {l:List Ex} {k:Nat} {e:Ex} (h:l[k]? =some e):nodesL (l.take (k+1))=nodesL (l.take k)+e.nodes:=by
 rw[take_at h,co,nodesL,nodesL,Nat.add_zero]
theorem lk {l:List Ex} {k:Nat} {e:Ex} (h:l[k]? =some e):bj (l.take (k+1))=max (bj (l.take k)) e.depth:=by
 rw[take_at h,ql,bj,bj];omega
theorem jJ {l:List Ex} {e:Ex} (h:e∈l):e.nodes≤nodesL l:=by
 induction l with
 |nil=>cases h
 |cons a l ih=>
  rw[nodesL]
  rcases List.mem_cons.1 h with rfl|h
  ·omega
  ·have:=ih h;omega
theorem depth_any:∀(e:Ex) (A:Option Addr) (n c:Nat) (w:World),ExV w e A n c→e.nodes≤100000000→
  Calls Tryz.prog 113 #[e.d.val A n c] w fun r w'=>r= .returned (.int .i64 (e.depth:Int))∧Ext w w':=by
 intro e
 induction e using Ex.ind with
 |h d ks ih=>
  intro A n c w hv K
  obtain⟨I,h2,W,J⟩:=hv
  have F:Hid (ks.length=n):=I
  have R:Hid (KidsAt w A ks):=J
  have Q:=hid ih
  have p:nodesL ks≤100000000:=by rw[gc]at K;omega
  have u:=hid p
  have HD:Hid (bj ks≤nodesL ks):=(dq ks).1
  clear I J ih W K p
  have x:Hid ((Ex.mk d ks).depth=(if d.op=0 then 0 else 1)+bj ks):=rfl
  unfold Nd.val
  simp only[Ex.d]
  obtain⟨op,tb,nm,ix,vk,vi,vt⟩:=d
  simp only
  simp only at x
  have D:=hid (Blk.of_new w 37 (eC op tb nm ix vk vi vt A n c))
  have y:=hid ((Ext.refl w).alloc (.cells #[.int .i64 op,.string tb,.string nm,.int .i64 ix,.int .i64 vk,.int .i64 vi,.string vt,.slice A n c] 37))
  go_enter Tryz.func113,Tryz.ntmps113
  go_wp2_with fail
  generalize w.alloc (.cells #[.int .i64 op,.string tb,.string nm,.int .i64 ix,.int .i64 vk,.int .i64 vi,.string vt,.slice A n c] 37)=L at*
  generalize w.heap.size=g at*
  go_loopw [3,9] (fun nv iv wr=> ∃(r k:Nat),k≤n∧r≤100000000∧nv= .int .i64 r∧iv= .int .i64 k∧r=bj (ks.take k)∧Ext L wr) (fun _ i _=>n- (intOf i).toNat)
  case atStart=>exact⟨0,0,Nat.zero_le _,by omega,rfl,rfl,rfl,Ext.refl L⟩
  case round=>
   obtain⟨r,k,hk,Z,rfl,rfl,B,a⟩:=hrel
   have l:=hid a
   have j:=hid B
   have c7:=(D.ext a).cell 7
   have c0:=(D.ext a).cell 0
   simp only[List.getElem?_cons_succ,List.getElem?_cons_zero]at c7 c0
   by_cases z:k<n
   ·obtain⟨m,t⟩:=dI F z
    obtain⟨b,ac,O,n',c',rfl,q0,q1,q2,q3,q4,q5,q6,q7,s⟩:=((R.ext y).ext a).get t
    have V:=hid s
    have G:=hid (eT t)
    have U:=hid (lk t)
    have E:Hid (m.nodes≤100000000):=by unfold Hid;have:=jJ G;have:=u.out;omega
    have Y:m.depth≤100000000:=by have:=(dq [m]).2 m (by simp);have:=E.out;omega
    clear t s a B
    go_wp2_with (go_at_call 113;refine(Q m G O n' c' _ (V.ext ((Ext.refl wr).alloc _)) E).mono ?_;rintro _ w2 ⟨rfl,C⟩)
    go_roundw
    case rel=>
     refine⟨max r m.depth,k+1,by omega,by omega,?_,by go_num,?_,(l.alloc _).trans C⟩
     ·congr 1;omega
     ·rw[U.out,j.out]
    case measure=>simp[intOf];omega
   ·obtain rfl:k=n:=by omega
    have H:Hid (ks.take k=ks):=List.take_of_length_le (Nat.le_of_eq F)
    clear B
    by_cases o:op=0
    ·have X:(op !=0)=false:=by simp[o]
     have f:Hid ((Ex.mk ⟨op,tb,nm,ix,vk,vi,vt⟩ ks).depth=r):=by unfold Hid;rw[x.out,if_pos o,j.out,H.out,Nat.zero_add]
     clear o
     go_wp2_with fail
     go_ret
     exact⟨aS (by rw[f.out]),y.trans l⟩
    ·have X:(op !=0)=true:=by simpa using o
     have f:Hid (((Ex.mk ⟨op,tb,nm,ix,vk,vi,vt⟩ ks).depth:Int)=(r:Int)+1):=by unfold Hid;rw[x.out,if_neg o,j.out,H.out];omega
     clear o
     go_wp2_with fail
     go_ret
     exact⟨aS (by rw[f.out]),y.trans l⟩
theorem ll:∀(e:Ex) (A:Option Addr) (n c:Nat) (w:World),ExV w e A n c→e.nodes≤100000000→
  Calls Tryz.prog 74 #[e.d.val A n c] w fun r w'=>r= .returned (.int .i64 (e.depth:Int))∧Ext w w':=by
 intro e
 induction e using Ex.ind with
 |h d ks ih=>
  intro A n c w hv K
  obtain⟨I,h2,W,J⟩:=hv
  have F:Hid (ks.length=n):=I
  have R:Hid (KidsAt w A ks):=J
  have Q:=hid ih
  have p:nodesL ks≤100000000:=by rw[gc]at K;omega
  have u:=hid p
  have HD:Hid (bj ks≤nodesL ks):=(dq ks).1
  clear I J ih W K p
  have x:Hid ((Ex.mk d ks).depth=(if d.op=0 then 0 else 1)+bj ks):=rfl
  unfold Nd.val
  simp only[Ex.d]
  obtain⟨op,tb,nm,ix,vk,vi,vt⟩:=d
  simp only
  simp only at x
  have D:=hid (Blk.of_new w 37 (eC op tb nm ix vk vi vt A n c))
  have y:=hid ((Ext.refl w).alloc (.cells #[.int .i64 op,.string tb,.string nm,.int .i64 ix,.int .i64 vk,.int .i64 vi,.string vt,.slice A n c] 37))
  go_enter Tryz.func74,Tryz.ntmps74
  go_wp2_with fail
  generalize w.alloc (.cells #[.int .i64 op,.string tb,.string nm,.int .i64 ix,.int .i64 vk,.int .i64 vi,.string vt,.slice A n c] 37)=L at*
  generalize w.heap.size=g at*
  go_loopw [3,4] (fun nv iv wr=> ∃(r k:Nat),k≤n∧r≤100000000∧nv= .int .i64 r∧iv= .int .i64 k∧r=bj (ks.take k)∧Ext L wr) (fun _ i _=>n- (intOf i).toNat)
  case atStart=>exact⟨0,0,Nat.zero_le _,by omega,rfl,rfl,rfl,Ext.refl L⟩
  case round=>
   obtain⟨r,k,hk,Z,rfl,rfl,B,a⟩:=hrel
   have l:=hid a
   have j:=hid B
   have c7:=(D.ext a).cell 7
   have c0:=(D.ext a).cell 0
   simp only[List.getElem?_cons_succ,List.getElem?_cons_zero]at c7 c0
   by_cases z:k<n
   ·obtain⟨m,t⟩:=dI F z
    obtain⟨b,ac,O,n',c',rfl,q0,q1,q2,q3,q4,q5,q6,q7,s⟩:=((R.ext y).ext a).get t
    have V:=hid s
    have G:=hid (eT t)
    have U:=hid (lk t)
    have E:Hid (m.nodes≤100000000):=by unfold Hid;have:=jJ G;have:=u.out;omega
    have Y:m.depth≤100000000:=by have:=(dq [m]).2 m (by simp);have:=E.out;omega
    clear t s a B
    go_wp2_with (go_at_call 74;refine(Q m G O n' c' _ (V.ext (Ext.refl wr)) E).mono ?_;rintro _ w2 ⟨rfl,C⟩)
    go_roundw
    case rel=>
     refine⟨max r m.depth,k+1,by omega,by omega,?_,by go_num,?_,l.trans C⟩
     ·congr 1;omega
     ·rw[U.out,j.out]
    case measure=>simp[intOf];omega
   ·obtain rfl:k=n:=by omega
    have H:Hid (ks.take k=ks):=List.take_of_length_le (Nat.le_of_eq F)
    clear B
    by_cases o:op=0
    ·have X:(op !=0)=false:=by simp[o]
     have f:Hid ((Ex.mk ⟨op,tb,nm,ix,vk,vi,vt⟩ ks).depth=r):=by unfold Hid;rw[x.out,if_pos o,j.out,H.out,Nat.zero_add]
     clear o
     go_wp2_with fail
     go_ret
     exact⟨aS (by rw[f.out]),y.trans l⟩
    ·have X:(op !=0)=true:=by simpa using o
     have f:Hid (((Ex.mk ⟨op,tb,nm,ix,vk,vi,vt⟩ ks).depth:Int)=(r:Int)+1):=by unfold Hid;rw[x.out,if_neg o,j.out,H.out];omega
     clear o
     go_wp2_with fail
     go_ret
     exact⟨aS (by rw[f.out]),y.trans l⟩
theorem kid_nodes {l:List Ex} {k:Nat} {d:Nd} {ks:List Ex} (h:l[k]? =some (.mk d ks)):nodesL (l.take (k+1))=nodesL (l.take k)+((if d.op=0 then 0 else 1)+nodesL ks):=lj h
theorem ln (l:List Ex) (k:Nat):nodesL (l.take k)≤nodesL l:=by
 have:=co (l.take k) (l.drop k)
 rw[List.take_append_drop]at this
 omega
theorem size_ks (d:Nd) (ks:List Ex):(Ex.mk d ks).size=1+sizeL ks:=rfl
theorem pg:∀(N:Nat) (l:List Ex) (A:Option Addr) (n c L:Nat) (w:World),sizeL l≤N→l.length=n→n≤9223372036854775807→KidsAt w A l→L≤100000→
  Calls Tryz.prog 110 #[.slice A n c,.int .i64 (L:Int)] w fun r w'=>r= .returned (.int .i64 ((min (nodesL l) (L+1):Nat):Int))∧Ext w w':=by
 intro N
 induction N with
 |zero=>
  intro l A n c L w J I hn Q hL
  have:l= []:=by
   cases l with
   |nil=>rfl
   |cons a l=>rw[sizeL]at J;have:=cJ a;omega
  subst this
  obtain rfl:n=0:=I.symm
  go_enter Tryz.func110,Tryz.ntmps110
  go_wp2_with fail
  go_loop [5,10] (fun Y X=>Y= .int .i64 0∧X= .int .i64 0) (fun _ _=>0)
  case atStart=>exact⟨rfl,rfl⟩
  case round=>
   obtain⟨rfl,rfl⟩:=hrel
   go_wp2_with fail
   go_ret
   exact⟨aS (by simp[nodesL]),Ext.refl w⟩
 |succ N ih=>
  intro l A n c L w J I hn Q hL
  have HZ:=hid J
  have HL:=hid I
  have HK:=hid Q
  have HI:=hid ih
  clear J I Q ih
  go_enter Tryz.func110,Tryz.ntmps110
  go_wp2_with fail
  go_loopw [5,10] (fun Y X wr=> ∃(r k:Nat),k≤n∧r≤L∧Y= .int .i64 r∧X= .int .i64 k∧r=nodesL (l.take k)∧Ext w wr) (fun _ i _=>n- (intOf i).toNat)
  case atStart=>exact⟨0,0,Nat.zero_le _,Nat.zero_le _,rfl,rfl,rfl,Ext.refl w⟩
  case round=>
   obtain⟨r,k,ac,ad,rfl,rfl,V,t⟩:=hrel
   have j:=hid t
   have p:=hid V
   by_cases R:k<n
   ·obtain⟨e',H⟩:=dI HL R
    obtain⟨b,ag,E,D,c',rfl,q0,q1,q2,q3,q4,q5,q6,q7,s⟩:=(HK.ext t).get H
    have F:=hid s
    have HM:=hid (eT H)
    obtain⟨⟨op,tb,nm,ix,vk,vi,vt⟩,ks⟩:=e'
    simp only[Ex.d]at q0 q1 q2 q3 q4 q5 q6
    have HS:=hid (kid_nodes H)
    have B:D≤9223372036854775807:=s.le
    have y:Hid (sizeL ks≤N):=by unfold Hid;have:=dU HM;rw[size_ks]at this;have:=HZ.out;omega
    have z:=hid (ln l (k+1))
    clear H s t V
    by_cases u:op=0
    ·have hb:(op !=0)=false:=by simp[u]
     have h:Hid (nodesL (l.take (k+1))=r+nodesL ks):=by unfold Hid;rw[HS.out,if_pos u,←p.out,Nat.zero_add]
     obtain⟨m,C⟩:∃m,min (nodesL ks) (L-r+1)=m:=⟨_,rfl⟩
     have f:=hid C
     have U:m≤100001:=by omega
     clear u C
     have o:((L-r:Nat):Int)=(L:Int)- (r:Int):=by omega
     have x:Hid (∀W,Ext wr W→Calls Tryz.prog 110 #[.slice E D c',.int .i64 ((L:Int)- (r:Int))] W fun r w'=>r= .returned (.int .i64 (m:Int))∧Ext W w'):=by
      intro W O
      rw[←o,←f.out]
      exact HI ks E D c' (L-r) W y F.len B (F.kids.ext O) (by omega)
     clear o
     by_cases K:r+m≤L
     ·have e:Hid (r+m=nodesL (l.take (k+1))):=by unfold Hid;have:=f.out;rw[h.out];omega
      have G:decide ((L:Int)<(r:Int)+(m:Int))=false:=by simp;omega
      go_wp2_with (go_at_call 110;refine(x _ ((Ext.refl wr).alloc _)).mono ?_;rintro _ Z ⟨rfl,g⟩)
      go_roundw
      case rel=>exact⟨r+m,k+1,by omega,by omega,by go_num,by go_num,e,(j.alloc _).trans g⟩
      case measure=>simp[intOf];omega
     ·have e:Hid (r+m=L+1∧L+1≤nodesL l):=by unfold Hid;have:=f.out;have:=h.out;have:=z.out;omega
      have G:decide ((L:Int)<(r:Int)+(m:Int))=true:=by simp;omega
      clear K
      go_wp2_with (go_at_call 110;refine(x _ ((Ext.refl wr).alloc _)).mono ?_;rintro _ Z ⟨rfl,g⟩)
      go_ret
      exact⟨aS (by have:=e.out;omega),(j.alloc _).trans g⟩
    ·have hb:(op !=0)=true:=by simpa using u
     have h:Hid (nodesL (l.take (k+1))=r+1+nodesL ks):=by unfold Hid;rw[HS.out,if_neg u,←p.out,Nat.add_assoc]
     clear u
     by_cases h1:r+1≤L
     ·obtain⟨m,C⟩:∃m,min (nodesL ks) (L- (r+1)+1)=m:=⟨_,rfl⟩
      have f:=hid C
      have U:m≤100001:=by omega
      clear C
      have o:((L- (r+1):Nat):Int)=(L:Int)- ((r:Int)+1):=by omega
      have x:Hid (∀W,Ext wr W→Calls Tryz.prog 110 #[.slice E D c',.int .i64 ((L:Int)- ((r:Int)+1))] W fun r w'=>r= .returned (.int .i64 (m:Int))∧Ext W w'):=by
       intro W O
       rw[←o,←f.out]
       exact HI ks E D c' (L- (r+1)) W y F.len B (F.kids.ext O) (by omega)
      clear o
      have g1:decide ((r:Int)+1≤(L:Int))=true:=by simp;omega
      by_cases K:r+1+m≤L
      ·have e:Hid (r+1+m=nodesL (l.take (k+1))):=by unfold Hid;have:=f.out;rw[h.out];omega
       have G:decide ((L:Int)<(r:Int)+1+(m:Int))=false:=by simp;omega
       go_wp2_with (go_at_call 110;refine(x _ ((Ext.refl wr).alloc _)).mono ?_;rintro _ Z ⟨rfl,g⟩)
       go_roundw
       case rel=>exact⟨r+1+m,k+1,by omega,by omega,by go_num,by go_num,e,(j.alloc _).trans g⟩
       case measure=>simp[intOf];omega
      ·have e:Hid (r+1+m=L+1∧L+1≤nodesL l):=by unfold Hid;have:=f.out;have:=h.out;have:=z.out;omega
       have G:decide ((L:Int)<(r:Int)+1+(m:Int))=true:=by simp;omega
       clear K
       go_wp2_with (go_at_call 110;refine(x _ ((Ext.refl wr).alloc _)).mono ?_;rintro _ Z ⟨rfl,g⟩)
       go_ret
       exact⟨aS (by have:=e.out;omega),(j.alloc _).trans g⟩
     ·have e:Hid (r=L∧L+1≤nodesL l):=by unfold Hid;have:=h.out;have:=z.out;omega
      have g1:decide ((r:Int)+1≤(L:Int))=false:=by simp;omega
      have G:decide ((L:Int)<(r:Int)+1)=true:=by simp;omega
      clear h1
      go_wp2_with fail
      go_ret
      exact⟨aS (by have:=e.out;omega),j.alloc _⟩
   ·obtain rfl:k=n:=by omega
    have z:Hid (l.take k=l):=List.take_of_length_le (Nat.le_of_eq HL)
    clear V
    go_wp2_with fail
    go_ret
    exact⟨aS (by rw[←z.out,←p.out];omega),j⟩
theorem ph:∀(e:Ex) (A:Option Addr) (n c L:Nat) (w:World),ExV w e A n c→L≤100000→
  Calls Tryz.prog 73 #[e.d.val A n c,.int .i64 (L:Int)] w fun r w'=>r= .returned (.int .i64 ((min e.nodes (L+1):Nat):Int))∧Ext w w':=by
 intro e
 induction e using Ex.ind with
 |h d ks ih=>
  intro A n c L w hv hL
  obtain⟨O,h2,h3,W⟩:=hv
  have V:Hid (ks.length=n):=O
  have HK:Hid (KidsAt w A ks):=W
  have HI:=hid ih
  clear O W ih h3
  have C:=hid (gc d ks)
  unfold Nd.val
  simp only[Ex.d]
  obtain⟨op,tb,nm,ix,vk,vi,vt⟩:=d
  simp only
  simp only at C
  have HB:=hid (Blk.of_new w 37 (eC op tb nm ix vk vi vt A n c))
  have J:=hid ((Ext.refl w).alloc (.cells #[.int .i64 op,.string tb,.string nm,.int .i64 ix,.int .i64 vk,.int .i64 vi,.string vt,.slice A n c] 37))
  obtain⟨a,u,ac,j⟩:∃(a:Nat) (u:Bool),(op !=0)=u∧(u=true∧a=1∨u=false∧a=0)∧(Ex.mk ⟨op,tb,nm,ix,vk,vi,vt⟩ ks).nodes=a+nodesL ks:=by
   by_cases h:op=0
   ·exact⟨0,false,by simp[h],.inr ⟨rfl,rfl⟩,by rw[C.out,if_pos h]⟩
   ·exact⟨1,true,by simpa using h,.inl ⟨rfl,rfl⟩,by rw[C.out,if_neg h]⟩
  obtain⟨x,j⟩:=j
  have G:Hid (∃a:Nat,(Ex.mk ⟨op,tb,nm,ix,vk,vi,vt⟩ ks).nodes=a+nodesL ks∧(u=true∧a=1∨u=false∧a=0)):=⟨a,j,x⟩
  clear j C
  rcases x with ⟨rfl,rfl⟩|⟨rfl,rfl⟩
  all_goals
   go_enter Tryz.func73,Tryz.ntmps73
   go_wp2_with fail
   generalize w.alloc (.cells #[.int .i64 op,.string tb,.string nm,.int .i64 ix,.int .i64 vk,.int .i64 vi,.string vt,.slice A n c] 37)=Z at*
   generalize w.heap.size=g at*
   go_loopw [5,6] (fun nv iv wr=> ∃(r k:Nat),k≤n∧r≤L+1∧nv= .int .i64 r∧iv= .int .i64 k∧(∃a:Nat,(Ex.mk ⟨op,tb,nm,ix,vk,vi,vt⟩ ks).nodes=a+nodesL ks∧r=min (a+nodesL (ks.take k)) (L+1))∧Ext Z wr) (fun _ i _=>n- (intOf i).toNat)
   case atStart=>
    obtain⟨a,t,f⟩:=G.out
    refine⟨a,0,Nat.zero_le _,by omega,?_,rfl,⟨a,t,by simp[nodesL];omega⟩,Ext.refl Z⟩
    rcases f with ⟨f,rfl⟩|⟨f,rfl⟩
    ·first|rfl|cases f
    ·first|rfl|cases f
   case round=>
    obtain⟨r,k,hk,ag,rfl,rfl,E,l⟩:=hrel
    have s:=hid l
    have p:=hid E
    have c7:=(HB.ext l).cell 7
    simp only[List.getElem?_cons_succ,List.getElem?_cons_zero]at c7
    by_cases Q:k<n
    ·by_cases z:r≤L
     ·obtain⟨K,D⟩:=dI V Q
      obtain⟨b,an,U,Y,c',rfl,q0,q1,q2,q3,q4,q5,q6,q7,B⟩:=((HK.ext J).ext l).get D
      have HV:=hid B
      have HM:=hid (eT D)
      have HS:=hid (lj D)
      obtain⟨m,X⟩:∃m,min K.nodes (L-r+1)=m:=⟨_,rfl⟩
      have o:=hid X
      have ad:m≤100001:=by omega
      clear X
      have y:((L-r:Nat):Int)=(L:Int)- (r:Int):=by omega
      have HC:Hid (Calls Tryz.prog 73 #[K.d.val U Y c',.int .i64 ((L:Int)- (r:Int))] wr fun r w'=>r= .returned (.int .i64 (m:Int))∧Ext wr w'):=by
       unfold Hid
       rw[←y,←o.out]
       exact HI K HM U Y c' (L-r) _ HV (by omega)
      have g1:decide ((r:Int)≤(L:Int))=true:=by simp;omega
      have H:Hid (∀a:Nat,r=min (a+nodesL (ks.take k)) (L+1)→r+m=min (a+nodesL (ks.take (k+1))) (L+1)):=by
       intro a h
       have O:=o.out
       rw[HS.out]
       omega
      clear D B l E y
      go_wp2_with (go_at_call 73;refine HC.mono ?_;rintro _ w2 ⟨rfl,R⟩)
      go_roundw
      case rel=>
       obtain⟨a,t,f⟩:=p.out
       refine⟨r+m,k+1,by omega,by have:=o.out;omega,by go_num,by go_num,⟨a,t,H a f⟩,s.trans R⟩
      case measure=>simp[intOf];omega
     ·have g1:decide ((r:Int)≤(L:Int))=false:=by simp;omega
      have I:=hid (ln ks k)
      have F:=hid z
      clear E z
      go_wp2_with fail
      go_ret
      obtain⟨a,t,f⟩:=p.out
      exact⟨aS (by have:=I.out;have:=F.out;rw[t];omega),J.trans s⟩
    ·obtain rfl:k=n:=by omega
     have I:Hid (ks.take k=ks):=List.take_of_length_le (Nat.le_of_eq V)
     clear E
     go_wp2_with fail
     go_ret
     obtain⟨a,t,f⟩:=p.out
     exact⟨aS (by rw[f,t,I.out]),J.trans s⟩
def gf (b:Bool) (r:Ending):Prop:=∃x:Int,I64 x∧r= .returned (.int .i64 x)∧decide (0≤x)=b
theorem bU {α:Type} {l:List α} {k:Nat} {e:α} {p:α→Bool} (h:l[k]? =some e) (a:p e=true):l.any p=true:=List.any_eq_true.2 ⟨e,List.mem_of_getElem? h,a⟩
theorem bM {α:Type} {l:List α} {k:Nat} {e:α} {p:α→Bool} (h:l[k]? =some e) (a:(l.take k).any p=false) (b:p e=false):(l.take (k+1)).any p=false:=by
 obtain⟨hi,rfl⟩:=List.getElem?_eq_some_iff.1 h
 rw[List.take_succ_eq_append_getElem hi,List.any_append,a]
 simp[b]
theorem cP {α:Type} {l:List α} {n:Nat} {p:α→Bool} (b:l.length=n) (a:(l.take n).any p=false):l.any p=false:=by
 rwa [List.take_of_length_le (by omega)]at a
def Ent (F:FuncId):Prop:=∀(args:Array Value) (W:World),(callFunc F args).run Tryz.prog W= .ok (.enter F args) W
theorem index_ex (F:FuncId) (L:Ent F) (p:Ex→Bool) (l:List Ex) (A:Option Addr) (n c:Nat) (w:World) (H:l.length=n) (V:n≤9223372036854775807) (G:KidsAt w A l)
  (E:∀x∈l,∀(o:Option Addr) (u c':Nat) (W:World),Ext w W→ExV W x o u c'→Calls Tryz.prog F #[x.d.val o u c'] W fun r K=>r= .returned (.bool (p x))∧Ext W K):
  Calls Tryz.prog 179 #[.slice A n c,.func (Fn.func F) #[] #[]] w fun r w'=>gf (l.any p) r∧Ext w w':=by
 unfold Ent at L
 have C:=hid H
 have J:=hid G
 have I:=hid E
 clear H G E
 go_enter Tryz.func179,Tryz.ntmps179
 go_wp2_with fail
 go_loopw [5,8] (fun _ Q wr=> ∃(k:Nat),k≤n∧Q= .int .i64 k∧(l.take k).any p=false∧Ext w wr) (fun _ i _=>n- (intOf i).toNat)
 case atStart=>exact⟨0,Nat.zero_le _,rfl,rfl,Ext.refl w⟩
 case round=>
  obtain⟨k,O,rfl,z,a⟩:=hrel
  have e:=hid a
  have j:=hid z
  by_cases y:k<n
  ·obtain⟨D,t⟩:=dI C y
   obtain⟨b,R,o,u,c',rfl,X,Y,Z,q3,q4,q5,q6,q7,m⟩:=(J.ext a).get t
   have s:=hid (I D (eT t) o u c' _ a m)
   have B:=hid t
   clear t m a z
   cases g:p D
   ·rw[g]at s
    have h:Hid ((l.take (k+1)).any p=false):=bM B j g
    clear g
    go_wp2_with fail
    refine s.mono ?_
    rintro _ U ⟨rfl,f⟩
    go_wp2_with fail
    go_roundw
    case rel=>exact⟨k+1,by omega,by go_num,h,e.trans f⟩
    case measure=>simp[intOf];omega
   ·rw[g]at s
    have h:Hid (l.any p=true):=bU B g
    clear g
    go_wp2_with fail
    refine s.mono ?_
    rintro _ U ⟨rfl,f⟩
    go_wp2_with fail
    go_ret
    exact⟨⟨k,⟨by omega,by omega⟩,rfl,by rw[h.out];simp⟩,e.trans f⟩
  ·obtain rfl:k=n:=by omega
   have h:Hid (l.any p=false):=cP C j
   clear z
   go_wp2_with fail
   go_ret
   exact⟨⟨-1,⟨by omega,by omega⟩,rfl,by rw[h.out];rfl⟩,e⟩
theorem ent101:Ent 154:=fun _ _=>by kernel_rfl
theorem fB (op:Int) (w:World):Calls Tryz.prog 153 #[.int .i64 op] w fun r w'=>r= .returned (.int .i64 (opN op))∧w=w':=by
 go_enter Tryz.func153,Tryz.ntmps153
 go_wp2_with fail
 all_goals
  go_ret
  refine⟨aS ?_,rfl⟩
  simp only[beq_iff_eq,beq_eq_false_iff_ne]at*
  unfold opN
  first|rw[if_pos (by omega)]|rw[if_neg (by omega),if_pos (by omega)]|rw[if_neg (by omega),if_neg (by omega),if_pos (by omega)]|rw[if_neg (by omega),if_neg (by omega),if_neg (by omega)]
theorem lp (op:Int) (w:World):Calls Tryz.prog 158 #[.int .i64 op] w fun r w'=>r= .returned (.int .i64 (opN op))∧w=w':=by
 go_enter Tryz.func158,Tryz.ntmps158
 go_wp2_with fail
 all_goals
  go_ret
  refine⟨aS ?_,rfl⟩
  simp only[beq_iff_eq,beq_eq_false_iff_ne]at*
  unfold opN
  first|rw[if_pos (by omega)]|rw[if_neg (by omega),if_pos (by omega)]|rw[if_neg (by omega),if_neg (by omega),if_pos (by omega)]|rw[if_neg (by omega),if_neg (by omega),if_neg (by omega)]
theorem dz (x lo hi:Int) (w:World):Calls Tryz.prog 197 #[.int .i64 x,.int .i64 lo,.int .i64 hi] w fun r w'=>r= .returned (.bool (decide (lo≤x) &&decide (x≤hi)))∧w=w':=by
 by_cases h:lo≤x
 ·have hd:decide (lo≤x)=true:=by simpa using h
  have a:=hid hd
  clear h
  go_enter Tryz.func197,Tryz.ntmps197
  go_wp2_with fail
  go_ret
  clear hd
  exact⟨aa (by rw[a.out,Bool.true_and]),rfl⟩
 ·have hd:decide (lo≤x)=false:=by simpa using h
  have a:=hid hd
  clear h
  go_enter Tryz.func197,Tryz.ntmps197
  go_wp2_with fail
  go_ret
  clear hd
  exact⟨aa (by rw[a.out,Bool.false_and]),rfl⟩
theorem eK (x:Int) (w:World):Calls Tryz.prog 219 #[.int .i64 x] w fun r w'=>r= .returned (.bool (decide (0≤x) &&decide (x≤2147483648)))∧w=w':=by
 by_cases h:0≤x
 ·have hd:decide (0≤x)=true:=by simpa using h
  have a:=hid hd
  clear h
  go_enter Tryz.func219,Tryz.ntmps219
  go_wp2_with fail
  go_ret
  clear hd
  exact⟨aa (by rw[a.out,Bool.true_and]),rfl⟩
 ·have hd:decide (0≤x)=false:=by simpa using h
  have a:=hid hd
  clear h
  go_enter Tryz.func219,Tryz.ntmps219
  go_wp2_with fail
  go_ret
  clear hd
  exact⟨aa (by rw[a.out,Bool.false_and]),rfl⟩
def prn (l:List Nat):Bool:=l.all fun c=>decide (32≤c) &&decide (c≤126)
theorem fg (s:ByteArray):eF s=(prn (N s) &&decide (s.size≤16)):=rfl
theorem lq {s:ByteArray} {k:Nat} {p:Nat→Bool} (b:k<s.size) (h:((N s).take k).all p=true) (a:p s[k].toNat=true):((N s).take (k+1)).all p=true:=by
 rw[oL s k b,List.all_append,h]
 simp[a]
theorem jK {s:ByteArray} {k:Nat} {p:Nat→Bool} (b:k<s.size) (a:p s[k].toNat=false):(N s).all p=false:=by
 rw[List.all_eq_false]
 exact⟨s[k].toNat,List.mem_of_getElem? (N_get s k b),by simp[a]⟩
theorem nT {s:ByteArray} {k:Nat} {p:Nat→Bool} (a:s.size≤k) (h:((N s).take k).all p=true):(N s).all p=true:=by
 rwa [List.take_of_length_le (by rw[N_len];exact a)]at h
theorem text_any (s:ByteArray) (w:World) (hs:s.size≤9223372036854775807):Calls Tryz.prog 221 #[.string s] w fun r w'=>r= .returned (.bool (eF s))∧w=w':=by
 go_enter Tryz.func221,Tryz.ntmps221
 go_wp2_with fail
 go_loop [3,6] (fun _ i=> ∃k:Nat,k≤s.size∧i= .int .i64 k∧prn ((N s).take k)=true) (fun _ i=>s.size- (intOf i).toNat)
 case atStart=>exact⟨0,Nat.zero_le _,rfl,rfl⟩
 case round=>
  obtain⟨k,m,rfl,h⟩:=hrel
  have g:=hid h
  clear h
  by_cases b:k<s.size
  ·by_cases e:32≤s[k].toNat
   ·have j:decide ((s[k].toNat:Int)<32)=false:=by simp;omega
    by_cases f:s[k].toNat≤126
    ·have l:decide (126<(s[k].toNat:Int))=false:=by simp;omega
     have a:Hid (prn ((N s).take (k+1))=true):=lq b g (by simp[e,f])
     clear e f
     go_wp2_with fail
     go_round
     case rel=>exact⟨k+1,by omega,by go_num,a⟩
     case measure=>simp[intOf];omega
    ·have l:decide (126<(s[k].toNat:Int))=true:=by simp;omega
     have a:Hid (prn (N s)=false):=jK b (by simp[f])
     clear e f
     go_wp2_with fail
     go_ret
     exact⟨aa (by rw[fg,a.out];rfl),rfl⟩
   ·have j:decide ((s[k].toNat:Int)<32)=true:=by simp;omega
    have a:Hid (prn (N s)=false):=jK b (by simp[e])
    clear e
    go_wp2_with fail
    go_ret
    exact⟨aa (by rw[fg,a.out];rfl),rfl⟩
  ·have a:Hid (prn (N s)=true):=nT (by omega) g
   go_wp2_with fail
   go_ret
   exact⟨aa (by rw[fg,a.out,Bool.true_and,Bool.eq_iff_iff];simp;omega),rfl⟩
theorem rtext_any (s:ByteArray) (w:World) (hs:s.size≤9223372036854775807):Calls Tryz.prog 223 #[.string s] w fun r w'=>r= .returned (.bool (eF s))∧w=w':=by
 go_enter Tryz.func223,Tryz.ntmps223
 go_wp2_with fail
 go_loop [3] (fun i=> ∃k:Nat,k≤s.size∧i= .int .i64 k∧prn ((N s).take k)=true) (fun i=>s.size- (intOf i).toNat)
 case atStart=>exact⟨0,Nat.zero_le _,rfl,rfl⟩
 case round=>
  obtain⟨k,m,rfl,h⟩:=hrel
  have g:=hid h
  clear h
  by_cases b:k<s.size
  ·by_cases e:32≤s[k].toNat
   ·have j:decide ((s[k].toNat:Int)<32)=false:=by simp;omega
    by_cases f:s[k].toNat≤126
    ·have l:decide (126<(s[k].toNat:Int))=false:=by simp;omega
     have a:Hid (prn ((N s).take (k+1))=true):=lq b g (by simp[e,f])
     clear e f
     go_wp2_with fail
     go_round
     case rel=>exact⟨k+1,by omega,by go_num,a⟩
     case measure=>simp[intOf];omega
    ·have l:decide (126<(s[k].toNat:Int))=true:=by simp;omega
     have a:Hid (prn (N s)=false):=jK b (by simp[f])
     clear e f
     go_wp2_with fail
     go_ret
     exact⟨aa (by rw[fg,a.out];rfl),rfl⟩
   ·have j:decide ((s[k].toNat:Int)<32)=true:=by simp;omega
    have a:Hid (prn (N s)=false):=jK b (by simp[e])
    clear e
    go_wp2_with fail
    go_ret
    exact⟨aa (by rw[fg,a.out];rfl),rfl⟩
  ·have a:Hid (prn (N s)=true):=nT (by omega) g
   go_wp2_with fail
   go_ret
   exact⟨aa (by rw[fg,a.out,Bool.true_and,Bool.eq_iff_iff];simp;omega),rfl⟩
theorem str0 (s:ByteArray):s.toList= []↔s.size=0:=by
 rw[ByteArray.toList_eq]
 constructor
 ·intro h;show s.data.size=0;rw[←Array.length_toList,h];rfl
 ·intro h
  have h:s.data.size=0:=h
  exact List.eq_nil_of_length_eq_zero (by rw[Array.length_toList];exact h)
theorem cV (s:ByteArray):(s.size==0)=s.toList.isEmpty:=by
 rw[Bool.eq_iff_iff,beq_iff_eq,List.isEmpty_iff];exact(str0 s).symm
theorem bi {s:ByteArray} (h:s.size=0):s=⟨#[]⟩:=by
 apply N_inj
 rw[N_nil']
 exact List.eq_nil_of_length_eq_zero (by rw[N_len];exact h)
theorem bB {s:ByteArray} (h:¬s.size=0):¬s.toList= []:=fun e=>h ((str0 s).1 e)
theorem bo {s:ByteArray} (h:¬s.size=0):s.toList.isEmpty=false:=by
 rw[←cV,beq_eq_false_iff_ne];exact h
theorem literal_any (vk vi:Int) (vt:ByteArray) (w:World) (hs:vt.size≤9223372036854775807) (d:Nd) (i:d.vk=vk) (j:d.vi=vi) (k:d.vt=vt):
  Calls Tryz.prog 155 #[.agg #[.int .i64 vk,.int .i64 vi,.string vt]] w fun r w'=>r= .returned (.bool d.litB)∧Ext w w':=by
 subst i j k
 by_cases a:d.vk=0
 ·have f:Hid (d.litB=(d.vi==0&&d.vt.size==0)):=by unfold Hid Nd.litB;rw[if_pos a]
  generalize d.litB=L at*
  obtain⟨op,tb,nm,ix,vk,vi,vt⟩:=d
  simp only at*
  subst a
  go_enter Tryz.func155,Tryz.ntmps155
  go_wp2_with fail
  all_goals
   go_ret
   refine⟨aa ?_,(Ext.refl w).alloc _⟩
   rw[f.out,cV]
   simp[*]
 ·by_cases b:d.vk=1
  ·have f:Hid (d.litB=(decide (0≤d.vi) &&decide (d.vi≤2147483648) &&d.vt.size==0)):=by unfold Hid Nd.litB;rw[if_neg a,if_pos b]
   generalize d.litB=L at*
   obtain⟨op,tb,nm,ix,vk,vi,vt⟩:=d
   simp only at*
   subst b
   clear a
   by_cases g:vt.size=0
   ·obtain rfl:=bi g
    go_enter Tryz.func155,Tryz.ntmps155
    go_wp2_with (go_at_call 197;refine(dz _ _ _ _).mono ?_;rintro _ m ⟨rfl,rfl⟩)
    go_ret
    exact⟨aa (by rw[f.out];simp;intros;rfl),(Ext.refl w).alloc _⟩
   ·have l:=bB g
    have h:Hid (L=false):=by unfold Hid;rw[f.out];simp[g]
    clear g
    go_enter Tryz.func155,Tryz.ntmps155
    go_wp2_with fail
    go_ret
    exact⟨aa h.symm,(Ext.refl w).alloc _⟩
  ·by_cases e:d.vk=2
   ·have f:Hid (d.litB=(d.vi==0&&eF d.vt)):=by unfold Hid Nd.litB;rw[if_neg a,if_neg b,if_pos e]
    generalize d.litB=L at*
    obtain⟨op,tb,nm,ix,vk,vi,vt⟩:=d
    simp only at*
    subst e
    clear a b
    by_cases g:vi=0
    ·subst g
     go_enter Tryz.func155,Tryz.ntmps155
     go_wp2_with (go_at_call 221;refine(text_any _ _ hs).mono ?_;rintro _ m ⟨rfl,rfl⟩)
     go_ret
     exact⟨aa (by rw[f.out];simp),(Ext.refl w).alloc _⟩
    ·have h:Hid (L=false):=by unfold Hid;rw[f.out];simp[g]
     have s:(vi==0)=false:=by simpa using g
     clear g
     go_enter Tryz.func155,Tryz.ntmps155
     go_wp2_with fail
     go_ret
     exact⟨aa h.symm,(Ext.refl w).alloc _⟩
   ·have f:Hid (d.litB=false):=by unfold Hid Nd.litB;rw[if_neg a,if_neg b,if_neg e]
    generalize d.litB=L at*
    obtain⟨op,tb,nm,ix,vk,vi,vt⟩:=d
    simp only at*
    have n:(vk==0)=false:=by simpa using a
    have o:(vk==1)=false:=by simpa using b
    have p:(vk==2)=false:=by simpa using e
    clear a b e
    go_enter Tryz.func155,Tryz.ntmps155
    go_wp2_with fail
    go_ret
    exact⟨aa f.symm,(Ext.refl w).alloc _⟩
theorem nU (vk vi:Int) (vt:ByteArray) (w:World) (hs:vt.size≤9223372036854775807) (d:Nd) (l:d.vk=vk) (m:d.vi=vi) (n:d.vt=vt):
  Calls Tryz.prog 159 #[.agg #[.int .i64 vk,.int .i64 vi,.string vt]] w fun r w'=>r= .returned (.bool d.litB)∧Ext w w':=by
 subst l m n
 by_cases a:d.vk=0
 ·have e:Hid (d.litB=(d.vi==0&&d.vt.size==0)):=by unfold Hid Nd.litB;rw[if_pos a]
  generalize d.litB=L at*
  obtain⟨op,tb,nm,ix,vk,vi,vt⟩:=d
  simp only at*
  subst a
  by_cases g:vi=0
  ·subst g
   go_enter Tryz.func159,Tryz.ntmps159
   go_wp2_with fail
   go_ret
   exact⟨aa (by rw[e.out,cV];simp),(Ext.refl w).alloc _⟩
  ·have h:Hid (L=false):=by unfold Hid;rw[e.out];simp[g]
   have o:(vi==0)=false:=by simpa using g
   clear g
   go_enter Tryz.func159,Tryz.ntmps159
   go_wp2_with fail
   go_ret
   exact⟨aa h.symm,(Ext.refl w).alloc _⟩
 ·by_cases b:d.vk=1
  ·have e:Hid (d.litB=(decide (0≤d.vi) &&decide (d.vi≤2147483648) &&d.vt.size==0)):=by unfold Hid Nd.litB;rw[if_neg a,if_pos b]
   generalize d.litB=L at*
   obtain⟨op,tb,nm,ix,vk,vi,vt⟩:=d
   simp only at*
   subst b
   clear a
   have i:=hid (eK vi)
   obtain⟨x,j⟩:∃x,(decide (0≤vi) &&decide (vi≤2147483648))=x:=⟨_,rfl⟩
   rw[j]at i e
   clear j
   cases x
   ·go_enter Tryz.func159,Tryz.ntmps159
    go_wp2_with (go_at_call 219;refine(i _).mono ?_;rintro _ k ⟨rfl,rfl⟩)
    go_ret
    exact⟨aa (by rw[e.out];rfl),(Ext.refl w).alloc _⟩
   ·go_enter Tryz.func159,Tryz.ntmps159
    go_wp2_with (go_at_call 219;refine(i _).mono ?_;rintro _ k ⟨rfl,rfl⟩)
    go_ret
    exact⟨aa (by rw[e.out,cV];simp),(Ext.refl w).alloc _⟩
  ·by_cases f:d.vk=2
   ·have e:Hid (d.litB=(d.vi==0&&eF d.vt)):=by unfold Hid Nd.litB;rw[if_neg a,if_neg b,if_pos f]
    generalize d.litB=L at*
    obtain⟨op,tb,nm,ix,vk,vi,vt⟩:=d
    simp only at*
    subst f
    clear a b
    by_cases g:vi=0
    ·subst g
     go_enter Tryz.func159,Tryz.ntmps159
     go_wp2_with (go_at_call 223;refine(rtext_any _ _ hs).mono ?_;rintro _ k ⟨rfl,rfl⟩)
     go_ret
     exact⟨aa (by rw[e.out];simp),(Ext.refl w).alloc _⟩
    ·have h:Hid (L=false):=by unfold Hid;rw[e.out];simp[g]
     have o:(vi==0)=false:=by simpa using g
     clear g
     go_enter Tryz.func159,Tryz.ntmps159
     go_wp2_with fail
     go_ret
     exact⟨aa h.symm,(Ext.refl w).alloc _⟩
   ·have e:Hid (d.litB=false):=by unfold Hid Nd.litB;rw[if_neg a,if_neg b,if_neg f]
    generalize d.litB=L at*
    obtain⟨op,tb,nm,ix,vk,vi,vt⟩:=d
    simp only at*
    have p:(vk==0)=false:=by simpa using a
    have s:(vk==1)=false:=by simpa using b
    have t:(vk==2)=false:=by simpa using f
    clear a b f
    go_enter Tryz.func159,Tryz.ntmps159
    go_wp2_with fail
    go_ret
    exact⟨aa e.symm,(Ext.refl w).alloc _⟩
theorem jL (e:Ex) (A:Option Addr) (n c:Nat) (w:World):Calls Tryz.prog 207 #[e.d.val A n c] w fun r w'=>r= .returned (.int .i64 (lvl e.d.op))∧Ext w w':=by
 unfold Nd.val
 generalize e.d=d
 obtain⟨op,tb,nm,ix,vk,vi,vt⟩:=d
 simp only
 go_enter Tryz.func207,Tryz.ntmps207
 go_wp2_with fail
 all_goals
  go_ret
  refine⟨aS ?_,(Ext.refl w).alloc _⟩
  simp only[beq_iff_eq,beq_eq_false_iff_ne]at*
  unfold lvl
  first|(exfalso;omega)|repeat (first|rw[if_pos (by omega)]|rw[if_neg (by omega)])
theorem lu (e:Ex) (A:Option Addr) (n c:Nat) (w:World) (h:1≤e.d.op∧e.d.op≤20):Calls Tryz.prog 90 #[e.d.val A n c] w fun r w'=>r= .returned (.int .i64 (lvl e.d.op))∧Ext w w':=by
 unfold Nd.val
 generalize e.d=d at*
 obtain⟨op,tb,nm,ix,vk,vi,vt⟩:=d
 simp only at*
 have H:=hid h
 clear h
 go_enter Tryz.func90,Tryz.ntmps90
 go_wp2_with fail
 all_goals
  go_ret
  refine⟨aS ?_,(Ext.refl w).alloc _⟩
  have h:=H.out
  simp only[beq_iff_eq,beq_eq_false_iff_ne,decide_eq_true_eq,decide_eq_false_iff_not]at*
  unfold lvl
  first|(exfalso;omega)|repeat (first|rw[if_pos (by omega)]|rw[if_neg (by omega)])
def lx:List (List Nat)→List Nat
 | []=> []
 |w::ws=>w++32::lx ws
theorem pi (s w r:List Nat) (hs:32∉s) (b:32∉w):(s++ [32])<+:(w++32::r)↔s=w:=by
 induction s generalizing w with
 |nil=>
  cases w with
  |nil=>simp
  |cons c w=>simp at b ⊢;exact b.1
 |cons a s ih=>
  cases w with
  |nil=>
   simp at hs ⊢
   intro h;exact absurd h.symm hs.1
  |cons c w=>
   simp at hs b
   simp only[List.cons_append,List.cons_prefix_cons,List.cons.injEq]
   rw[ih w hs.2 b.2]
theorem ly {a l:List Nat} {c:Nat} :a<:+:c::l↔a<+:c::l∨a<:+:l:=List.infix_cons_iff
theorem qu (s w r:List Nat) (a:32∉w):(32::s)<:+:(w++r)↔(32::s)<:+:r:=by
 induction w with
 |nil=>rfl
 |cons c w ih=>
  simp at a
  rw[List.cons_append,ly,ih a.2]
  constructor
  ·rintro(h|h)
   ·rw[List.cons_prefix_cons]at h;exact absurd h.1 a.1
   ·exact h
  ·exact .inr
theorem nV (s:List Nat) (hs:32∉s):∀a:List (List Nat),(∀w∈a,32∉w)→((32::(s++ [32]))<:+:(32::lx a)↔s∈a):=by
 intro a
 induction a with
 |nil=>
  intro _
  constructor
  ·intro h
   have:=h.length_le
   simp[lx]at this
  ·intro h;cases h
 |cons w a ih=>
  intro e
  have b:=e w (by simp)
  rw[lx,ly,List.cons_prefix_cons,pi s w _ hs b,qu _ _ _ b,ih fun x f=>e x (by simp[f])]
  simp
theorem pj:∀w∈kwWords,32∉w:=by decide+kernel
def ir:List Nat:=32::lx kwWords
theorem kw_infix (s:List Nat) (hs:32∉s):(32::(s++ [32]))<:+:ir↔kwWords.contains s=true:=by
 unfold ir
 rw[nV s hs kwWords pj,List.contains_iff_mem]
theorem occ_iff (s sub:List UInt8) (j:Nat):Lib.occAt s sub j=true↔sub<+:s.drop j:=by
 unfold Lib.occAt
 first|(rw[List.isPrefixOf_iff_prefix])|(simp[List.isPrefixOf_iff_prefix])
theorem lA (s sub:List UInt8):Lib.contains s sub=true↔sub<:+:s:=by
 unfold Lib.contains
 rw[decide_eq_true_eq]
 rcases Lib.index_spec s sub with ⟨h1,h2⟩|⟨i,h1,h2,h3,h4⟩
 ·constructor
  ·intro h;omega
  ·rintro⟨a,b,e⟩
   have f:a.length≤s.length:=by rw[←e];simp
   have:=h2 a.length f
   rw[←Bool.not_eq_true,occ_iff s sub _]at this
   exact absurd ⟨b,by rw[←e];simp⟩ this
 ·constructor
  ·intro _
   have:=(occ_iff s sub i).1 h3
   obtain⟨t,g⟩:=this
   exact⟨s.take i,t,by rw[List.append_assoc,g,List.take_append_drop]⟩
  ·intro _;omega
theorem infix_map {a b:List UInt8} :a.map UInt8.toNat<:+:b.map UInt8.toNat↔a<:+:b:=by
 have e:∀x y:List UInt8,x.map UInt8.toNat=y.map UInt8.toNat→x=y:=fun x y h=> (List.map_inj_right (f:=UInt8.toNat) fun a b h=>UInt8.toNat_inj.1 h).1 h
 constructor
 ·rintro⟨p,q,h⟩
  have j:=congrArg List.length h
  simp at j
  refine⟨b.take p.length,b.drop (p.length+a.length),?_⟩
  have g:(b.drop p.length).take a.length=a:=by
   apply e
   rw[List.map_take,List.map_drop,←h]
   simp[List.append_assoc]
  have i:(b.drop p.length)=a++b.drop (p.length+a.length):=by
   conv=>lhs;rw[←List.take_append_drop a.length (b.drop p.length),g,List.drop_drop]
  rw[List.append_assoc,←i,List.take_append_drop]
 ·rintro⟨p,q,h⟩
  exact⟨p.map UInt8.toNat,q.map UInt8.toNat,by rw[←h];simp⟩
def kwIn (s:ByteArray):Bool:=Lib.contains (ir.map UInt8.ofNat) ((⟨#[32]⟩++s++⟨#[32]⟩:ByteArray)).data.toList
theorem pk (s:ByteArray) (h:32∉N s):kwIn s=kwWords.contains (N s):=by
 rw[Bool.eq_iff_iff]
 unfold kwIn
 rw[lA,←kw_infix (N s) h,←infix_map]
 have a:(ir.map UInt8.ofNat).map UInt8.toNat=ir:=by decide+kernel
 have b:((⟨#[32]⟩++s++⟨#[32]⟩:ByteArray)).data.toList.map UInt8.toNat=32::(N s++ [32]):=by
  unfold N
  simp
 rw[a,b]
theorem pm {s:ByteArray} (h:32∈N s):(N s).all da=false:=by
 rw[List.all_eq_false]
 exact⟨32,h,by decide⟩
theorem name_kw {s:ByteArray} (h:kwIn s=true):nameB s=false:=by
 unfold nameB iP
 by_cases hs:32∈N s
 ·rw[pm hs];simp
 ·rw[pk s hs]at h
  rw[h];simp
theorem name_nokw {s:ByteArray} (h:kwIn s=false) (c:Nat) (r:List Nat) (a:N s=c::r) (b:fR c=true) (f:s.size≤24):nameB s=(N s).all da:=by
 unfold nameB iP
 have e:fm (N s)=true:=by rw[a];exact b
 rw[e]
 by_cases hs:32∈N s
 ·rw[pm hs];simp
 ·rw[pk s hs]at h
  rw[h,N_len];simp[f]
def Sh (w:World):Prop:=∃m,w.cell? ⟨1,0,none⟩=some (.int .i64 m)
theorem Sh.ext {w w':World} (h:Sh w) (a:Ext w w'):Sh w':=by
 obtain⟨m,h⟩:=h
 exact⟨m,a.keep h⟩
theorem nW (K s:ByteArray) (w:World) (f:Sh w) (a:K=⟨(ir.map UInt8.ofNat).toArray⟩):
  Calls Tryz.prog 181 #[.string K,.string (⟨#[32]⟩++s++⟨#[32]⟩)] w fun r w'=>r= .returned (.bool (kwIn s))∧w=w':=by
 obtain⟨m,b⟩:=f
 subst a
 refine(Tryz.strings_Contains _ _ m w (by show((ir.map UInt8.ofNat).toArray).size<_;decide+kernel) b).mono ?_
 rintro e w' ⟨rfl,rfl⟩
 exact⟨rfl,rfl⟩
theorem gP {s:ByteArray} (h:s.size=0):nameB s=false:=by
 unfold nameB
 rw[show N s= [] from List.eq_nil_of_length_eq_zero (by rw[N_len];exact h)]
 rfl
theorem name_long {s:ByteArray} (h:¬s.size≤24):nameB s=false:=by
 unfold nameB iP
 rw[N_len]
 simp[h]
theorem N_head {s:ByteArray} (h:0<s.size):∃r,N s=s[0].toNat::r:=by
 have b:=N_get s 0 h
 cases e:N s with
 |nil=>rw[e]at b;cases b
 |cons a l=>rw[e]at b;simp at b;rw[b];exact⟨l,rfl⟩
theorem iu {s:ByteArray} (h:0<s.size) (a:fR s[0].toNat=false):nameB s=false:=by
 obtain⟨r,b⟩:=N_head h
 unfold nameB iP
 rw[b]
 simp only[fm]
 rw[a];rfl
theorem name_any (s : ByteArray) (w : World) (j : Sh w) (Q : s.size ≤ 9223372036854775807) : Calls Tryz.prog 115 #[.string s] w fun r w' => r = .returned (.bool (nameB s)) ∧ w = w' := by
  by_cases m : s.size = 0
  · have z := gP m
    rw [z]
    obtain rfl := bi m
    clear m z
    go_enter Tryz.func115, Tryz.ntmps115
    go_wp2_with fail
    go_ret
    exact ⟨rfl, rfl⟩
  · have H := bB m
    have A := bo m
    have e : 0 < s.size := by omega
    by_cases a : s.size ≤ 24
    · have u : decide ((24 : Int) < (s.size : Int)) = false := by simp; omega
      have J : s.size ≤ 1000 := by omega
      by_cases g : 97 ≤ s[0].toNat
      · have F : decide ((s[0].toNat : Int) < (97 : Int)) = false := by simp; omega
        by_cases n : s[0].toNat ≤ 122
        · have G : decide ((122 : Int) < (s[0].toNat : Int)) = false := by simp; omega
          have l : Hid (fR s[0].toNat = true) := by unfold Hid fR; simp [g, n]
          have t := hid (fun K => nW K s w j)
          obtain ⟨b, o⟩ : ∃ b, kwIn s = b := ⟨_, rfl⟩
          rw [o] at t
          cases b
          · have f : Hid (nameB s = (N s).all da) := by
              obtain ⟨r, I⟩ := N_head e
              exact name_nokw o _ r I l a
            clear o g n j a
            go_enter Tryz.func115, Tryz.ntmps115
            go_wp2_with (go_at_call 181; refine (t _ ?hk1).mono ?_; (case hk1 => kernel_rfl); rintro _ L ⟨rfl, rfl⟩)
            go_loop [3, 4, 30] (fun _ _ i => ∃ k : Nat, k ≤ s.size ∧ i = .int .i64 k ∧ ((N s).take k).all da = true) (fun _ _ i => s.size - (intOf i).toNat)
            case atStart => exact ⟨0, Nat.zero_le _, rfl, rfl⟩
            case round =>
              obtain ⟨k, O, rfl, B⟩ := hrel
              have y := hid B
              clear B
              by_cases p : k < s.size
              · have E : Hid (da s[k].toNat = true → ((N s).take (k + 1)).all da = true) := fun h => lq p y h
                have C : Hid (da s[k].toNat = false → (N s).all da = false) := fun h => jK p h
                have x : Hid (da s[k].toNat = (decide (97 ≤ s[k].toNat) && decide (s[k].toNat ≤ 122) || s[k].toNat == 95 || decide (48 ≤ s[k].toNat) && decide (s[k].toNat ≤ 57))) := rfl
                go_wp2_with fail
                all_goals first
                  | (go_round
                     case rel =>
                       refine ⟨k + 1, by omega, by go_num, E ?_⟩
                       rw [x.out]
                       simp only [beq_iff_eq, bne_iff_ne, ne_eq, beq_eq_false_iff_ne, bne_eq_false_iff_eq, decide_eq_true_eq, decide_eq_false_iff_not, Bool.or_eq_true, Bool.and_eq_true] at *
                       omega
                     case measure => simp [intOf]; omega)
                  | (go_ret
                     refine ⟨aa ?_, rfl⟩
                     rw [f.out]
                     symm
                     apply C
                     rw [x.out, ← Bool.not_eq_true]
                     simp only [beq_iff_eq, bne_iff_ne, ne_eq, beq_eq_false_iff_ne, bne_eq_false_iff_eq, decide_eq_true_eq, decide_eq_false_iff_not, Bool.or_eq_true, Bool.and_eq_true] at *
                     omega)
              · have D : Hid ((N s).all da = true) := nT (by omega) y
                go_wp2_with fail
                go_ret
                exact ⟨aa (by rw [f.out, D.out]), rfl⟩
          · have f : Hid (nameB s = false) := name_kw o
            clear o g n j a
            go_enter Tryz.func115, Tryz.ntmps115
            go_wp2_with (go_at_call 181; refine (t _ ?hk1).mono ?_; (case hk1 => kernel_rfl); rintro _ L ⟨rfl, rfl⟩)
            go_ret
            exact ⟨aa f.symm, rfl⟩
        · have f : Hid (nameB s = false) := iu e (by unfold fR; simp [n])
          have G : decide ((122 : Int) < (s[0].toNat : Int)) = true := by simp; omega
          clear g n j a
          go_enter Tryz.func115, Tryz.ntmps115
          go_wp2_with fail
          go_ret
          exact ⟨aa f.symm, rfl⟩
      · have f : Hid (nameB s = false) := iu e (by unfold fR; simp [g])
        have F : decide ((s[0].toNat : Int) < (97 : Int)) = true := by simp; omega
        clear g j a
        go_enter Tryz.func115, Tryz.ntmps115
        go_wp2_with fail
        go_ret
        exact ⟨aa f.symm, rfl⟩
    · have f : Hid (nameB s = false) := name_long a
      have u : decide ((24 : Int) < (s.size : Int)) = true := by simp; omega
      clear j a
      go_enter Tryz.func115, Tryz.ntmps115
      go_wp2_with fail
      go_ret
      exact ⟨aa f.symm, rfl⟩
def kwStr (k:Nat):ByteArray:=S (kwWords.getD k [])
def kwB (s:ByteArray):Bool:=kwWords.contains (N s)
def kwVals:List Value:=kwWords.map fun l=> .string (S l)
theorem kwVals_get (k:Nat) (h:k<47):kwVals[k]? =some (.string (kwStr k)):=by
 have a:k<kwWords.length:=h
 unfold kwVals kwStr
 rw[List.getElem?_map,List.getD_eq_getElem?_getD,List.getElem?_eq_getElem a]
 rfl
theorem pn:∀l∈kwWords,∀x∈l,x<256:=by decide+kernel
theorem kw_hit {s:ByteArray} {k:Nat} (b:k<47) (h:N (kwStr k)=N s):kwB s=true:=by
 unfold kwB
 have a:k<kwWords.length:=b
 rw[List.contains_iff_mem,←h]
 unfold kwStr
 rw[List.getD_eq_getElem?_getD,List.getElem?_eq_getElem a,Option.getD_some,N_S _ (pn _ (List.getElem_mem a))]
 exact List.getElem_mem a
theorem kw_miss {s:ByteArray} (h:∀k,k<47→N (kwStr k)≠N s):kwB s=false:=by
 unfold kwB
 rw[←Bool.not_eq_true,List.contains_iff_mem]
 intro e
 obtain⟨k,a,b⟩:=List.getElem_of_mem e
 apply h k a
 unfold kwStr
 rw[List.getD_eq_getElem?_getD,List.getElem?_eq_getElem a,Option.getD_some,N_S _ (pn _ (List.getElem_mem a))]
 exact b
theorem keyword_any (s:ByteArray) (w:World):Calls Tryz.prog 216 #[.string s] w fun r w'=>r= .returned (.bool (kwB s))∧Ext w w':=by
 have n:Hid (Blk (w.alloc (.cells kwVals.toArray 9)) w.heap.size 9 kwVals):=Blk.of_new w 9 kwVals
 have m:Hid (Ext w (w.alloc (.cells kwVals.toArray 9))):=(Ext.refl w).alloc _
 go_enter Tryz.func216,Tryz.ntmps216
 go_wp2_with fail
 obtain⟨u,a⟩:∃u,w.alloc (.cells kwVals.toArray 9)=u:=⟨_,rfl⟩
 rw[a]at n m
 change Code.wp _ _ _ _ (w.alloc (.cells kwVals.toArray 9))
 rw[a]
 clear a
 generalize w.heap.size=g at*
 go_loop [4] (fun i=> ∃k:Nat,k≤47∧i= .int .i64 k∧∀j,j<k→N (kwStr j)≠N s) (fun i=>47- (intOf i).toNat)
 case atStart=>exact⟨0,Nat.zero_le _,rfl,fun j p=>absurd p (Nat.not_lt_zero _)⟩
 case round=>
  obtain⟨k,B,rfl,f⟩:=hrel
  have l:=hid f
  clear f
  by_cases e:k<47
  ·have A:=(n.cell k).trans (kwVals_get k e)
   by_cases b:N (kwStr k)=N s
   ·have z:((kwStr k).toList==s.toList)=true:=by rw[bc,b];simp
    have y:=hid (kw_hit e b)
    clear b
    generalize kwStr k=t at*
    go_wp2_with fail
    go_ret
    exact⟨aa y.symm,m⟩
   ·have z:((kwStr k).toList==s.toList)=false:=by rw[bc,beq_eq_false_iff_ne];exact b
    have o:=hid b
    clear b
    have x:Hid (∀j,j<k+1→N (kwStr j)≠N s):=by
     intro j p
     rcases Nat.lt_or_ge j k with h|h
     ·exact l j h
     ·obtain rfl:j=k:=by omega
      exact o
    clear l o
    generalize kwStr k=t at*
    go_wp2_with fail
    go_round
    case rel=>exact⟨k+1,by omega,by go_num,x⟩
    case measure=>simp[intOf];omega
  ·obtain rfl:k=47:=by omega
   go_wp2_with fail
   go_ret
   exact⟨aa (kw_miss l).symm,m⟩
theorem lB (s:ByteArray):nameB s=(fm (N s) && (N s).all da&&decide (s.size≤24) &&!kwB s):=by unfold nameB iP kwB;rw[N_len]
def jM (k c:Nat):Bool:=fR c||k !=0&&da c
theorem chOk_all {s:ByteArray} {k:Nat} (f:k<s.size) (h:∀j (a:j<s.size),j<k→jM j s[j].toNat=true) (b:jM k s[k].toNat=true):∀j (a:j<s.size),j<k+1→jM j s[j].toNat=true:=by
 intro j a e
 rcases Nat.lt_or_ge j k with h2|h2
 ·exact h j a h2
 ·obtain rfl:j=k:=by omega
  exact b
theorem chOk_no {s:ByteArray} {k:Nat} (b:k<s.size) (h:jM k s[k].toNat=false):nameB s=false:=by
 unfold jM at h
 rw[Bool.or_eq_false_iff]at h
 by_cases a:k=0
 ·subst a
  exact iu b h.1
 ·have e:da s[k].toNat=false:=by
   have:=h.2
   rw[Bool.and_eq_false_iff]at this
   rcases this with h2|h2
   ·simp at h2;exact absurd h2 a
   ·exact h2
  rw[lB,jK b e]
  simp
theorem chOk_yes {s:ByteArray} (h:∀j (b:j<s.size),j<s.size→jM j s[j].toNat=true):nameB s=(decide (0<s.size) &&decide (s.size≤24) &&!kwB s):=by
 rw[lB]
 by_cases e:0<s.size
 ·obtain⟨r,o⟩:=N_head e
  have g:=h 0 e e
  have i:fm (N s)=true:=by
   rw[o]
   simpa[fm,jM] using g
  have k:(N s).all da=true:=by
   rw[List.all_eq_true]
   intro x p
   obtain⟨j,b,n⟩:=List.getElem_of_mem p
   rw[N_len]at b
   have a:=h j b b
   have f:=N_get s j b
   rw[List.getElem?_eq_getElem (by rw[N_len];exact b)]at f
   have l:x=s[j].toNat:=by rw[←n];exact Option.some.inj f
   rw[l]
   unfold jM at a
   rw[Bool.or_eq_true,Bool.and_eq_true]at a
   rcases a with a|a
   ·unfold da;rw[a];rfl
   ·exact a.2
  rw[i,k];simp[e]
 ·have m:N s= []:=List.eq_nil_of_length_eq_zero (by rw[N_len];omega)
  rw[m]
  simp[fm,e]
theorem bq (s : ByteArray) (w : World) (F : s.size ≤ 9223372036854775807) : Calls Tryz.prog 144 #[.string s] w fun r w' => r = .returned (.bool (nameB s)) ∧ Ext w w' := by
  go_enter Tryz.func144, Tryz.ntmps144
  go_wp2_with fail
  go_loop [3, 4] (fun i _ => ∃ k : Nat, k ≤ s.size ∧ i = .int .i64 k ∧ ∀ j (D : j < s.size), j < k → jM j s[j].toNat = true) (fun i _ => s.size - (intOf i).toNat)
  case atStart => exact ⟨0, Nat.zero_le _, rfl, fun j _ h => absurd h (Nat.not_lt_zero _)⟩
  case round =>
    obtain ⟨k, E, rfl, l⟩ := hrel
    have n := hid l
    clear l
    by_cases g : k < s.size
    · have x : Hid (jM k s[k].toNat = true → ∀ j (D : j < s.size), j < k + 1 → jM j s[j].toNat = true) := fun h => chOk_all g n h
      have u : Hid (jM k s[k].toNat = false → nameB s = false) := fun h => chOk_no g h
      have m : Hid (jM k s[k].toNat = (decide (97 ≤ s[k].toNat) && decide (s[k].toNat ≤ 122) || k != 0 && (decide (97 ≤ s[k].toNat) && decide (s[k].toNat ≤ 122) || s[k].toNat == 95 || decide (48 ≤ s[k].toNat) && decide (s[k].toNat ≤ 57)))) := rfl
      clear n
      by_cases a : k = 0
      · have b := hid a
        have B : ((k : Int) == 0) = true := by rw [a]; rfl
        clear a
        go_wp2_with fail
        all_goals first
          | (go_round
             case rel =>
               refine ⟨k + 1, by omega, by go_num, x ?_⟩
               rw [m.out]
               have a := b
               simp only [beq_iff_eq, bne_iff_ne, ne_eq, beq_eq_false_iff_ne, bne_eq_false_iff_eq, decide_eq_true_eq, decide_eq_false_iff_not, Bool.or_eq_true, Bool.and_eq_true, Bool.not_eq_true', Bool.not_eq_false'] at * <;> omega
             case measure => simp [intOf]; omega)
          | (go_ret
             refine ⟨aa ?_, Ext.refl w⟩
             symm
             apply u
             rw [m.out, ← Bool.not_eq_true]
             have a := b
             simp only [beq_iff_eq, bne_iff_ne, ne_eq, beq_eq_false_iff_ne, bne_eq_false_iff_eq, decide_eq_true_eq, decide_eq_false_iff_not, Bool.or_eq_true, Bool.and_eq_true, Bool.not_eq_true', Bool.not_eq_false'] at * <;> omega)
      · have b := hid a
        have B : ((k : Int) == 0) = false := by rw [beq_eq_false_iff_ne]; omega
        clear a
        go_wp2_with fail
        all_goals first
          | (go_round
             case rel =>
               refine ⟨k + 1, by omega, by go_num, x ?_⟩
               rw [m.out]
               have a := b
               simp only [beq_iff_eq, bne_iff_ne, ne_eq, beq_eq_false_iff_ne, bne_eq_false_iff_eq, decide_eq_true_eq, decide_eq_false_iff_not, Bool.or_eq_true, Bool.and_eq_true, Bool.not_eq_true', Bool.not_eq_false'] at * <;> omega
             case measure => simp [intOf]; omega)
          | (go_ret
             refine ⟨aa ?_, Ext.refl w⟩
             symm
             apply u
             rw [m.out, ← Bool.not_eq_true]
             have a := b
             simp only [beq_iff_eq, bne_iff_ne, ne_eq, beq_eq_false_iff_ne, bne_eq_false_iff_eq, decide_eq_true_eq, decide_eq_false_iff_not, Bool.or_eq_true, Bool.and_eq_true, Bool.not_eq_true', Bool.not_eq_false'] at * <;> omega)
    · obtain rfl : k = s.size := by omega
      have p := hid (chOk_yes n)
      have A := hid (keyword_any s w)
      clear n
      by_cases f : 0 < s.size
      · by_cases o : s.size ≤ 24
        · have y : decide ((0 : Int) < (s.size : Int)) = true := by simp; omega
          have z : decide (0 < s.size) = true := by simpa using f
          have C : decide ((s.size : Int) ≤ (24 : Int)) = true := by simp; omega
          have e : Hid (nameB s = !kwB s) := by unfold Hid; rw [p.out]; simp [f, o]
          clear o
          go_wp2_with (go_at_call 216; refine A.mono ?_; rintro _ G ⟨rfl, t⟩)
          go_ret
          exact ⟨aa e.symm, t⟩
        · have y : decide ((0 : Int) < (s.size : Int)) = true := by simp; omega
          have z : decide (0 < s.size) = true := by simpa using f
          have C : decide ((s.size : Int) ≤ (24 : Int)) = false := by simp; omega
          have e : Hid (nameB s = false) := by unfold Hid; rw [p.out]; simp [o]
          clear o
          go_wp2_with fail
          go_ret
          exact ⟨aa e.symm, Ext.refl w⟩
      · have y : decide ((0 : Int) < (s.size : Int)) = false := by simpa using f
        have z : decide (0 < s.size) = false := by simpa using f
        have e : Hid (nameB s = false) := by unfold Hid; rw [p.out]; simp [f]
        go_wp2_with fail
        go_ret
        exact ⟨aa e.symm, Ext.refl w⟩
end Go.Proofs.YtjigcpfjhfoheaaGreatDoor
