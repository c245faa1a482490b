/- A whole block loaded, in a plain region and in one that draws its order; Walks: weight, Nodes, Depth; Walks: Nodes, Depth; Walks: counted, upTo; Walks: the search in a slice of expressions; Walks: small functions on nodes; Walks: . -/
import Derived.Test.YtjigcpfjhfoheaaGreatDoorVaa
import Derived.Laws.Rows
import Derived.Deep.Quiet
import Derived.Test.YtjigcpfjhfoheaaGreatDoorProg
import Derived.Lib.Strings
import Derived.Lib.IndexMore
import Derived.Test.YtjigcpfjhfoheaaGreatDoorShelf
namespace Go.Proofs.YtjigcpfjhfoheaaGreatDoor
open Go.RowKit List Go.Proofs.Tryz
set_option maxHeartbeats 4000000
set_option maxRecDepth 100000
set_option linter.unusedVariables false
set_option linter.unusedSimpArgs false
section
section
variable {P:Program}
theorem aw {ops:Array Oper} {rest:List Oper} {o:Oper} {a:Act} {w:World} {Q:Exit→Act→World→Prop} (b:o.guard=none) (ty:TypeId) (x:Operand) (f:o.op= .load ty x)
  (g:Nat) (j:a.eval x= .pointer (some ⟨g,0,none⟩)) (t:TypeId) (cs:LV) (d:TypeDesc) (e:Blk w g t cs)
  (i:P.underlying ty=some d) (hd:(match d with| .struct _| .array _ _=>true|_=>false)=true) (hi:(P.info? ty).map (·.size)=some cs.length)
  (h:wpList P ops Q rest (a.put o.dst (.agg cs.toArray)) w):wpList P ops Q (o::rest) a w:=
 wpList_load_row b ty x f g j t cs.toArray (0,0) d e i hd (by simpa using hi) h
theorem cT {ops:Array Oper} {C:World→Prop} {Q:Act→Prop} {rest:List Oper} {o:Oper} {a:Act} (b:o.guard=none) (ty:TypeId) (x:Operand) (i:o.op= .load ty x)
  (g:Nat) (l:a.eval x= .pointer (some ⟨g,0,none⟩)) (t:TypeId) (cs:LV) (d:TypeDesc) (f:∀w,C w→Blk w g t cs)
  (j:P.underlying ty=some d) (hd:(match d with| .struct _| .array _ _=>true|_=>false)=true) (hi:(P.info? ty).map (·.size)=some cs.length)
  (h:wpQuiet P ops C Q rest (a.put o.dst (.agg cs.toArray))):wpQuiet P ops C Q (o::rest) a:=by
 unfold wpQuiet
 have k:Region.wanted o (yielded ops a.tmps)=true:=by simp[Region.wanted,b]
 rw[if_pos k]
 refine⟨.agg cs.toArray,fun w e=>?_,h⟩
 unfold Oper.quietAt execOp
 simp only[i,l,Instr.loadAt,Instr.sureAddr,Sem.run_bind,Sem.run_pure,Result.andThen_ok,run_loadVar_row w g t ty cs.toArray (0,0) d (f w e) j hd (by simpa using hi)]
 exact⟨rfl,rfl⟩
theorem gk {w:World} {g t:Nat} {cs:LV} (h:Blk w g t cs):∀w',(∃x:ai w,w'=x.now)→Blk w' g t cs:=by
 rintro _ ⟨x,rfl⟩
 exact h.ext x.ext
end
end
theorem gG {l:List Ex} {i:Nat} {e:Ex} (h:l[i]? =some e):e∈l:=mem_of_getElem? h
theorem fd {l:List Ex} {i n:Nat} (a:l.length=n) (h:i<n):∃e,l[i]? =some e:=⟨_,getElem?_eq_getElem (by omega)⟩
theorem take_at {l:List Ex} {i:Nat} {e:Ex} (h:l[i]? =some e):l.take (i+1)=l.take i++ [e]:=by
 obtain⟨hi,rfl⟩:=List.getElem?_eq_some_iff.1 h
 exact take_succ_eq_append_getElem hi
theorem jM (d:Nd) (ks:List Ex):(Ex.mk d ks).nodes=(if d.op=0 then 0 else 1)+nodesL ks:=rfl
theorem pq {l:List Ex} {k:Nat} {e:Ex} (h:l[k]? =some e):nodesL (l.take (k+1))=nodesL (l.take k)+e.nodes:=by
 rw[take_at h,dc,nodesL,nodesL,Nat.add_zero]
theorem pr {l:List Ex} {k:Nat} {e:Ex} (h:l[k]? =some e):aJ (l.take (k+1))=max (aJ (l.take k)) e.depth:=by
 rw[take_at h,iW,aJ,aJ];omega
theorem nw {l:List Ex} {e:Ex} (h:e∈l):e.nodes≤nodesL l:=by
 induction l with
 |nil=>cases h
 |cons a l ih=>
  rw[nodesL]
  rcases List.mem_cons.1 h with rfl|h
  ·omega
  ·have:=ih h;omega
theorem depth_any:∀(e:Ex) (A:OA) (n c:Nat) (w:World),ExV w e A n c→e.nodes≤100000000→
  Cl 113 #[e.d.val A n c] w (Rt (i4 (e.depth:Int)) w):=by
 intro e
 induction e using Ex.ind with
 |h d ks ih=>
  intro A n c w hv K
  obtain⟨I,h2,W,J⟩:=hv
  have F:Hid (ks.length=n):=I
  have R:Hid (KidsAt w A ks):=J
  have Q:=hid ih
  have p:nodesL ks≤100000000:=by rw[jM]at K;omega
  have u:=hid p
  have HD:Hid (aJ ks≤nodesL ks):=(fh ks).1
  clear I J ih W K p
  have x:Hid ((Ex.mk d ks).depth=(if d.op=0 then 0 else 1)+aJ ks):=rfl
  unfold Nd.val
  simp only[Ex.d]
  obtain⟨op,tb,nm,ix,vk,vi,vt⟩:=d
  simp only
  simp only at x
  have D:=hid (Blk.of_new w 37 (eC op tb nm ix vk vi vt A n c))
  have y:=hid (x10 w (.cells #[i4 op,.string tb,.string nm,i4 ix,i4 vk,i4 vi,.string vt,.slice A n c] 37))
  go_enter func113,ntmps113
  go_wp2_with fail
  generalize w.alloc (.cells #[i4 op,.string tb,.string nm,i4 ix,i4 vk,i4 vi,.string vt,.slice A n c] 37)=L at*
  generalize w.heap.size=g at*
  go_loopw [3,9] (fun nv iv wr=> ∃(r k:Nat),k≤n∧r≤100000000∧nv= i4 r∧iv= i4 k∧r=aJ (ks.take k)∧Ext L wr) (fun _ i _=>n- (intOf i).toNat)
  case atStart=>exact⟨0,0,Nat.zero_le _,by omega,rfl,rfl,rfl,Ext.refl L⟩
  case round=>
   obtain⟨r,k,hk,Z,rfl,rfl,B,a⟩:=hrel
   have l:=hid a
   have j:=hid B
   have c7:=(D.ext a).cell 7
   have c0:=(D.ext a).cell 0
   simp only[g10,g11]at c7 c0
   by_cases z:k<n
   ·obtain⟨m,t⟩:=fd F z
    obtain⟨b,ac,O,n',c',rfl,q0,q1,q2,q3,q4,q5,q6,q7,s⟩:=((R.ext y).ext a).get t
    have V:=hid s
    have G:=hid (gG t)
    have U:=hid (pr t)
    have E:Hid (m.nodes≤100000000):=by unfold Hid;have:=nw G;have:=u.out;omega
    have Y:m.depth≤100000000:=by have:=(fh [m]).2 m (by simp);have:=E.out;omega
    clear t s a B
    go_wp2_with (go_at_call 113;refine(Q m G O n' c' _ (V.ext (x10 wr _)) E).mono ?_;rintro _ w2 ⟨rfl,C⟩)
    go_roundw
    case rel=>
     refine⟨max r m.depth,k+1,by omega,by omega,?_,by go_num,?_,(l.alloc _).trans C⟩
     ·congr 1;omega
     ·rw[U.out,j.out]
    case measure=>simp[intOf];omega
   ·obtain rfl:k=n:=by omega
    have H:Hid (ks.take k=ks):=take_of_length_le (Nat.le_of_eq F)
    clear B
    by_cases o:op=0
    ·have X:(op !=0)=false:=by simp[o]
     have f:Hid ((Ex.mk ⟨op,tb,nm,ix,vk,vi,vt⟩ ks).depth=r):=by unfold Hid;rw[x.out,if_pos o,j.out,H.out,Nat.zero_add]
     clear o
     go_wp2_with fail
     go_ret
     exact⟨aM (by rw[f.out]),y.trans l⟩
    ·have X:(op !=0)=true:=by simpa using o
     have f:Hid (((Ex.mk ⟨op,tb,nm,ix,vk,vi,vt⟩ ks).depth:Int)=(r:Int)+1):=by unfold Hid;rw[x.out,if_neg o,j.out,H.out];omega
     clear o
     go_wp2_with fail
     go_ret
     exact⟨aM (by rw[f.out]),y.trans l⟩
theorem pt:∀(e:Ex) (A:OA) (n c:Nat) (w:World),ExV w e A n c→e.nodes≤100000000→
  Cl 74 #[e.d.val A n c] w (Rt (i4 (e.depth:Int)) w):=by
 intro e
 induction e using Ex.ind with
 |h d ks ih=>
  intro A n c w hv K
  obtain⟨I,h2,W,J⟩:=hv
  have F:Hid (ks.length=n):=I
  have R:Hid (KidsAt w A ks):=J
  have Q:=hid ih
  have p:nodesL ks≤100000000:=by rw[jM]at K;omega
  have u:=hid p
  have HD:Hid (aJ ks≤nodesL ks):=(fh ks).1
  clear I J ih W K p
  have x:Hid ((Ex.mk d ks).depth=(if d.op=0 then 0 else 1)+aJ ks):=rfl
  unfold Nd.val
  simp only[Ex.d]
  obtain⟨op,tb,nm,ix,vk,vi,vt⟩:=d
  simp only
  simp only at x
  have D:=hid (Blk.of_new w 37 (eC op tb nm ix vk vi vt A n c))
  have y:=hid (x10 w (.cells #[i4 op,.string tb,.string nm,i4 ix,i4 vk,i4 vi,.string vt,.slice A n c] 37))
  go_enter func74,ntmps74
  go_wp2_with fail
  generalize w.alloc (.cells #[i4 op,.string tb,.string nm,i4 ix,i4 vk,i4 vi,.string vt,.slice A n c] 37)=L at*
  generalize w.heap.size=g at*
  go_loopw [3,4] (fun nv iv wr=> ∃(r k:Nat),k≤n∧r≤100000000∧nv= i4 r∧iv= i4 k∧r=aJ (ks.take k)∧Ext L wr) (fun _ i _=>n- (intOf i).toNat)
  case atStart=>exact⟨0,0,Nat.zero_le _,by omega,rfl,rfl,rfl,Ext.refl L⟩
  case round=>
   obtain⟨r,k,hk,Z,rfl,rfl,B,a⟩:=hrel
   have l:=hid a
   have j:=hid B
   have c7:=(D.ext a).cell 7
   have c0:=(D.ext a).cell 0
   simp only[g10,g11]at c7 c0
   by_cases z:k<n
   ·obtain⟨m,t⟩:=fd F z
    obtain⟨b,ac,O,n',c',rfl,q0,q1,q2,q3,q4,q5,q6,q7,s⟩:=((R.ext y).ext a).get t
    have V:=hid s
    have G:=hid (gG t)
    have U:=hid (pr t)
    have E:Hid (m.nodes≤100000000):=by unfold Hid;have:=nw G;have:=u.out;omega
    have Y:m.depth≤100000000:=by have:=(fh [m]).2 m (by simp);have:=E.out;omega
    clear t s a B
    go_wp2_with (go_at_call 74;refine(Q m G O n' c' _ (V.ext (Ext.refl wr)) E).mono ?_;rintro _ w2 ⟨rfl,C⟩)
    go_roundw
    case rel=>
     refine⟨max r m.depth,k+1,by omega,by omega,?_,by go_num,?_,l.trans C⟩
     ·congr 1;omega
     ·rw[U.out,j.out]
    case measure=>simp[intOf];omega
   ·obtain rfl:k=n:=by omega
    have H:Hid (ks.take k=ks):=take_of_length_le (Nat.le_of_eq F)
    clear B
    by_cases o:op=0
    ·have X:(op !=0)=false:=by simp[o]
     have f:Hid ((Ex.mk ⟨op,tb,nm,ix,vk,vi,vt⟩ ks).depth=r):=by unfold Hid;rw[x.out,if_pos o,j.out,H.out,Nat.zero_add]
     clear o
     go_wp2_with fail
     go_ret
     exact⟨aM (by rw[f.out]),y.trans l⟩
    ·have X:(op !=0)=true:=by simpa using o
     have f:Hid (((Ex.mk ⟨op,tb,nm,ix,vk,vi,vt⟩ ks).depth:Int)=(r:Int)+1):=by unfold Hid;rw[x.out,if_neg o,j.out,H.out];omega
     clear o
     go_wp2_with fail
     go_ret
     exact⟨aM (by rw[f.out]),y.trans l⟩
theorem kid_nodes {l:List Ex} {k:Nat} {d:Nd} {ks:List Ex} (h:l[k]? =some (.mk d ks)):nodesL (l.take (k+1))=nodesL (l.take k)+((if d.op=0 then 0 else 1)+nodesL ks):=pq h
theorem pu (l:List Ex) (k:Nat):nodesL (l.take k)≤nodesL l:=by
 have:=dc (l.take k) (l.drop k)
 rw[take_append_drop]at this
 omega
theorem size_ks (d:Nd) (ks:List Ex):(Ex.mk d ks).size=1+sizeL ks:=rfl
theorem ux:∀(N:Nat) (l:List Ex) (A:OA) (n c L:Nat) (w:World),sizeL l≤N→l.length=n→n≤9223372036854775807→KidsAt w A l→L≤100000→
  Cl 110 #[.slice A n c,i4 (L:Int)] w (Rt (i4 ((min (nodesL l) (L+1):Nat):Int)) w):=by
 intro N
 induction N with
 |zero=>
  intro l A n c L w J I hn Q hL
  have:l= []:=by
   cases l with
   |nil=>rfl
   |cons a l=>rw[sizeL]at J;have:=dX a;omega
  subst this
  obtain rfl:n=0:=I.symm
  go_enter func110,ntmps110
  go_wp2_with fail
  go_loop [5,10] (fun Y X=>Y= i4 0∧X= i4 0) (fun _ _=>0)
  case atStart=>exact⟨rfl,rfl⟩
  case round=>
   obtain⟨rfl,rfl⟩:=hrel
   go_wp2_with fail
   go_ret
   exact⟨aM (by simp[nodesL]),Ext.refl w⟩
 |succ N ih=>
  intro l A n c L w J I hn Q hL
  have HZ:=hid J
  have HL:=hid I
  have HK:=hid Q
  have HI:=hid ih
  clear J I Q ih
  go_enter func110,ntmps110
  go_wp2_with fail
  go_loopw [5,10] (fun Y X wr=> ∃(r k:Nat),k≤n∧r≤L∧Y= i4 r∧X= i4 k∧r=nodesL (l.take k)∧Ext w wr) (fun _ i _=>n- (intOf i).toNat)
  case atStart=>exact⟨0,0,Nat.zero_le _,Nat.zero_le _,rfl,rfl,rfl,Ext.refl w⟩
  case round=>
   obtain⟨r,k,ac,ad,rfl,rfl,V,t⟩:=hrel
   have j:=hid t
   have p:=hid V
   by_cases R:k<n
   ·obtain⟨e',H⟩:=fd HL R
    obtain⟨b,ag,E,D,c',rfl,q0,q1,q2,q3,q4,q5,q6,q7,s⟩:=(HK.ext t).get H
    have F:=hid s
    have HM:=hid (gG H)
    obtain⟨⟨op,tb,nm,ix,vk,vi,vt⟩,ks⟩:=e'
    simp only[Ex.d]at q0 q1 q2 q3 q4 q5 q6
    have HS:=hid (kid_nodes H)
    have B:D≤9223372036854775807:=s.le
    have y:Hid (sizeL ks≤N):=by unfold Hid;have:=gf HM;rw[size_ks]at this;have:=HZ.out;omega
    have z:=hid (pu l (k+1))
    clear H s t V
    by_cases u:op=0
    ·have hb:(op !=0)=false:=by simp[u]
     have h:Hid (nodesL (l.take (k+1))=r+nodesL ks):=by unfold Hid;rw[HS.out,if_pos u,←p.out,Nat.zero_add]
     obtain⟨m,C⟩:∃m,min (nodesL ks) (L-r+1)=m:=⟨_,rfl⟩
     have f:=hid C
     have U:m≤100001:=by omega
     clear u C
     have o:((L-r:Nat):Int)=(L:Int)- (r:Int):=by omega
     have x:Hid (∀W,Ext wr W→Cl 110 #[.slice E D c',i4 ((L:Int)- (r:Int))] W (Rt (i4 (m:Int)) W)):=by
      intro W O
      rw[←o,←f.out]
      exact HI ks E D c' (L-r) W y F.len B (F.kids.ext O) (by omega)
     clear o
     by_cases K:r+m≤L
     ·have e:Hid (r+m=nodesL (l.take (k+1))):=by unfold Hid;have:=f.out;rw[h.out];omega
      have G:decide ((L:Int)<(r:Int)+(m:Int))=false:=by simp;omega
      go_wp2_with (go_at_call 110;refine(x _ (x10 wr _)).mono ?_;rintro _ Z ⟨rfl,g⟩)
      go_roundw
      case rel=>exact⟨r+m,k+1,by omega,by omega,by go_num,by go_num,e,(j.alloc _).trans g⟩
      case measure=>simp[intOf];omega
     ·have e:Hid (r+m=L+1∧L+1≤nodesL l):=by unfold Hid;have:=f.out;have:=h.out;have:=z.out;omega
      have G:decide ((L:Int)<(r:Int)+(m:Int))=true:=by simp;omega
      clear K
      go_wp2_with (go_at_call 110;refine(x _ (x10 wr _)).mono ?_;rintro _ Z ⟨rfl,g⟩)
      go_ret
      exact⟨aM (by have:=e.out;omega),(j.alloc _).trans g⟩
    ·have hb:(op !=0)=true:=by simpa using u
     have h:Hid (nodesL (l.take (k+1))=r+1+nodesL ks):=by unfold Hid;rw[HS.out,if_neg u,←p.out,Nat.add_assoc]
     clear u
     by_cases h1:r+1≤L
     ·obtain⟨m,C⟩:∃m,min (nodesL ks) (L- (r+1)+1)=m:=⟨_,rfl⟩
      have f:=hid C
      have U:m≤100001:=by omega
      clear C
      have o:((L- (r+1):Nat):Int)=(L:Int)- ((r:Int)+1):=by omega
      have x:Hid (∀W,Ext wr W→Cl 110 #[.slice E D c',i4 ((L:Int)- ((r:Int)+1))] W (Rt (i4 (m:Int)) W)):=by
       intro W O
       rw[←o,←f.out]
       exact HI ks E D c' (L- (r+1)) W y F.len B (F.kids.ext O) (by omega)
      clear o
      have g1:decide ((r:Int)+1≤(L:Int))=true:=by simp;omega
      by_cases K:r+1+m≤L
      ·have e:Hid (r+1+m=nodesL (l.take (k+1))):=by unfold Hid;have:=f.out;rw[h.out];omega
       have G:decide ((L:Int)<(r:Int)+1+(m:Int))=false:=by simp;omega
       go_wp2_with (go_at_call 110;refine(x _ (x10 wr _)).mono ?_;rintro _ Z ⟨rfl,g⟩)
       go_roundw
       case rel=>exact⟨r+1+m,k+1,by omega,by omega,by go_num,by go_num,e,(j.alloc _).trans g⟩
       case measure=>simp[intOf];omega
      ·have e:Hid (r+1+m=L+1∧L+1≤nodesL l):=by unfold Hid;have:=f.out;have:=h.out;have:=z.out;omega
       have G:decide ((L:Int)<(r:Int)+1+(m:Int))=true:=by simp;omega
       clear K
       go_wp2_with (go_at_call 110;refine(x _ (x10 wr _)).mono ?_;rintro _ Z ⟨rfl,g⟩)
       go_ret
       exact⟨aM (by have:=e.out;omega),(j.alloc _).trans g⟩
     ·have e:Hid (r=L∧L+1≤nodesL l):=by unfold Hid;have:=h.out;have:=z.out;omega
      have g1:decide ((r:Int)+1≤(L:Int))=false:=by simp;omega
      have G:decide ((L:Int)<(r:Int)+1)=true:=by simp;omega
      clear h1
      go_wp2_with fail
      go_ret
      exact⟨aM (by have:=e.out;omega),j.alloc _⟩
   ·obtain rfl:k=n:=by omega
    have z:Hid (l.take k=l):=take_of_length_le (Nat.le_of_eq HL)
    clear V
    go_wp2_with fail
    go_ret
    exact⟨aM (by rw[←z.out,←p.out];omega),j⟩
theorem uy:∀(e:Ex) (A:OA) (n c L:Nat) (w:World),ExV w e A n c→L≤100000→
  Cl 73 #[e.d.val A n c,i4 (L:Int)] w (Rt (i4 ((min e.nodes (L+1):Nat):Int)) w):=by
 intro e
 induction e using Ex.ind with
 |h d ks ih=>
  intro A n c L w hv hL
  obtain⟨O,h2,h3,W⟩:=hv
  have V:Hid (ks.length=n):=O
  have HK:Hid (KidsAt w A ks):=W
  have HI:=hid ih
  clear O W ih h3
  have C:=hid (jM d ks)
  unfold Nd.val
  simp only[Ex.d]
  obtain⟨op,tb,nm,ix,vk,vi,vt⟩:=d
  simp only
  simp only at C
  have HB:=hid (Blk.of_new w 37 (eC op tb nm ix vk vi vt A n c))
  have J:=hid (x10 w (.cells #[i4 op,.string tb,.string nm,i4 ix,i4 vk,i4 vi,.string vt,.slice A n c] 37))
  obtain⟨a,u,ac,j⟩:∃(a:Nat) (u:Bool),(op !=0)=u∧(u=true∧a=1∨u=false∧a=0)∧(Ex.mk ⟨op,tb,nm,ix,vk,vi,vt⟩ ks).nodes=a+nodesL ks:=by
   by_cases h:op=0
   ·exact⟨0,false,by simp[h],.inr ⟨rfl,rfl⟩,by rw[C.out,if_pos h]⟩
   ·exact⟨1,true,by simpa using h,.inl ⟨rfl,rfl⟩,by rw[C.out,if_neg h]⟩
  obtain⟨x,j⟩:=j
  have G:Hid (∃a:Nat,(Ex.mk ⟨op,tb,nm,ix,vk,vi,vt⟩ ks).nodes=a+nodesL ks∧(u=true∧a=1∨u=false∧a=0)):=⟨a,j,x⟩
  clear j C
  rcases x with ⟨rfl,rfl⟩|⟨rfl,rfl⟩
  all_goals
   go_enter func73,ntmps73
   go_wp2_with fail
   generalize w.alloc (.cells #[i4 op,.string tb,.string nm,i4 ix,i4 vk,i4 vi,.string vt,.slice A n c] 37)=Z at*
   generalize w.heap.size=g at*
   go_loopw [5,6] (fun nv iv wr=> ∃(r k:Nat),k≤n∧r≤L+1∧nv= i4 r∧iv= i4 k∧(∃a:Nat,(Ex.mk ⟨op,tb,nm,ix,vk,vi,vt⟩ ks).nodes=a+nodesL ks∧r=min (a+nodesL (ks.take k)) (L+1))∧Ext Z wr) (fun _ i _=>n- (intOf i).toNat)
   case atStart=>
    obtain⟨a,t,f⟩:=G.out
    refine⟨a,0,Nat.zero_le _,by omega,?_,rfl,⟨a,t,by simp[nodesL];omega⟩,Ext.refl Z⟩
    rcases f with ⟨f,rfl⟩|⟨f,rfl⟩
    ·first|rfl|cases f
    ·first|rfl|cases f
   case round=>
    obtain⟨r,k,hk,ag,rfl,rfl,E,l⟩:=hrel
    have s:=hid l
    have p:=hid E
    have c7:=(HB.ext l).cell 7
    simp only[g10,g11]at c7
    by_cases Q:k<n
    ·by_cases z:r≤L
     ·obtain⟨K,D⟩:=fd V Q
      obtain⟨b,an,U,Y,c',rfl,q0,q1,q2,q3,q4,q5,q6,q7,B⟩:=((HK.ext J).ext l).get D
      have HV:=hid B
      have HM:=hid (gG D)
      have HS:=hid (pq D)
      obtain⟨m,X⟩:∃m,min K.nodes (L-r+1)=m:=⟨_,rfl⟩
      have o:=hid X
      have ad:m≤100001:=by omega
      clear X
      have y:((L-r:Nat):Int)=(L:Int)- (r:Int):=by omega
      have HC:Hid (Cl 73 #[K.d.val U Y c',i4 ((L:Int)- (r:Int))] wr (Rt (i4 (m:Int)) wr)):=by
       unfold Hid
       rw[←y,←o.out]
       exact HI K HM U Y c' (L-r) _ HV (by omega)
      have g1:decide ((r:Int)≤(L:Int))=true:=by simp;omega
      have H:Hid (∀a:Nat,r=min (a+nodesL (ks.take k)) (L+1)→r+m=min (a+nodesL (ks.take (k+1))) (L+1)):=by
       intro a h
       have O:=o.out
       rw[HS.out]
       omega
      clear D B l E y
      go_wp2_with (go_at_call 73;refine HC.mono ?_;rintro _ w2 ⟨rfl,R⟩)
      go_roundw
      case rel=>
       obtain⟨a,t,f⟩:=p.out
       refine⟨r+m,k+1,by omega,by have:=o.out;omega,by go_num,by go_num,⟨a,t,H a f⟩,s.trans R⟩
      case measure=>simp[intOf];omega
     ·have g1:decide ((r:Int)≤(L:Int))=false:=by simp;omega
      have I:=hid (pu ks k)
      have F:=hid z
      clear E z
      go_wp2_with fail
      go_ret
      obtain⟨a,t,f⟩:=p.out
      exact⟨aM (by have:=I.out;have:=F.out;rw[t];omega),J.trans s⟩
    ·obtain rfl:k=n:=by omega
     have I:Hid (ks.take k=ks):=take_of_length_le (Nat.le_of_eq V)
     clear E
     go_wp2_with fail
     go_ret
     obtain⟨a,t,f⟩:=p.out
     exact⟨aM (by rw[f,t,I.out]),J.trans s⟩
def jN (b:Bool) (r:Ending):Prop:=∃x:Int,I64 x∧r= .returned (i4 x)∧decide (0≤x)=b
theorem pw {α:Type} {l:List α} {k:Nat} {e:α} {p:α→Bool} (h:l[k]? =some e) (a:p e=true):l.any p=true:=List.any_eq_true.2 ⟨e,mem_of_getElem? h,a⟩
theorem mm {α:Type} {l:List α} {k:Nat} {e:α} {p:α→Bool} (h:l[k]? =some e) (a:(l.take k).any p=false) (b:p e=false):(l.take (k+1)).any p=false:=by
 obtain⟨hi,rfl⟩:=List.getElem?_eq_some_iff.1 h
 rw[take_succ_eq_append_getElem hi,any_append,a]
 simp[b]
theorem sM {α:Type} {l:List α} {n:Nat} {p:α→Bool} (b:l.length=n) (a:(l.take n).any p=false):l.any p=false:=by
 rwa [take_of_length_le (by omega)]at a
def Ent (F:FuncId):Prop:=∀(args:Array Value) (W:World),(callFunc F args).run prog W= .ok (.enter F args) W
theorem index_ex (F:FuncId) (L:Ent F) (p:Ex→Bool) (l:List Ex) (A:OA) (n c:Nat) (w:World) (H:l.length=n) (V:n≤9223372036854775807) (G:KidsAt w A l)
  (E:∀x∈l,∀(o:OA) (u c':Nat) (W:World),Ext w W→ExV W x o u c'→Cl F #[x.d.val o u c'] W fun r K=>r= .returned (.bool (p x))∧Ext W K):
  Cl 179 #[.slice A n c,.func (Fn.func F) #[] #[]] w fun r w'=>jN (l.any p) r∧Ext w w':=by
 unfold Ent at L
 have C:=hid H
 have J:=hid G
 have I:=hid E
 clear H G E
 go_enter func179,ntmps179
 go_wp2_with fail
 go_loopw [5,8] (fun _ Q wr=> ∃(k:Nat),k≤n∧Q= i4 k∧(l.take k).any p=false∧Ext w wr) (fun _ i _=>n- (intOf i).toNat)
 case atStart=>exact⟨0,Nat.zero_le _,rfl,rfl,Ext.refl w⟩
 case round=>
  obtain⟨k,O,rfl,z,a⟩:=hrel
  have e:=hid a
  have j:=hid z
  by_cases y:k<n
  ·obtain⟨D,t⟩:=fd C y
   obtain⟨b,R,o,u,c',rfl,X,Y,Z,q3,q4,q5,q6,q7,m⟩:=(J.ext a).get t
   have s:=hid (I D (gG t) o u c' _ a m)
   have B:=hid t
   clear t m a z
   cases g:p D
   ·rw[g]at s
    have h:Hid ((l.take (k+1)).any p=false):=mm B j g
    clear g
    go_wp2_with fail
    refine s.mono ?_
    rintro _ U ⟨rfl,f⟩
    go_wp2_with fail
    go_roundw
    case rel=>exact⟨k+1,by omega,by go_num,h,e.trans f⟩
    case measure=>simp[intOf];omega
   ·rw[g]at s
    have h:Hid (l.any p=true):=pw B g
    clear g
    go_wp2_with fail
    refine s.mono ?_
    rintro _ U ⟨rfl,f⟩
    go_wp2_with fail
    go_ret
    exact⟨⟨k,⟨by omega,by omega⟩,rfl,by rw[h.out];simp⟩,e.trans f⟩
  ·obtain rfl:k=n:=by omega
   have h:Hid (l.any p=false):=sM C j
   clear z
   go_wp2_with fail
   go_ret
   exact⟨⟨-1,⟨by omega,by omega⟩,rfl,by rw[h.out];rfl⟩,e⟩
theorem ent101:Ent 154:=fun _ _=>by kernel_rfl
theorem jd (op:Int) (w:World):Cl 153 #[i4 op] w fun r w'=>r= .returned (i4 (opN op))∧w=w':=by
 go_enter func153,ntmps153
 go_wp2_with fail
 all_goals
  go_ret
  refine⟨aM ?_,rfl⟩
  simp only[beq_iff_eq,beq_eq_false_iff_ne]at*
  unfold opN
  first|rw[if_pos (by omega)]|rw[if_neg (by omega),if_pos (by omega)]|rw[if_neg (by omega),if_neg (by omega),if_pos (by omega)]|rw[if_neg (by omega),if_neg (by omega),if_neg (by omega)]
theorem px (op:Int) (w:World):Cl 158 #[i4 op] w fun r w'=>r= .returned (i4 (opN op))∧w=w':=by
 go_enter func158,ntmps158
 go_wp2_with fail
 all_goals
  go_ret
  refine⟨aM ?_,rfl⟩
  simp only[beq_iff_eq,beq_eq_false_iff_ne]at*
  unfold opN
  first|rw[if_pos (by omega)]|rw[if_neg (by omega),if_pos (by omega)]|rw[if_neg (by omega),if_neg (by omega),if_pos (by omega)]|rw[if_neg (by omega),if_neg (by omega),if_neg (by omega)]
theorem fo (x lo hi:Int) (w:World):Cl 197 #[i4 x,i4 lo,i4 hi] w fun r w'=>r= .returned (.bool (decide (lo≤x) &&decide (x≤hi)))∧w=w':=by
 by_cases h:lo≤x
 ·have hd:decide (lo≤x)=true:=by simpa using h
  have a:=hid hd
  clear h
  go_enter func197,ntmps197
  go_wp2_with fail
  go_ret
  clear hd
  exact⟨aa (by rw[a.out,Bool.true_and]),rfl⟩
 ·have hd:decide (lo≤x)=false:=by simpa using h
  have a:=hid hd
  clear h
  go_enter func197,ntmps197
  go_wp2_with fail
  go_ret
  clear hd
  exact⟨aa (by rw[a.out,Bool.false_and]),rfl⟩
theorem ik (x:Int) (w:World):Cl 219 #[i4 x] w fun r w'=>r= .returned (.bool (decide (0≤x) &&decide (x≤2147483648)))∧w=w':=by
 by_cases h:0≤x
 ·have hd:decide (0≤x)=true:=by simpa using h
  have a:=hid hd
  clear h
  go_enter func219,ntmps219
  go_wp2_with fail
  go_ret
  clear hd
  exact⟨aa (by rw[a.out,Bool.true_and]),rfl⟩
 ·have hd:decide (0≤x)=false:=by simpa using h
  have a:=hid hd
  clear h
  go_enter func219,ntmps219
  go_wp2_with fail
  go_ret
  clear hd
  exact⟨aa (by rw[a.out,Bool.false_and]),rfl⟩
def prn (l:List Nat):Bool:=l.all fun c=>decide (32≤c) &&decide (c≤126)
theorem iL (s:BA):hU s=(prn (N s) &&decide (s.size≤16)):=rfl
theorem py {s:BA} {k:Nat} {p:Nat→Bool} (b:k<s.size) (h:((N s).take k).all p=true) (a:p s[k].toNat=true):((N s).take (k+1)).all p=true:=by
 rw[ua s k b,all_append,h]
 simp[a]
theorem ny {s:BA} {k:Nat} {p:Nat→Bool} (b:k<s.size) (a:p s[k].toNat=false):(N s).all p=false:=by
 rw[all_eq_false]
 exact⟨s[k].toNat,mem_of_getElem? (N_get s k b),by simp[a]⟩
theorem sO {s:BA} {k:Nat} {p:Nat→Bool} (a:s.size≤k) (h:((N s).take k).all p=true):(N s).all p=true:=by
 rwa [take_of_length_le (by rw[N_len];exact a)]at h
theorem text_any (s:BA) (w:World) (hs:s.size≤9223372036854775807):Cl 221 #[.string s] w fun r w'=>r= .returned (.bool (hU s))∧w=w':=by
 go_enter func221,ntmps221
 go_wp2_with fail
 go_loop [3,6] (fun _ i=> ∃k:Nat,k≤s.size∧i= i4 k∧prn ((N s).take k)=true) (fun _ i=>s.size- (intOf i).toNat)
 case atStart=>exact⟨0,Nat.zero_le _,rfl,rfl⟩
 case round=>
  obtain⟨k,m,rfl,h⟩:=hrel
  have g:=hid h
  clear h
  by_cases b:k<s.size
  ·by_cases e:32≤s[k].toNat
   ·have j:decide ((s[k].toNat:Int)<32)=false:=by simp;omega
    by_cases f:s[k].toNat≤126
    ·have l:decide (126<(s[k].toNat:Int))=false:=by simp;omega
     have a:Hid (prn ((N s).take (k+1))=true):=py b g (by simp[e,f])
     clear e f
     go_wp2_with fail
     go_round
     case rel=>exact⟨k+1,by omega,by go_num,a⟩
     case measure=>simp[intOf];omega
    ·have l:decide (126<(s[k].toNat:Int))=true:=by simp;omega
     have a:Hid (prn (N s)=false):=ny b (by simp[f])
     clear e f
     go_wp2_with fail
     go_ret
     exact⟨aa (by rw[iL,a.out];rfl),rfl⟩
   ·have j:decide ((s[k].toNat:Int)<32)=true:=by simp;omega
    have a:Hid (prn (N s)=false):=ny b (by simp[e])
    clear e
    go_wp2_with fail
    go_ret
    exact⟨aa (by rw[iL,a.out];rfl),rfl⟩
  ·have a:Hid (prn (N s)=true):=sO (by omega) g
   go_wp2_with fail
   go_ret
   exact⟨aa (by rw[iL,a.out,Bool.true_and,Bool.eq_iff_iff];simp;omega),rfl⟩
theorem rtext_any (s:BA) (w:World) (hs:s.size≤9223372036854775807):Cl 223 #[.string s] w fun r w'=>r= .returned (.bool (hU s))∧w=w':=by
 go_enter func223,ntmps223
 go_wp2_with fail
 go_loop [3] (fun i=> ∃k:Nat,k≤s.size∧i= i4 k∧prn ((N s).take k)=true) (fun i=>s.size- (intOf i).toNat)
 case atStart=>exact⟨0,Nat.zero_le _,rfl,rfl⟩
 case round=>
  obtain⟨k,m,rfl,h⟩:=hrel
  have g:=hid h
  clear h
  by_cases b:k<s.size
  ·by_cases e:32≤s[k].toNat
   ·have j:decide ((s[k].toNat:Int)<32)=false:=by simp;omega
    by_cases f:s[k].toNat≤126
    ·have l:decide (126<(s[k].toNat:Int))=false:=by simp;omega
     have a:Hid (prn ((N s).take (k+1))=true):=py b g (by simp[e,f])
     clear e f
     go_wp2_with fail
     go_round
     case rel=>exact⟨k+1,by omega,by go_num,a⟩
     case measure=>simp[intOf];omega
    ·have l:decide (126<(s[k].toNat:Int))=true:=by simp;omega
     have a:Hid (prn (N s)=false):=ny b (by simp[f])
     clear e f
     go_wp2_with fail
     go_ret
     exact⟨aa (by rw[iL,a.out];rfl),rfl⟩
   ·have j:decide ((s[k].toNat:Int)<32)=true:=by simp;omega
    have a:Hid (prn (N s)=false):=ny b (by simp[e])
    clear e
    go_wp2_with fail
    go_ret
    exact⟨aa (by rw[iL,a.out];rfl),rfl⟩
  ·have a:Hid (prn (N s)=true):=sO (by omega) g
   go_wp2_with fail
   go_ret
   exact⟨aa (by rw[iL,a.out,Bool.true_and,Bool.eq_iff_iff];simp;omega),rfl⟩
theorem str0 (s:BA):s.toList= []↔s.size=0:=by
 rw[ByteArray.toList_eq]
 constructor
 ·intro h;show s.data.size=0;rw[←Array.length_toList,h];rfl
 ·intro h
  have h:s.data.size=0:=h
  exact eq_nil_of_length_eq_zero (by rw[Array.length_toList];exact h)
theorem eo (s:BA):(s.size==0)=s.toList.isEmpty:=by
 rw[Bool.eq_iff_iff,beq_iff_eq,isEmpty_iff];exact(str0 s).symm
theorem bF {s:BA} (h:s.size=0):s=⟨#[]⟩:=by
 apply N_inj
 rw[N_nil']
 exact eq_nil_of_length_eq_zero (by rw[N_len];exact h)
theorem bV {s:BA} (h:¬s.size=0):¬s.toList= []:=fun e=>h ((str0 s).1 e)
theorem bH {s:BA} (h:¬s.size=0):s.toList.isEmpty=false:=by
 rw[←eo,beq_eq_false_iff_ne];exact h
theorem literal_any (vk vi:Int) (vt:BA) (w:World) (hs:vt.size≤9223372036854775807) (d:Nd) (i:d.vk=vk) (j:d.vi=vi) (k:d.vt=vt):
  Cl 155 #[.agg #[i4 vk,i4 vi,.string vt]] w (Rt (.bool d.litB) w):=by
 subst i j k
 by_cases a:d.vk=0
 ·have f:Hid (d.litB=(d.vi==0&&d.vt.size==0)):=by unfold Hid Nd.litB;rw[if_pos a]
  generalize d.litB=L at*
  obtain⟨op,tb,nm,ix,vk,vi,vt⟩:=d
  simp only at*
  subst a
  go_enter func155,ntmps155
  go_wp2_with fail
  all_goals
   go_ret
   refine⟨aa ?_,x10 w _⟩
   rw[f.out,eo]
   simp[*]
 ·by_cases b:d.vk=1
  ·have f:Hid (d.litB=(decide (0≤d.vi) &&decide (d.vi≤2147483648) &&d.vt.size==0)):=by unfold Hid Nd.litB;rw[if_neg a,if_pos b]
   generalize d.litB=L at*
   obtain⟨op,tb,nm,ix,vk,vi,vt⟩:=d
   simp only at*
   subst b
   clear a
   by_cases g:vt.size=0
   ·obtain rfl:=bF g
    go_enter func155,ntmps155
    go_wp2_with (go_at_call 197;refine(fo _ _ _ _).mono ?_;rintro _ m ⟨rfl,rfl⟩)
    go_ret
    exact⟨aa (by rw[f.out];simp;intros;rfl),x10 w _⟩
   ·have l:=bV g
    have h:Hid (L=false):=by unfold Hid;rw[f.out];simp[g]
    clear g
    go_enter func155,ntmps155
    go_wp2_with fail
    go_ret
    exact⟨aa h.symm,x10 w _⟩
  ·by_cases e:d.vk=2
   ·have f:Hid (d.litB=(d.vi==0&&hU d.vt)):=by unfold Hid Nd.litB;rw[if_neg a,if_neg b,if_pos e]
    generalize d.litB=L at*
    obtain⟨op,tb,nm,ix,vk,vi,vt⟩:=d
    simp only at*
    subst e
    clear a b
    by_cases g:vi=0
    ·subst g
     go_enter func155,ntmps155
     go_wp2_with (go_at_call 221;refine(text_any _ _ hs).mono ?_;rintro _ m ⟨rfl,rfl⟩)
     go_ret
     exact⟨aa (by rw[f.out];simp),x10 w _⟩
    ·have h:Hid (L=false):=by unfold Hid;rw[f.out];simp[g]
     have s:(vi==0)=false:=by simpa using g
     clear g
     go_enter func155,ntmps155
     go_wp2_with fail
     go_ret
     exact⟨aa h.symm,x10 w _⟩
   ·have f:Hid (d.litB=false):=by unfold Hid Nd.litB;rw[if_neg a,if_neg b,if_neg e]
    generalize d.litB=L at*
    obtain⟨op,tb,nm,ix,vk,vi,vt⟩:=d
    simp only at*
    have n:(vk==0)=false:=by simpa using a
    have o:(vk==1)=false:=by simpa using b
    have p:(vk==2)=false:=by simpa using e
    clear a b e
    go_enter func155,ntmps155
    go_wp2_with fail
    go_ret
    exact⟨aa f.symm,x10 w _⟩
theorem sP (vk vi:Int) (vt:BA) (w:World) (hs:vt.size≤9223372036854775807) (d:Nd) (l:d.vk=vk) (m:d.vi=vi) (n:d.vt=vt):
  Cl 159 #[.agg #[i4 vk,i4 vi,.string vt]] w (Rt (.bool d.litB) w):=by
 subst l m n
 by_cases a:d.vk=0
 ·have e:Hid (d.litB=(d.vi==0&&d.vt.size==0)):=by unfold Hid Nd.litB;rw[if_pos a]
  generalize d.litB=L at*
  obtain⟨op,tb,nm,ix,vk,vi,vt⟩:=d
  simp only at*
  subst a
  by_cases g:vi=0
  ·subst g
   go_enter func159,ntmps159
   go_wp2_with fail
   go_ret
   exact⟨aa (by rw[e.out,eo];simp),x10 w _⟩
  ·have h:Hid (L=false):=by unfold Hid;rw[e.out];simp[g]
   have o:(vi==0)=false:=by simpa using g
   clear g
   go_enter func159,ntmps159
   go_wp2_with fail
   go_ret
   exact⟨aa h.symm,x10 w _⟩
 ·by_cases b:d.vk=1
  ·have e:Hid (d.litB=(decide (0≤d.vi) &&decide (d.vi≤2147483648) &&d.vt.size==0)):=by unfold Hid Nd.litB;rw[if_neg a,if_pos b]
   generalize d.litB=L at*
   obtain⟨op,tb,nm,ix,vk,vi,vt⟩:=d
   simp only at*
   subst b
   clear a
   have i:=hid (ik vi)
   obtain⟨x,j⟩:∃x,(decide (0≤vi) &&decide (vi≤2147483648))=x:=⟨_,rfl⟩
   rw[j]at i e
   clear j
   cases x
   ·go_enter func159,ntmps159
    go_wp2_with (go_at_call 219;refine(i _).mono ?_;rintro _ k ⟨rfl,rfl⟩)
    go_ret
    exact⟨aa (by rw[e.out];rfl),x10 w _⟩
   ·go_enter func159,ntmps159
    go_wp2_with (go_at_call 219;refine(i _).mono ?_;rintro _ k ⟨rfl,rfl⟩)
    go_ret
    exact⟨aa (by rw[e.out,eo];simp),x10 w _⟩
  ·by_cases f:d.vk=2
   ·have e:Hid (d.litB=(d.vi==0&&hU d.vt)):=by unfold Hid Nd.litB;rw[if_neg a,if_neg b,if_pos f]
    generalize d.litB=L at*
    obtain⟨op,tb,nm,ix,vk,vi,vt⟩:=d
    simp only at*
    subst f
    clear a b
    by_cases g:vi=0
    ·subst g
     go_enter func159,ntmps159
     go_wp2_with (go_at_call 223;refine(rtext_any _ _ hs).mono ?_;rintro _ k ⟨rfl,rfl⟩)
     go_ret
     exact⟨aa (by rw[e.out];simp),x10 w _⟩
    ·have h:Hid (L=false):=by unfold Hid;rw[e.out];simp[g]
     have o:(vi==0)=false:=by simpa using g
     clear g
     go_enter func159,ntmps159
     go_wp2_with fail
     go_ret
     exact⟨aa h.symm,x10 w _⟩
   ·have e:Hid (d.litB=false):=by unfold Hid Nd.litB;rw[if_neg a,if_neg b,if_neg f]
    generalize d.litB=L at*
    obtain⟨op,tb,nm,ix,vk,vi,vt⟩:=d
    simp only at*
    have p:(vk==0)=false:=by simpa using a
    have s:(vk==1)=false:=by simpa using b
    have t:(vk==2)=false:=by simpa using f
    clear a b f
    go_enter func159,ntmps159
    go_wp2_with fail
    go_ret
    exact⟨aa e.symm,x10 w _⟩
theorem nA (e:Ex) (A:OA) (n c:Nat) (w:World):Cl 207 #[e.d.val A n c] w (Rt (i4 (lvl e.d.op)) w):=by
 unfold Nd.val
 generalize e.d=d
 obtain⟨op,tb,nm,ix,vk,vi,vt⟩:=d
 simp only
 go_enter func207,ntmps207
 go_wp2_with fail
 all_goals
  go_ret
  refine⟨aM ?_,x10 w _⟩
  simp only[beq_iff_eq,beq_eq_false_iff_ne]at*
  unfold lvl
  first|(exfalso;omega)|repeat (first|rw[if_pos (by omega)]|rw[if_neg (by omega)])
theorem pz (e:Ex) (A:OA) (n c:Nat) (w:World) (h:1≤e.d.op∧e.d.op≤20):Cl 90 #[e.d.val A n c] w (Rt (i4 (lvl e.d.op)) w):=by
 unfold Nd.val
 generalize e.d=d at*
 obtain⟨op,tb,nm,ix,vk,vi,vt⟩:=d
 simp only at*
 have H:=hid h
 clear h
 go_enter func90,ntmps90
 go_wp2_with fail
 all_goals
  go_ret
  refine⟨aM ?_,x10 w _⟩
  have h:=H.out
  simp only[beq_iff_eq,beq_eq_false_iff_ne,decide_eq_true_eq,decide_eq_false_iff_not]at*
  unfold lvl
  first|(exfalso;omega)|repeat (first|rw[if_pos (by omega)]|rw[if_neg (by omega)])
def pA:List (List Nat)→List Nat
 | []=> []
 |w::ws=>w++32::pA ws
theorem uz (s w r:List Nat) (hs:32∉s) (b:32∉w):(s++ [32])<+:(w++32::r)↔s=w:=by
 induction s generalizing w with
 |nil=>
  cases w with
  |nil=>simp
  |cons c w=>simp at b ⊢;exact b.1
 |cons a s ih=>
  cases w with
  |nil=>
   simp at hs ⊢
   intro h;exact absurd h.symm hs.1
  |cons c w=>
   simp at hs b
   simp only[cons_append,cons_prefix_cons,List.cons.injEq]
   rw[ih w hs.2 b.2]
theorem pB {a l:List Nat} {c:Nat} :a<:+:c::l↔a<+:c::l∨a<:+:l:=infix_cons_iff
theorem wz (s w r:List Nat) (a:32∉w):(32::s)<:+:(w++r)↔(32::s)<:+:r:=by
 induction w with
 |nil=>rfl
 |cons c w ih=>
  simp at a
  rw[cons_append,pB,ih a.2]
  constructor
  ·rintro(h|h)
   ·rw[cons_prefix_cons]at h;exact absurd h.1 a.1
   ·exact h
  ·exact .inr
theorem sQ (s:List Nat) (hs:32∉s):∀a:List (List Nat),(∀w∈a,32∉w)→((32::(s++ [32]))<:+:(32::pA a)↔s∈a):=by
 intro a
 induction a with
 |nil=>
  intro _
  constructor
  ·intro h
   have:=h.length_le
   simp[pA]at this
  ·intro h;cases h
 |cons w a ih=>
  intro e
  have b:=e w (by simp)
  rw[pA,pB,cons_prefix_cons,uz s w _ hs b,wz _ _ _ b,ih fun x f=>e x (by simp[f])]
  simp
theorem uA:∀w∈kwWords,32∉w:=by decide+kernel
def lx:List Nat:=32::pA kwWords
theorem kw_infix (s:List Nat) (hs:32∉s):(32::(s++ [32]))<:+:lx↔kwWords.contains s=true:=by
 unfold lx
 rw[sQ s hs kwWords uA,contains_iff_mem]
theorem occ_iff (s sub:List UInt8) (j:Nat):Lib.occAt s sub j=true↔sub<+:s.drop j:=by
 unfold Lib.occAt
 first|(rw[isPrefixOf_iff_prefix])|(simp[isPrefixOf_iff_prefix])
theorem pC (s sub:List UInt8):Lib.contains s sub=true↔sub<:+:s:=by
 unfold Lib.contains
 rw[decide_eq_true_eq]
 rcases Lib.index_spec s sub with ⟨h1,h2⟩|⟨i,h1,h2,h3,h4⟩
 ·constructor
  ·intro h;omega
  ·rintro⟨a,b,e⟩
   have f:a.length≤s.length:=by rw[←e];simp
   have:=h2 a.length f
   rw[←Bool.not_eq_true,occ_iff s sub _]at this
   exact absurd ⟨b,by rw[←e];simp⟩ this
 ·constructor
  ·intro _
   have:=(occ_iff s sub i).1 h3
   obtain⟨t,g⟩:=this
   exact⟨s.take i,t,by rw[append_assoc,g,take_append_drop]⟩
  ·intro _;omega
theorem infix_map {a b:List UInt8} :a.map UInt8.toNat<:+:b.map UInt8.toNat↔a<:+:b:=by
 have e:∀x y:List UInt8,x.map UInt8.toNat=y.map UInt8.toNat→x=y:=fun x y h=> (List.map_inj_right (f:=UInt8.toNat) fun a b h=>UInt8.toNat_inj.1 h).1 h
 constructor
 ·rintro⟨p,q,h⟩
  have j:=congrArg List.length h
  simp at j
  refine⟨b.take p.length,b.drop (p.length+a.length),?_⟩
  have g:(b.drop p.length).take a.length=a:=by
   apply e
   rw[map_take,map_drop,←h]
   simp[append_assoc]
  have i:(b.drop p.length)=a++b.drop (p.length+a.length):=by
   conv=>lhs;rw[←take_append_drop a.length (b.drop p.length),g,drop_drop]
  rw[append_assoc,←i,take_append_drop]
 ·rintro⟨p,q,h⟩
  exact⟨p.map UInt8.toNat,q.map UInt8.toNat,by rw[←h];simp⟩
def kwIn (s:BA):Bool:=Lib.contains (lx.map UInt8.ofNat) ((⟨#[32]⟩++s++⟨#[32]⟩:BA)).data.toList
theorem uB (s:BA) (h:32∉N s):kwIn s=kwWords.contains (N s):=by
 rw[Bool.eq_iff_iff]
 unfold kwIn
 rw[pC,←kw_infix (N s) h,←infix_map]
 have a:(lx.map UInt8.ofNat).map UInt8.toNat=lx:=by decide+kernel
 have b:((⟨#[32]⟩++s++⟨#[32]⟩:BA)).data.toList.map UInt8.toNat=32::(N s++ [32]):=by
  unfold N
  simp
 rw[a,b]
theorem uC {s:BA} (h:32∈N s):(N s).all eD=false:=by
 rw[all_eq_false]
 exact⟨32,h,by decide⟩
theorem name_kw {s:BA} (h:kwIn s=true):nameB s=false:=by
 unfold nameB lU
 by_cases hs:32∈N s
 ·rw[uC hs];simp
 ·rw[uB s hs]at h
  rw[h];simp
theorem name_nokw {s:BA} (h:kwIn s=false) (c:Nat) (r:List Nat) (a:N s=c::r) (b:jD c=true) (f:s.size≤24):nameB s=(N s).all eD:=by
 unfold nameB lU
 have e:iV (N s)=true:=by rw[a];exact b
 rw[e]
 by_cases hs:32∈N s
 ·rw[uC hs];simp
 ·rw[uB s hs]at h
  rw[h,N_len];simp[f]
def Sh (w:World):Prop:=∃m,w.cell? ⟨1,0,none⟩=some (i4 m)
theorem Sh.ext {w w':World} (h:Sh w) (a:Ext w w'):Sh w':=by
 obtain⟨m,h⟩:=h
 exact⟨m,a.keep h⟩
theorem sR (K s:BA) (w:World) (f:Sh w) (a:K=⟨(lx.map UInt8.ofNat).toArray⟩):
  Cl 181 #[.string K,.string (⟨#[32]⟩++s++⟨#[32]⟩)] w fun r w'=>r= .returned (.bool (kwIn s))∧w=w':=by
 obtain⟨m,b⟩:=f
 subst a
 refine(Tryz.strings_Contains _ _ m w (by show((lx.map UInt8.ofNat).toArray).size<_;decide+kernel) b).mono ?_
 rintro e w' ⟨rfl,rfl⟩
 exact⟨rfl,rfl⟩
theorem kH {s:BA} (h:s.size=0):nameB s=false:=by
 unfold nameB
 rw[show N s= [] from eq_nil_of_length_eq_zero (by rw[N_len];exact h)]
 rfl
theorem name_long {s:BA} (h:¬s.size≤24):nameB s=false:=by
 unfold nameB lU
 rw[N_len]
 simp[h]
theorem N_head {s:BA} (h:0<s.size):∃r,N s=s[0].toNat::r:=by
 have b:=N_get s 0 h
 cases e:N s with
 |nil=>rw[e]at b;cases b
 |cons a l=>rw[e]at b;simp at b;rw[b];exact⟨l,rfl⟩
theorem ly {s:BA} (h:0<s.size) (a:jD s[0].toNat=false):nameB s=false:=by
 obtain⟨r,b⟩:=N_head h
 unfold nameB lU
 rw[b]
 simp only[iV]
 rw[a];rfl
theorem name_any (s : BA) (w : World) (j : Sh w) (Q : s.size ≤ 9223372036854775807) : Cl 115 #[.string s] w fun r w' => r = .returned (.bool (nameB s)) ∧ w = w' := by
  by_cases m : s.size = 0
  · have z := kH m
    rw [z]
    obtain rfl := bF m
    clear m z
    go_enter func115, ntmps115
    go_wp2_with fail
    go_ret
    exact ⟨rfl, rfl⟩
  · have H := bV m
    have A := bH m
    have e : 0 < s.size := by omega
    by_cases a : s.size ≤ 24
    · have u : decide ((24 : Int) < (s.size : Int)) = false := by simp; omega
      have J : s.size ≤ 1000 := by omega
      by_cases g : 97 ≤ s[0].toNat
      · have F : decide ((s[0].toNat : Int) < (97 : Int)) = false := by simp; omega
        by_cases n : s[0].toNat ≤ 122
        · have G : decide ((122 : Int) < (s[0].toNat : Int)) = false := by simp; omega
          have l : Hid (jD s[0].toNat = true) := by unfold Hid jD; simp [g, n]
          have t := hid (fun K => sR K s w j)
          obtain ⟨b, o⟩ : ∃ b, kwIn s = b := ⟨_, rfl⟩
          rw [o] at t
          cases b
          · have f : Hid (nameB s = (N s).all eD) := by
              obtain ⟨r, I⟩ := N_head e
              exact name_nokw o _ r I l a
            clear o g n j a
            go_enter func115, ntmps115
            go_wp2_with (go_at_call 181; refine (t _ ?hk1).mono ?_; (case hk1 => kernel_rfl); rintro _ L ⟨rfl, rfl⟩)
            go_loop [3, 4, 30] (fun _ _ i => ∃ k : Nat, k ≤ s.size ∧ i = i4 k ∧ ((N s).take k).all eD = true) (fun _ _ i => s.size - (intOf i).toNat)
            case atStart => exact ⟨0, Nat.zero_le _, rfl, rfl⟩
            case round =>
              obtain ⟨k, O, rfl, B⟩ := hrel
              have y := hid B
              clear B
              by_cases p : k < s.size
              · have E : Hid (eD s[k].toNat = true → ((N s).take (k + 1)).all eD = true) := fun h => py p y h
                have C : Hid (eD s[k].toNat = false → (N s).all eD = false) := fun h => ny p h
                have x : Hid (eD s[k].toNat = (decide (97 ≤ s[k].toNat) && decide (s[k].toNat ≤ 122) || s[k].toNat == 95 || decide (48 ≤ s[k].toNat) && decide (s[k].toNat ≤ 57))) := rfl
                go_wp2_with fail
                all_goals first
                  | (go_round
                     case rel =>
                       refine ⟨k + 1, by omega, by go_num, E ?_⟩
                       rw [x.out]
                       simp only [beq_iff_eq, bne_iff_ne, ne_eq, beq_eq_false_iff_ne, bne_eq_false_iff_eq, decide_eq_true_eq, decide_eq_false_iff_not, Bool.or_eq_true, Bool.and_eq_true] at *
                       omega
                     case measure => simp [intOf]; omega)
                  | (go_ret
                     refine ⟨aa ?_, rfl⟩
                     rw [f.out]
                     symm
                     apply C
                     rw [x.out, ← Bool.not_eq_true]
                     simp only [beq_iff_eq, bne_iff_ne, ne_eq, beq_eq_false_iff_ne, bne_eq_false_iff_eq, decide_eq_true_eq, decide_eq_false_iff_not, Bool.or_eq_true, Bool.and_eq_true] at *
                     omega)
              · have D : Hid ((N s).all eD = true) := sO (by omega) y
                go_wp2_with fail
                go_ret
                exact ⟨aa (by rw [f.out, D.out]), rfl⟩
          · have f : Hid (nameB s = false) := name_kw o
            clear o g n j a
            go_enter func115, ntmps115
            go_wp2_with (go_at_call 181; refine (t _ ?hk1).mono ?_; (case hk1 => kernel_rfl); rintro _ L ⟨rfl, rfl⟩)
            go_ret
            exact ⟨aa f.symm, rfl⟩
        · have f : Hid (nameB s = false) := ly e (by unfold jD; simp [n])
          have G : decide ((122 : Int) < (s[0].toNat : Int)) = true := by simp; omega
          clear g n j a
          go_enter func115, ntmps115
          go_wp2_with fail
          go_ret
          exact ⟨aa f.symm, rfl⟩
      · have f : Hid (nameB s = false) := ly e (by unfold jD; simp [g])
        have F : decide ((s[0].toNat : Int) < (97 : Int)) = true := by simp; omega
        clear g j a
        go_enter func115, ntmps115
        go_wp2_with fail
        go_ret
        exact ⟨aa f.symm, rfl⟩
    · have f : Hid (nameB s = false) := name_long a
      have u : decide ((24 : Int) < (s.size : Int)) = true := by simp; omega
      clear j a
      go_enter func115, ntmps115
      go_wp2_with fail
      go_ret
      exact ⟨aa f.symm, rfl⟩
def kwStr (k:Nat):BA:=S (kwWords.getD k [])
def kwB (s:BA):Bool:=kwWords.contains (N s)
def kwVals:LV:=kwWords.map fun l=> .string (S l)
theorem kwVals_get (k:Nat) (h:k<47):kwVals[k]? =some (.string (kwStr k)):=by
 have a:k<kwWords.length:=h
 unfold kwVals kwStr
 rw[getElem?_map,getD_eq_getElem?_getD,getElem?_eq_getElem a]
 rfl
theorem uD:∀l∈kwWords,∀x∈l,x<256:=by decide+kernel
theorem kw_hit {s:BA} {k:Nat} (b:k<47) (h:N (kwStr k)=N s):kwB s=true:=by
 unfold kwB
 have a:k<kwWords.length:=b
 rw[contains_iff_mem,←h]
 unfold kwStr
 rw[getD_eq_getElem?_getD,getElem?_eq_getElem a,Option.getD_some,N_S _ (uD _ (getElem_mem a))]
 exact getElem_mem a
theorem kw_miss {s:BA} (h:∀k,k<47→N (kwStr k)≠N s):kwB s=false:=by
 unfold kwB
 rw[←Bool.not_eq_true,contains_iff_mem]
 intro e
 obtain⟨k,a,b⟩:=getElem_of_mem e
 apply h k a
 unfold kwStr
 rw[getD_eq_getElem?_getD,getElem?_eq_getElem a,Option.getD_some,N_S _ (uD _ (getElem_mem a))]
 exact b
theorem keyword_any (s:BA) (w:World):Cl 216 #[.string s] w (Rt (.bool (kwB s)) w):=by
 have n:Hid (Blk (w.alloc (.cells kwVals.toArray 9)) w.heap.size 9 kwVals):=Blk.of_new w 9 kwVals
 have m:Hid (Ext w (w.alloc (.cells kwVals.toArray 9))):=x10 w _
 go_enter func216,ntmps216
 go_wp2_with fail
 obtain⟨u,a⟩:∃u,w.alloc (.cells kwVals.toArray 9)=u:=⟨_,rfl⟩
 rw[a]at n m
 change Code.wp _ _ _ _ (w.alloc (.cells kwVals.toArray 9))
 rw[a]
 clear a
 generalize w.heap.size=g at*
 go_loop [4] (fun i=> ∃k:Nat,k≤47∧i= i4 k∧∀j,j<k→N (kwStr j)≠N s) (fun i=>47- (intOf i).toNat)
 case atStart=>exact⟨0,Nat.zero_le _,rfl,fun j p=>absurd p (Nat.not_lt_zero _)⟩
 case round=>
  obtain⟨k,B,rfl,f⟩:=hrel
  have l:=hid f
  clear f
  by_cases e:k<47
  ·have A:=(n.cell k).trans (kwVals_get k e)
   by_cases b:N (kwStr k)=N s
   ·have z:((kwStr k).toList==s.toList)=true:=by rw[bz,b];simp
    have y:=hid (kw_hit e b)
    clear b
    generalize kwStr k=t at*
    go_wp2_with fail
    go_ret
    exact⟨aa y.symm,m⟩
   ·have z:((kwStr k).toList==s.toList)=false:=by rw[bz,beq_eq_false_iff_ne];exact b
    have o:=hid b
    clear b
    have x:Hid (∀j,j<k+1→N (kwStr j)≠N s):=by
     intro j p
     rcases Nat.lt_or_ge j k with h|h
     ·exact l j h
     ·obtain rfl:j=k:=by omega
      exact o
    clear l o
    generalize kwStr k=t at*
    go_wp2_with fail
    go_round
    case rel=>exact⟨k+1,by omega,by go_num,x⟩
    case measure=>simp[intOf];omega
  ·obtain rfl:k=47:=by omega
   go_wp2_with fail
   go_ret
   exact⟨aa (kw_miss l).symm,m⟩
theorem pD (s:BA):nameB s=(iV (N s) && (N s).all eD&&decide (s.size≤24) &&!kwB s):=by unfold nameB lU kwB;rw[N_len]
def nB (k c:Nat):Bool:=jD c||k !=0&&eD c
theorem chOk_all {s:BA} {k:Nat} (f:k<s.size) (h:∀j (a:j<s.size),j<k→nB j s[j].toNat=true) (b:nB k s[k].toNat=true):∀j (a:j<s.size),j<k+1→nB j s[j].toNat=true:=by
 intro j a e
 rcases Nat.lt_or_ge j k with h2|h2
 ·exact h j a h2
 ·obtain rfl:j=k:=by omega
  exact b
theorem chOk_no {s:BA} {k:Nat} (b:k<s.size) (h:nB k s[k].toNat=false):nameB s=false:=by
 unfold nB at h
 rw[Bool.or_eq_false_iff]at h
 by_cases a:k=0
 ·subst a
  exact ly b h.1
 ·have e:eD s[k].toNat=false:=by
   have:=h.2
   rw[Bool.and_eq_false_iff]at this
   rcases this with h2|h2
   ·simp at h2;exact absurd h2 a
   ·exact h2
  rw[pD,ny b e]
  simp
theorem chOk_yes {s:BA} (h:∀j (b:j<s.size),j<s.size→nB j s[j].toNat=true):nameB s=(decide (0<s.size) &&decide (s.size≤24) &&!kwB s):=by
 rw[pD]
 by_cases e:0<s.size
 ·obtain⟨r,o⟩:=N_head e
  have g:=h 0 e e
  have i:iV (N s)=true:=by
   rw[o]
   simpa[iV,nB] using g
  have k:(N s).all eD=true:=by
   rw[all_eq_true]
   intro x p
   obtain⟨j,b,n⟩:=getElem_of_mem p
   rw[N_len]at b
   have a:=h j b b
   have f:=N_get s j b
   rw[getElem?_eq_getElem (by rw[N_len];exact b)]at f
   have l:x=s[j].toNat:=by rw[←n];exact Option.some.inj f
   rw[l]
   unfold nB at a
   rw[Bool.or_eq_true,Bool.and_eq_true]at a
   rcases a with a|a
   ·unfold eD;rw[a];rfl
   ·exact a.2
  rw[i,k];simp[e]
 ·have m:N s= []:=eq_nil_of_length_eq_zero (by rw[N_len];omega)
  rw[m]
  simp[iV,e]
theorem bP (s : BA) (w : World) (F : s.size ≤ 9223372036854775807) : Cl 144 #[.string s] w fun r w' => r = .returned (.bool (nameB s)) ∧ Ext w w' := by
  go_enter func144, ntmps144
  go_wp2_with fail
  go_loop [3, 4] (fun i _ => ∃ k : Nat, k ≤ s.size ∧ i = i4 k ∧ ∀ j (D : j < s.size), j < k → nB j s[j].toNat = true) (fun i _ => s.size - (intOf i).toNat)
  case atStart => exact ⟨0, Nat.zero_le _, rfl, fun j _ h => absurd h (Nat.not_lt_zero _)⟩
  case round =>
    obtain ⟨k, E, rfl, l⟩ := hrel
    have n := hid l
    clear l
    by_cases g : k < s.size
    · have x : Hid (nB k s[k].toNat = true → ∀ j (D : j < s.size), j < k + 1 → nB j s[j].toNat = true) := fun h => chOk_all g n h
      have u : Hid (nB k s[k].toNat = false → nameB s = false) := fun h => chOk_no g h
      have m : Hid (nB k s[k].toNat = (decide (97 ≤ s[k].toNat) && decide (s[k].toNat ≤ 122) || k != 0 && (decide (97 ≤ s[k].toNat) && decide (s[k].toNat ≤ 122) || s[k].toNat == 95 || decide (48 ≤ s[k].toNat) && decide (s[k].toNat ≤ 57)))) := rfl
      clear n
      by_cases a : k = 0
      · have b := hid a
        have B : ((k : Int) == 0) = true := by rw [a]; rfl
        clear a
        go_wp2_with fail
        all_goals first
          | (go_round
             case rel =>
               refine ⟨k + 1, by omega, by go_num, x ?_⟩
               rw [m.out]
               have a := b
               simp only [beq_iff_eq, bne_iff_ne, ne_eq, beq_eq_false_iff_ne, bne_eq_false_iff_eq, decide_eq_true_eq, decide_eq_false_iff_not, Bool.or_eq_true, Bool.and_eq_true, Bool.not_eq_true', Bool.not_eq_false'] at * <;> omega
             case measure => simp [intOf]; omega)
          | (go_ret
             refine ⟨aa ?_, Ext.refl w⟩
             symm
             apply u
             rw [m.out, ← Bool.not_eq_true]
             have a := b
             simp only [beq_iff_eq, bne_iff_ne, ne_eq, beq_eq_false_iff_ne, bne_eq_false_iff_eq, decide_eq_true_eq, decide_eq_false_iff_not, Bool.or_eq_true, Bool.and_eq_true, Bool.not_eq_true', Bool.not_eq_false'] at * <;> omega)
      · have b := hid a
        have B : ((k : Int) == 0) = false := by rw [beq_eq_false_iff_ne]; omega
        clear a
        go_wp2_with fail
        all_goals first
          | (go_round
             case rel =>
               refine ⟨k + 1, by omega, by go_num, x ?_⟩
               rw [m.out]
               have a := b
               simp only [beq_iff_eq, bne_iff_ne, ne_eq, beq_eq_false_iff_ne, bne_eq_false_iff_eq, decide_eq_true_eq, decide_eq_false_iff_not, Bool.or_eq_true, Bool.and_eq_true, Bool.not_eq_true', Bool.not_eq_false'] at * <;> omega
             case measure => simp [intOf]; omega)
          | (go_ret
             refine ⟨aa ?_, Ext.refl w⟩
             symm
             apply u
             rw [m.out, ← Bool.not_eq_true]
             have a := b
             simp only [beq_iff_eq, bne_iff_ne, ne_eq, beq_eq_false_iff_ne, bne_eq_false_iff_eq, decide_eq_true_eq, decide_eq_false_iff_not, Bool.or_eq_true, Bool.and_eq_true, Bool.not_eq_true', Bool.not_eq_false'] at * <;> omega)
    · obtain rfl : k = s.size := by omega
      have p := hid (chOk_yes n)
      have A := hid (keyword_any s w)
      clear n
      by_cases f : 0 < s.size
      · by_cases o : s.size ≤ 24
        · have y : decide ((0 : Int) < (s.size : Int)) = true := by simp; omega
          have z : decide (0 < s.size) = true := by simpa using f
          have C : decide ((s.size : Int) ≤ (24 : Int)) = true := by simp; omega
          have e : Hid (nameB s = !kwB s) := by unfold Hid; rw [p.out]; simp [f, o]
          clear o
          go_wp2_with (go_at_call 216; refine A.mono ?_; rintro _ G ⟨rfl, t⟩)
          go_ret
          exact ⟨aa e.symm, t⟩
        · have y : decide ((0 : Int) < (s.size : Int)) = true := by simp; omega
          have z : decide (0 < s.size) = true := by simpa using f
          have C : decide ((s.size : Int) ≤ (24 : Int)) = false := by simp; omega
          have e : Hid (nameB s = false) := by unfold Hid; rw [p.out]; simp [o]
          clear o
          go_wp2_with fail
          go_ret
          exact ⟨aa e.symm, Ext.refl w⟩
      · have y : decide ((0 : Int) < (s.size : Int)) = false := by simpa using f
        have z : decide (0 < s.size) = false := by simpa using f
        have e : Hid (nameB s = false) := by unfold Hid; rw [p.out]; simp [f]
        go_wp2_with fail
        go_ret
        exact ⟨aa e.symm, Ext.refl w⟩
theorem ot (F:FuncId) (o:Ent F) (p:Ex→Bool) (l:List Ex) (A:OA) (n c:Nat) (w:World) (i:l.length=n) (s:n≤9223372036854775807) (h:KidsAt w A l)
  (g:∀x∈l,∀(f:OA) (j c':Nat) (W:World),Ext w W→ExV W x f j c'→Cl F #[x.d.val f j c'] W fun r m=>r= .returned (.bool (p x))∧Ext W m):
  Cl 111 #[.slice A n c,.func (Fn.func F) #[] #[]] w (Rt (.bool (l.any p)) w):=by
 have k:=hid (index_ex F o p l A n c w i s h g)
 clear i h g
 go_enter func111,ntmps111
 go_wp2_with (go_at_call 179;refine k.mono ?_;rintro _ u ⟨⟨x,t,rfl,a⟩,e⟩;have b:=hid a;clear a)
 go_ret
 exact⟨aa b,e⟩
theorem re (d:Nd) (ks:List Ex):(Ex.mk d ks).formed=(opN d.op==(ks.length:Int) &&!(ks.any fun x=>!x.formed) &&ndB d (ks.map Ex.d)):=by
 rw[Ex.formed,ol]
 congr 2
 rw[any_eq_not_all_not,Bool.not_not]
 simp
theorem get1 {ks:List Ex} (d:Nd) {e:Ex} (h:ks[1]? =some e):(ks.map Ex.d).getD 1 d=e.d:=by
 rw[getD_eq_getElem?_getD,getElem?_map,h];rfl
theorem formed1 (x:Ex) (A:OA) (n c:Nat) (w:World) (h:∀W,Ext w W→Cl 79 #[x.d.val A n c] W (Rt (.bool x.formed) W)):
  Cl 154 #[x.d.val A n c] w (Rt (.bool (!x.formed)) w):=by
 have H:=hid h
 clear h
 unfold Nd.val at*
 go_enter func154,ntmps154
 go_wp2_with (go_at_call 79;refine(H _ (x10 w _)).mono ?_;rintro _ b ⟨rfl,a⟩)
 go_ret
 exact⟨rfl,(x10 w _).trans a⟩
structure FC (tb nm vt:BA) (A:OA) (n c:Nat) (w:World) (B:Bool):Prop where
 tb:tb.size≤9223372036854775807
 nm:nm.size≤9223372036854775807
 vt:vt.size≤9223372036854775807
 sh:Sh w
 con:∀y:ai w,Cl 111 #[.slice A n c,.func (Fn.func 154) #[] #[]] y.now fun r w'=>r= .returned (.bool B)∧Ext y.now w'
theorem fc1 (op:Int) (tb nm vt:BA) (ix vk vi:Int) (A:OA) (n c:Nat) (w:World) (B:Bool) (h:FC tb nm vt A n c w B) (p:(opN op !=(n:Int))=true):
  Cl 79 #[.agg #[i4 op,.string tb,.string nm,i4 ix,i4 vk,i4 vi,.string vt,.slice A n c]] w (Rt (.bool false) w):=by
 have H:=hid h
 clear h
 have j:=hid (Blk.of_new w 37 (eC op tb nm ix vk vi vt A n c))
 have k:=hid (x10 w (.cells #[i4 op,.string tb,.string nm,i4 ix,i4 vk,i4 vi,.string vt,.slice A n c] 37))
 go_enter func79,ntmps79
 go_wp2_with fail
 generalize w.alloc (.cells #[i4 op,.string tb,.string nm,i4 ix,i4 vk,i4 vi,.string vt,.slice A n c] 37)=o at*
 generalize w.heap.size=g at*
 obtain⟨l,-,-,-,-,-,-,m,-⟩:=lks j
 have b:Hid (∀y:ai o,Cl 111 #[.slice A n c,.func (Fn.func 154) #[] #[]] y.now fun r w'=>r= .returned (.bool B)∧Ext y.now w'):=fun y=>H.con ⟨y.now,k.trans y.ext⟩
 refine af (by kernel_rfl) (by kernel_rfl) ?_
 repeat (go_big_quiet_step ((first|(go_at_call 153;exact fg (jd _ _))|(go_at_call 111;exact aq (b _)))))
 refine wpQuiet_nil ?_
 intro s f
 have a:=am f
 clear f l m b
 have i:=hid (k.trans a)
 have e:=j.ext a
 obtain⟨c0,c1,c2,-,c4,c5,c6,c7,-⟩:=cls e
 clear e a
 go_wp2_with fail
 go_ret
 exact⟨rfl,i⟩
theorem fc2 (op:Int) (tb nm vt:BA) (ix vk vi:Int) (A:OA) (n c:Nat) (w:World) (h:FC tb nm vt A n c w true) (p:(opN op !=(n:Int))=false):
  Cl 79 #[.agg #[i4 op,.string tb,.string nm,i4 ix,i4 vk,i4 vi,.string vt,.slice A n c]] w (Rt (.bool false) w):=by
 have H:=hid h
 clear h
 have j:=hid (Blk.of_new w 37 (eC op tb nm ix vk vi vt A n c))
 have k:=hid (x10 w (.cells #[i4 op,.string tb,.string nm,i4 ix,i4 vk,i4 vi,.string vt,.slice A n c] 37))
 go_enter func79,ntmps79
 go_wp2_with fail
 generalize w.alloc (.cells #[i4 op,.string tb,.string nm,i4 ix,i4 vk,i4 vi,.string vt,.slice A n c] 37)=o at*
 generalize w.heap.size=g at*
 obtain⟨l,-,-,-,-,-,-,m,-⟩:=lks j
 have b:Hid (∀y:ai o,Cl 111 #[.slice A n c,.func (Fn.func 154) #[] #[]] y.now fun r w'=>r= .returned (.bool true)∧Ext y.now w'):=fun y=>H.con ⟨y.now,k.trans y.ext⟩
 refine af (by kernel_rfl) (by kernel_rfl) ?_
 repeat (go_big_quiet_step ((first|(go_at_call 153;exact fg (jd _ _))|(go_at_call 111;exact aq (b _)))))
 refine wpQuiet_nil ?_
 intro s f
 have a:=am f
 clear f l m b
 have i:=hid (k.trans a)
 have e:=j.ext a
 obtain⟨c0,c1,c2,-,c4,c5,c6,c7,-⟩:=cls e
 clear e a
 go_wp2_with fail
 go_ret
 exact⟨rfl,i⟩
inductive FCase:Int→BA→BA→Int→Int→Int→BA→OA→Nat→Nat→World→Bool→Prop where
 |c3a {op:Int} {tb nm vt:BA} {ix vk vi:Int} {A:OA} {n c:Nat} {w:World} (b2:(op==2)=true) (HN1:Hid (nameB nm=false)):FCase op tb nm ix vk vi vt A n c w false
 |c3b {op:Int} {nm vt:BA} {ix vk vi:Int} {A:OA} {n c:Nat} {w:World} (b2:(op==2)=true) (HN1:Hid (nameB nm=true)):FCase op ⟨#[]⟩ nm ix vk vi vt A n c w ((vk==0&&vi==0&&vt.size==0))
 |c3c {op:Int} {tb nm vt:BA} {ix vk vi:Int} {A:OA} {n c:Nat} {w:World} (b2:(op==2)=true) (HN1:Hid (nameB nm=true)) (HN2:Hid (nameB tb=false)) (t1:¬tb.toList= []) (t2:tb.toList.isEmpty=false):FCase op tb nm ix vk vi vt A n c w false
 |c3d {op:Int} {tb nm vt:BA} {ix vk vi:Int} {A:OA} {n c:Nat} {w:World} (b2:(op==2)=true) (HN1:Hid (nameB nm=true)) (HN2:Hid (nameB tb=true)) (t1:¬tb.toList= []) (t2:tb.toList.isEmpty=false):FCase op tb nm ix vk vi vt A n c w ((vk==0&&vi==0&&vt.size==0))
 |c4a {op:Int} {vt:BA} {ix vk vi:Int} {A:OA} {n c:Nat} {w:World} {d:Nd} (e0:d.vk=vk) (e1:d.vi=vi) (e2:d.vt=vt) (b2:(op==2)=false) (b1:(op==1)=true):FCase op ⟨#[]⟩ ⟨#[]⟩ ix vk vi vt A n c w (d.litB)
 |c4b {op:Int} {nm vt:BA} {ix vk vi:Int} {A:OA} {n c:Nat} {w:World} (b2:(op==2)=false) (b1:(op==1)=true) (t1:¬nm.toList= []) (t2:nm.toList.isEmpty=false):FCase op ⟨#[]⟩ nm ix vk vi vt A n c w false
 |c4c {op:Int} {tb nm vt:BA} {ix vk vi:Int} {A:OA} {n c:Nat} {w:World} (b2:(op==2)=false) (b1:(op==1)=true) (t1:¬tb.toList= []) (t2:tb.toList.isEmpty=false):FCase op tb nm ix vk vi vt A n c w false
 |c5a {op:Int} {tb nm vt:BA} {ix vk vi:Int} {n c:Nat} {w:World} {b off:Nat} {op1:Int} {tb1 nm1:BA} {ix1 vk1 vi1:Int} {vt1:BA} {A1:OA} {n1 c1:Nat} (HQ:Hid (w.cell? ⟨b,off+1*8,none⟩=some (i4 op1)∧w.cell? ⟨b,off+1*8+1,none⟩=some (.string tb1)∧w.cell? ⟨b,off+1*8+2,none⟩=some (.string nm1)∧w.cell? ⟨b,off+1*8+3,none⟩=some (i4 ix1)∧w.cell? ⟨b,off+1*8+4,none⟩=some (i4 vk1)∧w.cell? ⟨b,off+1*8+5,none⟩=some (i4 vi1)∧w.cell? ⟨b,off+1*8+6,none⟩=some (.string vt1)∧w.cell? ⟨b,off+1*8+7,none⟩=some (.slice A1 n1 c1))) (b2:(op==2)=false) (b1:(op==1)=false) (b16:(op==16)=true) (hn2:(1:Int)<(n:Int)) (p1:(op1 !=1)=true):FCase op tb nm ix vk vi vt ((some ⟨b,off,none⟩)) n c w false
 |c5b {op:Int} {tb nm vt:BA} {ix vk vi:Int} {n c:Nat} {w:World} {b off:Nat} {op1:Int} {tb1 nm1:BA} {ix1 vk1 vi1:Int} {vt1:BA} {A1:OA} {n1 c1:Nat} (HQ:Hid (w.cell? ⟨b,off+1*8,none⟩=some (i4 op1)∧w.cell? ⟨b,off+1*8+1,none⟩=some (.string tb1)∧w.cell? ⟨b,off+1*8+2,none⟩=some (.string nm1)∧w.cell? ⟨b,off+1*8+3,none⟩=some (i4 ix1)∧w.cell? ⟨b,off+1*8+4,none⟩=some (i4 vk1)∧w.cell? ⟨b,off+1*8+5,none⟩=some (i4 vi1)∧w.cell? ⟨b,off+1*8+6,none⟩=some (.string vt1)∧w.cell? ⟨b,off+1*8+7,none⟩=some (.slice A1 n1 c1))) (b2:(op==2)=false) (b1:(op==1)=false) (b16:(op==16)=true) (hn2:(1:Int)<(n:Int)) (p1:(op1 !=1)=false) (p2:(vk1 !=2)=true):FCase op tb nm ix vk vi vt ((some ⟨b,off,none⟩)) n c w false
 |c5c {op:Int} {tb nm vt:BA} {ix vk vi:Int} {n c:Nat} {w:World} {b off:Nat} {op1:Int} {tb1 nm1:BA} {ix1 vk1 vi1:Int} {vt1:BA} {A1:OA} {n1 c1:Nat} (HQ:Hid (w.cell? ⟨b,off+1*8,none⟩=some (i4 op1)∧w.cell? ⟨b,off+1*8+1,none⟩=some (.string tb1)∧w.cell? ⟨b,off+1*8+2,none⟩=some (.string nm1)∧w.cell? ⟨b,off+1*8+3,none⟩=some (i4 ix1)∧w.cell? ⟨b,off+1*8+4,none⟩=some (i4 vk1)∧w.cell? ⟨b,off+1*8+5,none⟩=some (i4 vi1)∧w.cell? ⟨b,off+1*8+6,none⟩=some (.string vt1)∧w.cell? ⟨b,off+1*8+7,none⟩=some (.slice A1 n1 c1))) (b2:(op==2)=false) (b1:(op==1)=false) (b16:(op==16)=true) (hn2:(1:Int)<(n:Int)) (p1:(op1 !=1)=false) (p2:(vk1 !=2)=false) (t1:¬tb.toList= []) (t2:tb.toList.isEmpty=false):FCase op tb nm ix vk vi vt ((some ⟨b,off,none⟩)) n c w false
 |c5d {op:Int} {nm vt:BA} {ix vk vi:Int} {n c:Nat} {w:World} {b off:Nat} {op1:Int} {tb1 nm1:BA} {ix1 vk1 vi1:Int} {vt1:BA} {A1:OA} {n1 c1:Nat} (HQ:Hid (w.cell? ⟨b,off+1*8,none⟩=some (i4 op1)∧w.cell? ⟨b,off+1*8+1,none⟩=some (.string tb1)∧w.cell? ⟨b,off+1*8+2,none⟩=some (.string nm1)∧w.cell? ⟨b,off+1*8+3,none⟩=some (i4 ix1)∧w.cell? ⟨b,off+1*8+4,none⟩=some (i4 vk1)∧w.cell? ⟨b,off+1*8+5,none⟩=some (i4 vi1)∧w.cell? ⟨b,off+1*8+6,none⟩=some (.string vt1)∧w.cell? ⟨b,off+1*8+7,none⟩=some (.slice A1 n1 c1))) (b2:(op==2)=false) (b1:(op==1)=false) (b16:(op==16)=true) (hn2:(1:Int)<(n:Int)) (p1:(op1 !=1)=false) (p2:(vk1 !=2)=false) (t1:¬nm.toList= []) (t2:nm.toList.isEmpty=false):FCase op ⟨#[]⟩ nm ix vk vi vt ((some ⟨b,off,none⟩)) n c w false
 |c5e {op:Int} {vt:BA} {ix vk vi:Int} {n c:Nat} {w:World} {b off:Nat} {op1:Int} {tb1 nm1:BA} {ix1 vk1 vi1:Int} {vt1:BA} {A1:OA} {n1 c1:Nat} (HQ:Hid (w.cell? ⟨b,off+1*8,none⟩=some (i4 op1)∧w.cell? ⟨b,off+1*8+1,none⟩=some (.string tb1)∧w.cell? ⟨b,off+1*8+2,none⟩=some (.string nm1)∧w.cell? ⟨b,off+1*8+3,none⟩=some (i4 ix1)∧w.cell? ⟨b,off+1*8+4,none⟩=some (i4 vk1)∧w.cell? ⟨b,off+1*8+5,none⟩=some (i4 vi1)∧w.cell? ⟨b,off+1*8+6,none⟩=some (.string vt1)∧w.cell? ⟨b,off+1*8+7,none⟩=some (.slice A1 n1 c1))) (b2:(op==2)=false) (b1:(op==1)=false) (b16:(op==16)=true) (hn2:(1:Int)<(n:Int)) (p1:(op1 !=1)=false) (p2:(vk1 !=2)=false):FCase op ⟨#[]⟩ ⟨#[]⟩ ix vk vi vt ((some ⟨b,off,none⟩)) n c w ((vk==0&&vi==0&&vt.size==0))
 |c6a {op:Int} {tb nm vt:BA} {ix vk vi:Int} {A:OA} {n c:Nat} {w:World} (b2:(op==2)=false) (b1:(op==1)=false) (b16:(op==16)=false) (t1:¬tb.toList= []) (t2:tb.toList.isEmpty=false):FCase op tb nm ix vk vi vt A n c w false
 |c6b {op:Int} {nm vt:BA} {ix vk vi:Int} {A:OA} {n c:Nat} {w:World} (b2:(op==2)=false) (b1:(op==1)=false) (b16:(op==16)=false) (t1:¬nm.toList= []) (t2:nm.toList.isEmpty=false):FCase op ⟨#[]⟩ nm ix vk vi vt A n c w false
 |c6c {op:Int} {vt:BA} {ix vk vi:Int} {A:OA} {n c:Nat} {w:World} (b2:(op==2)=false) (b1:(op==1)=false) (b16:(op==16)=false):FCase op ⟨#[]⟩ ⟨#[]⟩ ix vk vi vt A n c w ((vk==0&&vi==0&&vt.size==0))
theorem fcR {op:Int} {tb nm vt:BA} {ix vk vi:Int} {A:OA} {n c:Nat} {w:World} {R:Bool} (h:FC tb nm vt A n c w false) (V:(opN op !=(n:Int))=false) (L:FCase op tb nm ix vk vi vt A n c w R):
  Cl 79 #[.agg #[i4 op,.string tb,.string nm,i4 ix,i4 vk,i4 vi,.string vt,.slice A n c]] w (Rt (.bool R) w):=by
 have H:=hid h
 clear h
 have D:=hid (Blk.of_new w 37 (eC op tb nm ix vk vi vt A n c))
 have E:=hid (x10 w (.cells #[i4 op,.string tb,.string nm,i4 ix,i4 vk,i4 vi,.string vt,.slice A n c] 37))
 go_enter func79,ntmps79
 go_wp2_with fail
 generalize w.alloc (.cells #[i4 op,.string tb,.string nm,i4 ix,i4 vk,i4 vi,.string vt,.slice A n c] 37)=U at*
 generalize w.heap.size=g at*
 obtain⟨O,-,-,-,-,-,-,Q,-⟩:=lks D
 have u:Hid (∀y:ai U,Cl 111 #[.slice A n c,.func (Fn.func 154) #[] #[]] y.now fun r w'=>r= .returned (.bool false)∧Ext y.now w'):=fun y=>H.con ⟨y.now,E.trans y.ext⟩
 refine af (by kernel_rfl) (by kernel_rfl) ?_
 repeat (go_big_quiet_step ((first|(go_at_call 153;exact fg (jd _ _))|(go_at_call 111;exact aq (u _)))))
 refine wpQuiet_nil ?_
 intro b B
 have s:=am B
 clear B O Q u
 have a:=hid (E.trans s)
 have z:=D.ext s
 obtain⟨c0,c1,c2,-,c4,c5,c6,c7,-⟩:=cls z
 clear z s
 cases L with
 |c3a b2 HN1=>
  go_wp2_with (go_at_call 115;refine(name_any nm _ (H.sh.ext a) H.nm).mono ?_;rintro _ t ⟨rfl,rfl⟩;rw[HN1.out])
  go_ret
  exact⟨rfl,a⟩
 |c3b b2 HN1=>
  go_wp2_with (go_at_call 115;refine(name_any nm _ (H.sh.ext a) H.nm).mono ?_;rintro _ t ⟨rfl,rfl⟩;rw[HN1.out])
  all_goals
   go_ret
   refine⟨aa ?_,a⟩
   rw[eo]
   simp[*]
 |c3c b2 HN1 HN2 t1 t2=>
  go_wp2_with (first|(go_at_call 115;(with_reducible refine(name_any nm _ (H.out.sh.ext a.out) H.out.nm).mono ?_);rintro _ t ⟨rfl,rfl⟩;rw[HN1.out])|(go_at_call 115;(with_reducible refine(name_any tb _ (H.out.sh.ext a.out) H.out.tb).mono ?_);rintro _ t ⟨rfl,rfl⟩;rw[HN2.out]))
  go_ret
  exact⟨rfl,a⟩
 |c3d b2 HN1 HN2 t1 t2=>
  go_wp2_with (first|(go_at_call 115;(with_reducible refine(name_any nm _ (H.out.sh.ext a.out) H.out.nm).mono ?_);rintro _ t ⟨rfl,rfl⟩;rw[HN1.out])|(go_at_call 115;(with_reducible refine(name_any tb _ (H.out.sh.ext a.out) H.out.tb).mono ?_);rintro _ t ⟨rfl,rfl⟩;rw[HN2.out]))
  all_goals
   go_ret
   refine⟨aa ?_,a⟩
   rw[eo]
   simp[*]
 |c4a e0 e1 e2 b2 b1=>
  have x:=hid (fun W=>literal_any vk vi vt W H.vt _ e0 e1 e2)
  clear e0 e1 e2
  go_wp2_with (go_at_call 155;refine(x _).mono ?_;rintro _ t ⟨rfl,C⟩)
  go_ret
  exact⟨rfl,a.trans C⟩
 |c4b b2 b1 t1 t2=>
  go_wp2_with fail
  go_ret
  exact⟨rfl,a⟩
 |c4c b2 b1 t1 t2=>
  go_wp2_with fail
  go_ret
  exact⟨rfl,a⟩
 |c5a HQ b2 b1 b16 hn2 p1=>
  obtain⟨e,f,i,j,k,l,m,p⟩:=HQ.out
  replace e:=a.keep e
  replace f:=a.keep f
  replace i:=a.keep i
  replace j:=a.keep j
  replace k:=a.keep k
  replace l:=a.keep l
  replace m:=a.keep m
  replace p:=a.keep p
  go_wp2_with fail
  go_ret
  exact⟨rfl,a.alloc _⟩
 |c5b HQ b2 b1 b16 hn2 p1 p2=>
  obtain⟨e,f,i,j,k,l,m,p⟩:=HQ.out
  replace e:=a.keep e
  replace f:=a.keep f
  replace i:=a.keep i
  replace j:=a.keep j
  replace k:=a.keep k
  replace l:=a.keep l
  replace m:=a.keep m
  replace p:=a.keep p
  go_wp2_with fail
  go_ret
  exact⟨rfl,a.alloc _⟩
 |c5c HQ b2 b1 b16 hn2 p1 p2 t1 t2=>
  obtain⟨e,f,i,j,k,l,m,p⟩:=HQ.out
  replace e:=a.keep e
  replace f:=a.keep f
  replace i:=a.keep i
  replace j:=a.keep j
  replace k:=a.keep k
  replace l:=a.keep l
  replace m:=a.keep m
  replace p:=a.keep p
  have F:=fun o=> (x10 b o).keep c1
  have G:=fun o=> (x10 b o).keep c2
  have I:=fun o=> (x10 b o).keep c4
  have J:=fun o=> (x10 b o).keep c5
  have K:=fun o=> (x10 b o).keep c6
  go_wp2_with fail
  go_ret
  exact⟨rfl,a.alloc _⟩
 |c5d HQ b2 b1 b16 hn2 p1 p2 t1 t2=>
  obtain⟨e,f,i,j,k,l,m,p⟩:=HQ.out
  replace e:=a.keep e
  replace f:=a.keep f
  replace i:=a.keep i
  replace j:=a.keep j
  replace k:=a.keep k
  replace l:=a.keep l
  replace m:=a.keep m
  replace p:=a.keep p
  have F:=fun o=> (x10 b o).keep c1
  have G:=fun o=> (x10 b o).keep c2
  have I:=fun o=> (x10 b o).keep c4
  have J:=fun o=> (x10 b o).keep c5
  have K:=fun o=> (x10 b o).keep c6
  go_wp2_with fail
  go_ret
  exact⟨rfl,a.alloc _⟩
 |c5e HQ b2 b1 b16 hn2 p1 p2=>
  obtain⟨e,f,i,j,k,l,m,p⟩:=HQ.out
  replace e:=a.keep e
  replace f:=a.keep f
  replace i:=a.keep i
  replace j:=a.keep j
  replace k:=a.keep k
  replace l:=a.keep l
  replace m:=a.keep m
  replace p:=a.keep p
  have F:=fun o=> (x10 b o).keep c1
  have G:=fun o=> (x10 b o).keep c2
  have I:=fun o=> (x10 b o).keep c4
  have J:=fun o=> (x10 b o).keep c5
  have K:=fun o=> (x10 b o).keep c6
  go_wp2_with fail
  all_goals
   go_ret
   refine⟨aa ?_,a.alloc _⟩
   rw[eo]
   simp[*]
 |c6a b2 b1 b16 t1 t2=>
  go_wp2_with fail
  go_ret
  exact⟨rfl,a⟩
 |c6b b2 b1 b16 t1 t2=>
  go_wp2_with fail
  go_ret
  exact⟨rfl,a⟩
 |c6c b2 b1 b16=>
  go_wp2_with fail
  all_goals
   go_ret
   refine⟨aa ?_,a⟩
   rw[eo]
   simp[*]
theorem nC {w:World} {b o:Nat} {d:Nd} {ks:List Ex} {A:OA} {n c:Nat} (h:dI w b o (.mk d ks) A n c):
  w.cell? ⟨b,o,none⟩=some (i4 d.op)∧w.cell? ⟨b,o+1,none⟩=some (.string d.tb)∧w.cell? ⟨b,o+2,none⟩=some (.string d.nm)∧w.cell? ⟨b,o+3,none⟩=some (i4 d.ix)∧
  w.cell? ⟨b,o+4,none⟩=some (i4 d.vk)∧w.cell? ⟨b,o+5,none⟩=some (i4 d.vi)∧w.cell? ⟨b,o+6,none⟩=some (.string d.vt)∧w.cell? ⟨b,o+7,none⟩=some (.slice A n c):=
 ⟨h.c0,h.c1,h.c2,h.c3,h.c4,h.c5,h.c6,h.c7⟩
theorem fp:∀(e:Ex) (A:OA) (n c:Nat) (w:World),ExV w e A n c→Sh w→
  Cl 79 #[e.d.val A n c] w (Rt (.bool e.formed) w):=by
 intro e
 induction e using Ex.ind with
 |h d ks ih=>
  intro A n c w hv hw
  obtain⟨J,h2,O,K⟩:=hv
  have J:ks.length=n:=J
  have K:KidsAt w A ks:=K
  have O:d.fit:=O
  have hF:=re d ks
  rw[J]at hF
  obtain⟨B,hB⟩:∃B,(ks.any fun x=>!x.formed)=B:=⟨_,rfl⟩
  have a:FC d.tb d.nm d.vt A n c w B:=by
   refine⟨O.tb,O.nm,O.vt,hw,fun y=>?_⟩
   rw[←hB]
   refine ot 154 ent101 _ ks A n c _ J h2 (K.ext y.ext) ?_
   intro x k L X c' W hW ad
   exact formed1 x L X c' W fun W' R=>ih x k L X c' W' (ad.ext R) (((hw.ext y.ext).ext hW).ext R)
  rw[hB]at hF
  have ac:ndB d (ks.map Ex.d)=if d.op=2 then nameB d.nm&& (d.tb.size==0||nameB d.tb) &&d.valZ
   else if d.op=1 then d.tb.size==0&&d.nm.size==0&&d.litB
   else if d.op=16∧(((ks.map Ex.d).getD 1 d).op≠1∨((ks.map Ex.d).getD 1 d).vk≠2)then false
   else d.tb.size==0&&d.nm.size==0&&d.valZ:=rfl
  have u:d.valZ=(d.vk==0&&d.vi==0&&d.vt.size==0):=rfl
  have V:∀A,(Ex.mk d ks).d.val A n c= .agg #[i4 d.op,.string d.tb,.string d.nm,i4 d.ix,i4 d.vk,i4 d.vi,.string d.vt,.slice A n c]:=fun _=>rfl
  rw[V,hF]
  by_cases o:opN d.op=(n:Int)
  ·have g:(opN d.op !=(n:Int))=false:=by rw[o];simp
   have H:(opN d.op==(n:Int))=true:=by rw[o];simp
   rw[H,Bool.true_and]
   cases B
   ·simp only[Bool.not_false,Bool.true_and]
    rw[ac]
    by_cases G:d.tb.size=0
    ·have I:=bF G
     by_cases C:d.nm.size=0
     ·have Z:=bF C
      by_cases m:d.op=2
      ·rw[if_pos m,kH C]
       exact fcR a g (.c3a (by rw[m];rfl) (kH C))
      ·rw[if_neg m]
       by_cases l:d.op=1
       ·rw[if_pos l,G,C]
        simp only[beq_self_eq_true,Bool.true_and]
        rw[I,Z]at a ⊢
        exact fcR a g (.c4a (d:=d) rfl rfl rfl (by rw[l];rfl) (by rw[l];rfl))
       ·rw[if_neg l]
        by_cases f:d.op=16
        ·have U:n=2:=by
          rw[f]at o
          unfold opN at o
          simp at o
          omega
         obtain⟨x,k⟩:=fd (i:=1) J (by omega)
         obtain⟨b,Y,L,X,c',rfl,Q⟩:=K.get k
         obtain⟨F,kx⟩:=x
         rw[get1 d k]
         have t:=nC Q
         have s:(d.op==2)=false:=by rw[f];rfl
         have p:(d.op==1)=false:=by rw[f];rfl
         have j:(d.op==16)=true:=by rw[f];rfl
         by_cases o1:F.op=1
         ·by_cases o2:F.vk=2
          ·rw[if_neg (by rintro⟨_,h|h⟩;exact h o1;exact h o2),G,C,u]
           simp only[beq_self_eq_true,Bool.true_and]
           rw[I,Z]at a ⊢
           exact fcR a g (.c5e t s p j (by omega) (by rw[o1];rfl) (by rw[o2];rfl))
          ·rw[if_pos ⟨f,.inr o2⟩]
           exact fcR a g (.c5b t s p j (by omega) (by rw[o1];rfl) (by simpa using o2))
         ·rw[if_pos ⟨f,.inl o1⟩]
          exact fcR a g (.c5a t s p j (by omega) (by simpa using o1))
        ·rw[if_neg (fun h=>f h.1),G,C,u]
         simp only[beq_self_eq_true,Bool.true_and]
         rw[I,Z]at a ⊢
         exact fcR a g (.c6c (by simpa using m) (by simpa using l) (by simpa using f))
     ·have D:=bV C
      have E:=bH C
      by_cases m:d.op=2
      ·rw[if_pos m,G]
       cases k:nameB d.nm
       ·exact fcR a g (.c3a (by rw[m];rfl) k)
       ·rw[u]
        simp only[beq_self_eq_true,Bool.true_and,Bool.true_or]
        rw[I]at a ⊢
        exact fcR a g (.c3b (by rw[m];rfl) k)
      ·rw[if_neg m]
       have z:(d.nm.size==0)=false:=by simpa using C
       by_cases l:d.op=1
       ·rw[if_pos l,z]
        simp only[Bool.and_false,Bool.false_and]
        rw[I]at a ⊢
        exact fcR a g (.c4b (by rw[l];rfl) (by rw[l];rfl) D E)
       ·rw[if_neg l]
        by_cases f:d.op=16
        ·have U:n=2:=by
          rw[f]at o
          unfold opN at o
          simp at o
          omega
         obtain⟨x,k⟩:=fd (i:=1) J (by omega)
         obtain⟨b,Y,L,X,c',rfl,Q⟩:=K.get k
         obtain⟨F,kx⟩:=x
         rw[get1 d k]
         have t:=nC Q
         have s:(d.op==2)=false:=by rw[f];rfl
         have p:(d.op==1)=false:=by rw[f];rfl
         have j:(d.op==16)=true:=by rw[f];rfl
         by_cases o1:F.op=1
         ·by_cases o2:F.vk=2
          ·rw[if_neg (by rintro⟨_,h|h⟩;exact h o1;exact h o2),z]
           simp only[Bool.and_false,Bool.false_and]
           rw[I]at a ⊢
           exact fcR a g (.c5d t s p j (by omega) (by rw[o1];rfl) (by rw[o2];rfl) D E)
          ·rw[if_pos ⟨f,.inr o2⟩]
           exact fcR a g (.c5b t s p j (by omega) (by rw[o1];rfl) (by simpa using o2))
         ·rw[if_pos ⟨f,.inl o1⟩]
          exact fcR a g (.c5a t s p j (by omega) (by simpa using o1))
        ·rw[if_neg (fun h=>f h.1),z]
         simp only[Bool.and_false,Bool.false_and]
         rw[I]at a ⊢
         exact fcR a g (.c6b (by simpa using m) (by simpa using l) (by simpa using f) D E)
    ·have D:=bV G
     have E:=bH G
     have z:(d.tb.size==0)=false:=by simpa using G
     by_cases m:d.op=2
     ·rw[if_pos m,z]
      cases k:nameB d.nm
      ·exact fcR a g (.c3a (by rw[m];rfl) k)
      ·cases hy:nameB d.tb
       ·exact fcR a g (.c3c (by rw[m];rfl) k hy D E)
       ·rw[u]
        simp only[Bool.true_and,Bool.or_true]
        exact fcR a g (.c3d (by rw[m];rfl) k hy D E)
     ·rw[if_neg m]
      by_cases l:d.op=1
      ·rw[if_pos l,z]
       simp only[Bool.false_and]
       exact fcR a g (.c4c (by rw[l];rfl) (by rw[l];rfl) D E)
      ·rw[if_neg l]
       by_cases f:d.op=16
       ·have U:n=2:=by
         rw[f]at o
         unfold opN at o
         simp at o
         omega
        obtain⟨x,k⟩:=fd (i:=1) J (by omega)
        obtain⟨b,Y,L,X,c',rfl,Q⟩:=K.get k
        obtain⟨F,kx⟩:=x
        rw[get1 d k]
        have t:=nC Q
        have s:(d.op==2)=false:=by rw[f];rfl
        have p:(d.op==1)=false:=by rw[f];rfl
        have j:(d.op==16)=true:=by rw[f];rfl
        by_cases o1:F.op=1
        ·by_cases o2:F.vk=2
         ·rw[if_neg (by rintro⟨_,h|h⟩;exact h o1;exact h o2),z]
          simp only[Bool.false_and]
          exact fcR a g (.c5c t s p j (by omega) (by rw[o1];rfl) (by rw[o2];rfl) D E)
         ·rw[if_pos ⟨f,.inr o2⟩]
          exact fcR a g (.c5b t s p j (by omega) (by rw[o1];rfl) (by simpa using o2))
        ·rw[if_pos ⟨f,.inl o1⟩]
         exact fcR a g (.c5a t s p j (by omega) (by simpa using o1))
       ·rw[if_neg (fun h=>f h.1),z]
        simp only[Bool.false_and]
        exact fcR a g (.c6a (by simpa using m) (by simpa using l) (by simpa using f) D E)
   ·simp only[Bool.not_true,Bool.false_and]
    exact fc2 _ _ _ _ _ _ _ _ _ _ _ a g
  ·have g:(opN d.op !=(n:Int))=true:=by simpa using o
   have H:(opN d.op==(n:Int))=false:=by simpa using o
   rw[H]
   simp only[Bool.false_and]
   exact fc1 _ _ _ _ _ _ _ _ _ _ _ B a g
structure RC (ks:List Ex) (tb nm vt:BA) (A:OA) (n c:Nat) (w:World):Prop where
 tb:tb.size≤9223372036854775807
 nm:nm.size≤9223372036854775807
 vt:vt.size≤9223372036854775807
 len:ks.length=n
 le:n≤9223372036854775807
 kids:KidsAt w A ks
 call:∀x∈ks,∀(A':OA) (n' c':Nat) (W:World),ExV W x A' n' c'→Cl 84 #[x.d.val A' n' c'] W fun r W'=>r= .returned (.bool x.formed)∧Ext W W'
theorem rc1 (op:Int) (tb nm vt:BA) (ix vk vi:Int) (A:OA) (n c:Nat) (w:World) (ks:List Ex) (h:RC ks tb nm vt A n c w) (o:(opN op !=(n:Int))=true):
  Cl 84 #[.agg #[i4 op,.string tb,.string nm,i4 ix,i4 vk,i4 vi,.string vt,.slice A n c]] w (Rt (.bool false) w):=by
 have H:=hid h
 clear h
 have f:=hid (Blk.of_new w 37 (eC op tb nm ix vk vi vt A n c))
 have j:=hid (x10 w (.cells #[i4 op,.string tb,.string nm,i4 ix,i4 vk,i4 vi,.string vt,.slice A n c] 37))
 have k:=H.le
 go_enter func84,ntmps84
 go_wp2_with fail
 generalize w.alloc (.cells #[i4 op,.string tb,.string nm,i4 ix,i4 vk,i4 vi,.string vt,.slice A n c] 37)=p at*
 generalize w.heap.size=g at*
 obtain⟨l,-,-,-,-,-,-,m,-⟩:=lks f
 refine af (by kernel_rfl) (by kernel_rfl) ?_
 repeat (go_big_quiet_step ((go_at_call 158;exact fg (px _ _))))
 refine wpQuiet_nil ?_
 intro s b
 have a:=am b
 clear b l m
 have e:=hid (j.trans a)
 have i:=hid (f.ext a)
 clear a
 go_wp2_with fail
 go_ret
 exact⟨rfl,e⟩
theorem rc2 (op:Int) (tb nm vt:BA) (ix vk vi:Int) (A:OA) (n c:Nat) (w:World) (ks:List Ex) (h:RC ks tb nm vt A n c w) (l:Hid (ks.any (fun x=>!x.formed)=true)) (bN:(opN op !=(n:Int))=false):
  Cl 84 #[.agg #[i4 op,.string tb,.string nm,i4 ix,i4 vk,i4 vi,.string vt,.slice A n c]] w (Rt (.bool false) w):=by
 have H:=hid h
 clear h
 have E:=hid (Blk.of_new w 37 (eC op tb nm ix vk vi vt A n c))
 have O:=hid (x10 w (.cells #[i4 op,.string tb,.string nm,i4 ix,i4 vk,i4 vi,.string vt,.slice A n c] 37))
 have U:=H.le
 go_enter func84,ntmps84
 go_wp2_with fail
 generalize w.alloc (.cells #[i4 op,.string tb,.string nm,i4 ix,i4 vk,i4 vi,.string vt,.slice A n c] 37)=w1 at*
 generalize w.heap.size=g at*
 obtain⟨W,-,-,-,-,-,-,X,-⟩:=lks E
 refine af (by kernel_rfl) (by kernel_rfl) ?_
 repeat (go_big_quiet_step ((go_at_call 158;exact fg (px _ _))))
 refine wpQuiet_nil ?_
 intro K t
 have f:=am t
 clear t W X
 have b:=hid (O.trans f)
 have y:=hid (E.ext f)
 clear f
 go_wp2_with fail
 go_loopw [3] (fun V wr=> ∃k:Nat,k≤n∧V= i4 k∧(ks.take k).any (fun x=>!x.formed)=false∧Ext K wr) (fun i _=>n- (intOf i).toNat)
 case atStart=>exact⟨0,Nat.zero_le _,rfl,rfl,Ext.refl K⟩
 case round=>
  obtain⟨k,hk,rfl,I,a⟩:=hrel
  have e:=hid a
  have o:=hid I
  have p:=y.ext a
  obtain⟨c0,c1,c2,-,c4,c5,c6,c7,-⟩:=cls p
  clear p I
  by_cases C:k<n
  ·obtain⟨G,u⟩:=fd H.len C
   obtain⟨b',J,L,Y,c',R,q0,q1,q2,q3,q4,q5,q6,q7,s⟩:=((H.kids.ext b).ext a).get u
   subst R
   have F:=hid (H.call G (gG u) L Y c' _ s)
   obtain⟨z,D⟩:∃z,G.formed=z:=⟨_,rfl⟩
   have m:=hid D
   have B:Hid (z=true→(ks.take (k+1)).any (fun x=>!x.formed)=false):=fun h=>mm u o (by simp[D,h])
   clear D
   clear u s a
   cases z
   ·go_wp2_with (go_at_call 84;refine F.mono ?_;rintro _ Z ⟨rfl,j⟩;rw[m.out])
    go_ret
    exact⟨rfl,(b.trans e).trans j⟩
   ·go_wp2_with (go_at_call 84;refine F.mono ?_;rintro _ Z ⟨rfl,j⟩;rw[m.out])
    go_roundw
    case rel=>exact⟨k+1,by omega,by go_num,B (by first|rfl|trivial),e.trans j⟩
    case measure=>simp[intOf];omega
  ·obtain rfl:k=n:=by omega
   have Q:=hid (b.trans e)
   exact absurd (sM H.len o) (by rw[l.out];simp)
inductive RCase:Int→BA→BA→Int→Int→Int→BA→OA→Nat→Nat→World→Bool→Prop where
 |c3a {op:Int} {tb nm vt:BA} {ix vk vi:Int} {A:OA} {n c:Nat} {w:World} (b2:(op==2)=true) (HN1:Hid (nameB nm=false)):RCase op tb nm ix vk vi vt A n c w false
 |c3b {op:Int} {nm vt:BA} {ix vk vi:Int} {A:OA} {n c:Nat} {w:World} (b2:(op==2)=true) (HN1:Hid (nameB nm=true)):RCase op ⟨#[]⟩ nm ix vk vi vt A n c w ((vk==0&&vi==0&&vt.size==0))
 |c3c {op:Int} {tb nm vt:BA} {ix vk vi:Int} {A:OA} {n c:Nat} {w:World} (b2:(op==2)=true) (HN1:Hid (nameB nm=true)) (HN2:Hid (nameB tb=false)) (t1:¬tb.toList= []) (t2:tb.toList.isEmpty=false):RCase op tb nm ix vk vi vt A n c w false
 |c3d {op:Int} {tb nm vt:BA} {ix vk vi:Int} {A:OA} {n c:Nat} {w:World} (b2:(op==2)=true) (HN1:Hid (nameB nm=true)) (HN2:Hid (nameB tb=true)) (t1:¬tb.toList= []) (t2:tb.toList.isEmpty=false):RCase op tb nm ix vk vi vt A n c w ((vk==0&&vi==0&&vt.size==0))
 |c4a {op:Int} {tb nm vt:BA} {ix vk vi:Int} {A:OA} {n c:Nat} {w:World} (b2:(op==2)=false) (t1:¬tb.toList= []) (t2:tb.toList.isEmpty=false):RCase op tb nm ix vk vi vt A n c w false
 |c4b {op:Int} {nm vt:BA} {ix vk vi:Int} {A:OA} {n c:Nat} {w:World} (b2:(op==2)=false) (t1:¬nm.toList= []) (t2:nm.toList.isEmpty=false):RCase op ⟨#[]⟩ nm ix vk vi vt A n c w false
 |c5 {op:Int} {vt:BA} {ix vk vi:Int} {A:OA} {n c:Nat} {w:World} {d:Nd} (e0:d.vk=vk) (e1:d.vi=vi) (e2:d.vt=vt) (b2:(op==2)=false) (b1:(op==1)=true):RCase op ⟨#[]⟩ ⟨#[]⟩ ix vk vi vt A n c w (d.litB)
 |c6a {op:Int} {vt:BA} {ix vk vi:Int} {n c:Nat} {w:World} {b off:Nat} {op1:Int} {vk1:Int} (HQ:Hid (w.cell? ⟨b,off+1*8,none⟩=some (i4 op1)∧w.cell? ⟨b,off+1*8+4,none⟩=some (i4 vk1))) (b2:(op==2)=false) (b1:(op==1)=false) (b16:(op==16)=true) (hn2:(1:Int)<(n:Int)) (p1:(op1 !=1)=true):RCase op ⟨#[]⟩ ⟨#[]⟩ ix vk vi vt ((some ⟨b,off,none⟩)) n c w false
 |c6b {op:Int} {vt:BA} {ix vk vi:Int} {n c:Nat} {w:World} {b off:Nat} {op1:Int} {vk1:Int} (HQ:Hid (w.cell? ⟨b,off+1*8,none⟩=some (i4 op1)∧w.cell? ⟨b,off+1*8+4,none⟩=some (i4 vk1))) (b2:(op==2)=false) (b1:(op==1)=false) (b16:(op==16)=true) (hn2:(1:Int)<(n:Int)) (p1:(op1 !=1)=false) (p2:(vk1 !=2)=true):RCase op ⟨#[]⟩ ⟨#[]⟩ ix vk vi vt ((some ⟨b,off,none⟩)) n c w false
 |c6c {op:Int} {vt:BA} {ix vk vi:Int} {n c:Nat} {w:World} {b off:Nat} {op1:Int} {vk1:Int} (HQ:Hid (w.cell? ⟨b,off+1*8,none⟩=some (i4 op1)∧w.cell? ⟨b,off+1*8+4,none⟩=some (i4 vk1))) (b2:(op==2)=false) (b1:(op==1)=false) (b16:(op==16)=true) (hn2:(1:Int)<(n:Int)) (p1:(op1 !=1)=false) (p2:(vk1 !=2)=false):RCase op ⟨#[]⟩ ⟨#[]⟩ ix vk vi vt ((some ⟨b,off,none⟩)) n c w ((vk==0&&vi==0&&vt.size==0))
 |c7 {op:Int} {vt:BA} {ix vk vi:Int} {A:OA} {n c:Nat} {w:World} (b2:(op==2)=false) (b1:(op==1)=false) (b16:(op==16)=false):RCase op ⟨#[]⟩ ⟨#[]⟩ ix vk vi vt A n c w ((vk==0&&vi==0&&vt.size==0))
theorem rcR {op:Int} {tb nm vt:BA} {ix vk vi:Int} {A:OA} {n c:Nat} {w:World} {R:Bool} {ks:List Ex} (h:RC ks tb nm vt A n c w) (m:Hid (ks.any (fun x=>!x.formed)=false)) (bN:(opN op !=(n:Int))=false) (hc:RCase op tb nm ix vk vi vt A n c w R):
  Cl 84 #[.agg #[i4 op,.string tb,.string nm,i4 ix,i4 vk,i4 vi,.string vt,.slice A n c]] w (Rt (.bool R) w):=by
 have H:=hid h
 clear h
 have X:=hid (Blk.of_new w 37 (eC op tb nm ix vk vi vt A n c))
 have HX:=hid (x10 w (.cells #[i4 op,.string tb,.string nm,i4 ix,i4 vk,i4 vi,.string vt,.slice A n c] 37))
 have ac:=H.le
 go_enter func84,ntmps84
 go_wp2_with fail
 generalize w.alloc (.cells #[i4 op,.string tb,.string nm,i4 ix,i4 vk,i4 vi,.string vt,.slice A n c] 37)=w1 at*
 generalize w.heap.size=g at*
 obtain⟨k0,-,-,-,-,-,-,k7,-⟩:=lks X
 refine af (by kernel_rfl) (by kernel_rfl) ?_
 repeat (go_big_quiet_step ((go_at_call 158;exact fg (px _ _))))
 refine wpQuiet_nil ?_
 intro w2 G
 have o:=am G
 clear G k0 k7
 have u:=hid (HX.trans o)
 have J:=hid (X.ext o)
 clear o
 go_wp2_with fail
 go_loopw [3] (fun iv wr=> ∃k:Nat,k≤n∧iv= i4 k∧(ks.take k).any (fun x=>!x.formed)=false∧Ext w2 wr) (fun i _=>n- (intOf i).toNat)
 case atStart=>exact⟨0,Nat.zero_le _,rfl,rfl,Ext.refl w2⟩
 case round=>
  obtain⟨k,hk,rfl,Y,f⟩:=hrel
  have y:=hid f
  have L:=hid Y
  have D:=J.ext f
  obtain⟨c0,c1,c2,-,c4,c5,c6,c7,-⟩:=cls D
  clear D Y
  by_cases U:k<n
  ·obtain⟨Q,E⟩:=fd H.len U
   obtain⟨b',Z,A',n',c',hA,j,q1,q2,q3,l,q5,q6,q7,F⟩:=((H.kids.ext u).ext f).get E
   subst hA
   have HC:=hid (H.call Q (gG E) A' n' c' _ F)
   have s:Hid (Q.formed=true):=by
    unfold Hid
    cases hf:Q.formed
    ·rw[pw (p:=fun x=>!x.formed) E (by simp[hf])]at m
     exact absurd m.out (by simp)
    ·rfl
   have K:Hid ((ks.take (k+1)).any (fun x=>!x.formed)=false):=mm E L (by simp[s.out])
   clear E F f
   go_wp2_with (go_at_call 84;refine HC.mono ?_;rintro _ w3 ⟨rfl,V⟩;rw[s.out])
   go_roundw
   case rel=>exact⟨k+1,by omega,by go_num,K,y.trans V⟩
   case measure=>simp[intOf];omega
  ·obtain rfl:k=n:=by omega
   have b:=hid (u.trans y)
   cases hc with
   |c3a b2 HN1=>
    go_wp2_with (go_at_call 144;(with_reducible refine(bP nm _ H.out.nm).mono ?_);rintro _ I ⟨rfl,a⟩;rw[HN1.out];have z:=a.keep c4;have B:=a.keep c5;have C:=a.keep c6;have O:=a.keep c1)
    go_ret
    exact⟨rfl,b.trans a⟩
   |c3b b2 HN1=>
    go_wp2_with (go_at_call 144;(with_reducible refine(bP nm _ H.out.nm).mono ?_);rintro _ I ⟨rfl,a⟩;rw[HN1.out];have z:=a.keep c4;have B:=a.keep c5;have C:=a.keep c6;have O:=a.keep c1)
    all_goals
     go_ret
     refine⟨aa ?_,b.trans a⟩
     rw[eo]
     simp[*]
   |c3c b2 HN1 HN2 t1 t2=>
    go_wp2_with (first|(go_at_call 144;(with_reducible refine(bP nm _ H.out.nm).mono ?_);rintro _ I ⟨rfl,a⟩;rw[HN1.out];have z:=a.keep c4;have B:=a.keep c5;have C:=a.keep c6;have O:=a.keep c1)|(go_at_call 144;(with_reducible refine(bP tb _ H.out.tb).mono ?_);rintro _ w5 ⟨rfl,e⟩;rw[HN2.out];have f4:=e.keep z;have f5:=e.keep B;have f6:=e.keep C))
    go_ret
    exact⟨rfl,(b.trans a).trans e⟩
   |c3d b2 HN1 HN2 t1 t2=>
    go_wp2_with (first|(go_at_call 144;(with_reducible refine(bP nm _ H.out.nm).mono ?_);rintro _ I ⟨rfl,a⟩;rw[HN1.out];have z:=a.keep c4;have B:=a.keep c5;have C:=a.keep c6;have O:=a.keep c1)|(go_at_call 144;(with_reducible refine(bP tb _ H.out.tb).mono ?_);rintro _ w5 ⟨rfl,e⟩;rw[HN2.out];have f4:=e.keep z;have f5:=e.keep B;have f6:=e.keep C))
    all_goals
     go_ret
     refine⟨aa ?_,(b.trans a).trans e⟩
     rw[eo]
     simp[*]
   |c4a b2 t1 t2=>
    go_wp2_with fail
    go_ret
    exact⟨rfl,b⟩
   |c4b b2 t1 t2=>
    go_wp2_with fail
    go_ret
    exact⟨rfl,b⟩
   |c5 e0 e1 e2 b2 b1=>
    have t:=hid (fun W=>sP vk vi vt W H.vt _ e0 e1 e2)
    clear e0 e1 e2
    go_wp2_with (go_at_call 159;refine(t _).mono ?_;rintro _ I ⟨rfl,a⟩)
    go_ret
    exact⟨rfl,b.trans a⟩
   |c6a HQ b2 b1 b16 hn2 p1=>
    obtain⟨j,l⟩:=HQ.out
    replace j:=b.keep j
    replace l:=b.keep l
    go_wp2_with fail
    go_ret
    exact⟨rfl,b⟩
   |c6b HQ b2 b1 b16 hn2 p1 p2=>
    obtain⟨j,l⟩:=HQ.out
    replace j:=b.keep j
    replace l:=b.keep l
    go_wp2_with fail
    go_ret
    exact⟨rfl,b⟩
   |c6c HQ b2 b1 b16 hn2 p1 p2=>
    obtain⟨j,l⟩:=HQ.out
    replace j:=b.keep j
    replace l:=b.keep l
    go_wp2_with fail
    all_goals
     go_ret
     refine⟨aa ?_,b⟩
     rw[eo]
     simp[*]
   |c7 b2 b1 b16=>
    go_wp2_with fail
    all_goals
     go_ret
     refine⟨aa ?_,b⟩
     rw[eo]
     simp[*]
theorem dM:∀(e:Ex) (A:OA) (n c:Nat) (w:World),ExV w e A n c→
  Cl 84 #[e.d.val A n c] w (Rt (.bool e.formed) w):=by
 intro e
 induction e using Ex.ind with
 |h d ks ih=>
  intro A n c w hv
  obtain⟨C,Y,D,H⟩:=hv
  have C:ks.length=n:=C
  have H:KidsAt w A ks:=H
  have D:d.fit:=D
  have U:=re d ks
  rw[C]at U
  have a:RC ks d.tb d.nm d.vt A n c w:=⟨D.tb,D.nm,D.vt,C,Y,H,fun x m R X c' W Q=>ih x m R X c' W Q⟩
  have L:ndB d (ks.map Ex.d)=if d.op=2 then nameB d.nm&& (d.tb.size==0||nameB d.tb) &&d.valZ
   else if d.op=1 then d.tb.size==0&&d.nm.size==0&&d.litB
   else if d.op=16∧(((ks.map Ex.d).getD 1 d).op≠1∨((ks.map Ex.d).getD 1 d).vk≠2)then false
   else d.tb.size==0&&d.nm.size==0&&d.valZ:=rfl
  have u:d.valZ=(d.vk==0&&d.vi==0&&d.vt.size==0):=rfl
  have E:∀A,(Ex.mk d ks).d.val A n c= .agg #[i4 d.op,.string d.tb,.string d.nm,i4 d.ix,i4 d.vk,i4 d.vi,.string d.vt,.slice A n c]:=fun _=>rfl
  rw[E,U]
  by_cases t:opN d.op=(n:Int)
  ·have f:(opN d.op !=(n:Int))=false:=by rw[t];simp
   have s:(opN d.op==(n:Int))=true:=by rw[t];simp
   rw[s,Bool.true_and]
   cases l:ks.any fun x=>!x.formed
   ·simp only[Bool.not_false,Bool.true_and]
    rw[L]
    by_cases J:d.op=2
    ·rw[if_pos J]
     have k:(d.op==2)=true:=by rw[J];rfl
     cases m:nameB d.nm
     ·exact rcR a l f (.c3a k m)
     ·by_cases g:d.tb.size=0
      ·rw[g,u]
       simp only[beq_self_eq_true,Bool.true_and,Bool.true_or]
       rw[bF g]at a ⊢
       exact rcR a l f (.c3b k m)
      ·have z:(d.tb.size==0)=false:=by simpa using g
       rw[z]
       cases V:nameB d.tb
       ·exact rcR a l f (.c3c k m V (bV g) (bH g))
       ·rw[u]
        simp only[Bool.true_and,Bool.or_true]
        exact rcR a l f (.c3d k m V (bV g) (bH g))
    ·rw[if_neg J]
     have k:(d.op==2)=false:=by simpa using J
     by_cases g:d.tb.size=0
     ·have G:=bF g
      by_cases B:d.nm.size=0
      ·have K:=bF B
       by_cases I:d.op=1
       ·rw[if_pos I,g,B]
        simp only[beq_self_eq_true,Bool.true_and]
        rw[G,K]at a ⊢
        exact rcR a l f (.c5 (d:=d) rfl rfl rfl k (by rw[I];rfl))
       ·rw[if_neg I]
        have F:(d.op==1)=false:=by simpa using I
        rw[g,B,u]
        simp only[beq_self_eq_true,Bool.true_and]
        by_cases j:d.op=16
        ·have Z:n=2:=by
          rw[j]at t
          unfold opN at t
          simp at t
          omega
         obtain⟨x,m⟩:=fd (i:=1) C (by omega)
         obtain⟨b,ac,R,X,c',rfl,y⟩:=H.get m
         obtain⟨o,kx⟩:=x
         rw[get1 d m]
         have p:(d.op==16)=true:=by rw[j];rfl
         rw[G,K]at a ⊢
         by_cases o1:o.op=1
         ·by_cases o2:o.vk=2
          ·rw[if_neg (by rintro⟨_,h|h⟩;exact h o1;exact h o2)]
           exact rcR a l f (.c6c (op1:=o.op) (vk1:=o.vk) ⟨y.c0,y.c4⟩ k F p (by omega) (by rw[o1];rfl) (by rw[o2];rfl))
          ·rw[if_pos ⟨j,.inr o2⟩]
           exact rcR a l f (.c6b (op1:=o.op) (vk1:=o.vk) ⟨y.c0,y.c4⟩ k F p (by omega) (by rw[o1];rfl) (by simpa using o2))
         ·rw[if_pos ⟨j,.inl o1⟩]
          exact rcR a l f (.c6a (op1:=o.op) (vk1:=o.vk) ⟨y.c0,y.c4⟩ k F p (by omega) (by simpa using o1))
        ·rw[if_neg (fun h=>j h.1)]
         rw[G,K]at a ⊢
         exact rcR a l f (.c7 k F (by simpa using j))
      ·have z:(d.nm.size==0)=false:=by simpa using B
       have O:(if d.op=1 then d.tb.size==0&&d.nm.size==0&&d.litB else if d.op=16∧(((ks.map Ex.d).getD 1 d).op≠1∨((ks.map Ex.d).getD 1 d).vk≠2)then false else d.tb.size==0&&d.nm.size==0&&d.valZ)=false:=by
        rw[z]
        simp
       rw[O]
       rw[G]at a ⊢
       exact rcR a l f (.c4b k (bV B) (bH B))
     ·have z:(d.tb.size==0)=false:=by simpa using g
      have O:(if d.op=1 then d.tb.size==0&&d.nm.size==0&&d.litB else if d.op=16∧(((ks.map Ex.d).getD 1 d).op≠1∨((ks.map Ex.d).getD 1 d).vk≠2)then false else d.tb.size==0&&d.nm.size==0&&d.valZ)=false:=by
       rw[z]
       simp
      rw[O]
      exact rcR a l f (.c4a k (bV g) (bH g))
   ·simp only[Bool.not_true,Bool.false_and]
    exact rc2 _ _ _ _ _ _ _ _ _ _ _ _ a l f
  ·have f:(opN d.op !=(n:Int))=true:=by simpa using t
   have s:(opN d.op==(n:Int))=false:=by simpa using t
   rw[s]
   simp only[Bool.false_and]
   exact rc1 _ _ _ _ _ _ _ _ _ _ _ _ a f
theorem same_at {l m:List Ex} (b:l.length=m.length) (h:∀(i:Nat) (x y:Ex),l[i]? =some x→m[i]? =some y→i<l.length→x.same y=true):sameL l m=true:=
 (kr l m).2 ⟨b,fun i x y a e=>h i x y a e (List.getElem?_eq_some_iff.1 a).1⟩
theorem same_no {l m:List Ex} {i:Nat} {x y:Ex} (b:l[i]? =some x) (e:m[i]? =some y) (h:x.same y=false):sameL l m=false:=by
 rw[←Bool.not_eq_true,kr]
 rintro⟨_,a⟩
 rw[a i x y b e]at h
 cases h
theorem uE {l m:List Ex} (h:l.length≠m.length):sameL l m=false:=by
 rw[←Bool.not_eq_true,kr]
 exact fun a=>h a.1
def gH (l m:List Ex) (k:Nat):Prop:=∀(i:Nat) (x y:Ex),l[i]? =some x→m[i]? =some y→i<k→x.same y=true
theorem gH.zero (l m:List Ex):gH l m 0:=fun _ _ _ _ _ h=>absurd h (Nat.not_lt_zero _)
theorem gH.step {l m:List Ex} {k:Nat} {x y:Ex} (h:gH l m k) (j:l[k]? =some x) (n:m[k]? =some y) (g:x.same y=true):gH l m (k+1):=by
 intro i a b e f hi
 rcases Nat.lt_or_ge i k with h2|h2
 ·exact h i a b e f h2
 ·obtain rfl:i=k:=by omega
  rw[Option.some.inj (e.symm.trans j),Option.some.inj (f.symm.trans n)]
  exact g
theorem gH.done {l m:List Ex} {n:Nat} (h:gH l m n) (a:l.length=n) (b:m.length=n):sameL l m=true:=
 same_at (by rw[a,b]) fun i x y e f hi=>h i x y e f (by omega)
theorem eqfunc_ex (l m:List Ex) (A B:OA) (n p c c':Nat) (w:World) (Y:l.length=n) (Z:m.length=p) (hn:n≤9223372036854775807) (h:p≤9223372036854775807) (X:KidsAt w A l) (z:KidsAt w B m)
  (U:∀x∈l,∀(y:Ex) (Q D:OA) (n1 G c1 c2:Nat) (W:World),ExV W x Q n1 c1→ExV W y D G c2→Cl 182 #[x.d.val Q n1 c1,y.d.val D G c2] W fun r W'=>r= .returned (.bool (x.same y))∧Ext W W'):
  Cl 266 #[.slice A n c,.slice B p c',.func (Fn.func 182) #[] #[]] w (Rt (.bool (sameL l m)) w):=by
 have I:=hid Y
 have J:=hid Z
 have HK:=hid X
 have H:=hid z
 have HF:=hid U
 clear Y Z X z U
 by_cases g:n=p
 ·subst g
  have bN:((n:Int) !=(n:Int))=false:=by simp
  go_enter func266,ntmps266
  go_wp2_with fail
  go_loopw [17] (fun iv wr=> ∃(k:Nat),k≤n∧iv= i4 k∧gH l m k∧Ext w wr) (fun i _=>n- (intOf i).toNat)
  case atStart=>exact⟨0,Nat.zero_le _,rfl,gH.zero l m,Ext.refl w⟩
  case round=>
   obtain⟨k,ag,rfl,K,a⟩:=hrel
   have f:=hid a
   have u:=hid K
   by_cases C:k<n
   ·obtain⟨x,F⟩:=fd I C
    obtain⟨y,O⟩:=fd J C
    obtain⟨b,an,A',n',c',rfl,q0,q1,q2,q3,q4,q5,q6,q7,L⟩:=(HK.ext a).get F
    obtain⟨b2,ac,D,G,c2,rfl,s0,s1,s2,s3,s4,s5,s6,s7,j⟩:=(H.ext a).get O
    have HV:=hid L
    have ad:=hid j
    have p0:=fun o=> (x10 wr o).keep s0
    have p1:=fun o=> (x10 wr o).keep s1
    have p2:=fun o=> (x10 wr o).keep s2
    have p3:=fun o=> (x10 wr o).keep s3
    have p4:=fun o=> (x10 wr o).keep s4
    have p5:=fun o=> (x10 wr o).keep s5
    have p6:=fun o=> (x10 wr o).keep s6
    have p7:=fun o=> (x10 wr o).keep s7
    have E:=hid (fun W (V:Ext wr W)=>HF x (gG F) y A' D n' G c' c2 W (L.ext V) (j.ext V))
    have R:=hid F
    have t:=hid O
    clear F O L j a K s0 s1 s2 s3 s4 s5 s6 s7
    cases h:x.same y
    ·rw[h]at E
     have e:Hid (sameL l m=false):=same_no R t h
     clear h
     go_wp2_with fail
     refine(E _ ((x10 wr _).alloc _)).mono ?_
     rintro _ w2 ⟨rfl,s⟩
     go_wp2_with fail
     go_ret
     exact⟨aa e.symm,((f.alloc _).alloc _).trans s⟩
    ·rw[h]at E
     have e:=hid (u.step R t h)
     clear h
     go_wp2_with fail
     refine(E _ ((x10 wr _).alloc _)).mono ?_
     rintro _ w2 ⟨rfl,s⟩
     go_wp2_with fail
     go_roundw
     case rel=>exact⟨k+1,by omega,by go_num,e,((f.alloc _).alloc _).trans s⟩
     case measure=>simp[intOf];omega
   ·obtain rfl:k=n:=by omega
    have e:=hid (u.done I J)
    clear K
    go_wp2_with fail
    go_ret
    exact⟨aa e.symm,f⟩
 ·have bN:((n:Int) !=(p:Int))=true:=by simp;omega
  have e:Hid (sameL l m=false):=uE (by rw[I.out,J.out];exact g)
  clear g
  go_enter func266,ntmps266
  go_wp2_with fail
  go_ret
  exact⟨aa e.symm,Ext.refl w⟩
theorem rg (d a:Nd) (ks b:List Ex):(Ex.mk d ks).same (Ex.mk a b)=
  (d.op==a.op&&d.tb.toList==a.tb.toList&&d.nm.toList==a.nm.toList&& (d.vk==a.vk&&d.vi==a.vi&&d.vt.toList==a.vt.toList) &&sameL ks b):=by
 rw[Ex.same,Nd.same,bz,bz,bz]
theorem equal_any:∀(a:Ex) (b:Ex) (A B:OA) (n p c c':Nat) (w:World),ExV w a A n c→ExV w b B p c'→
  Cl 182 #[a.d.val A n c,b.d.val B p c'] w (Rt (.bool (a.same b)) w):=by
 intro a
 induction a using Ex.ind with
 |h d ks ih=>
  intro b A B n p c c' w K f
  obtain⟨k,e⟩:=b
  obtain⟨z,C,J,j⟩:=K
  obtain⟨t,u,I,i⟩:=f
  have j:KidsAt w A ks:=j
  have i:KidsAt w B e:=i
  have s:=hid (rg d k ks e)
  obtain⟨S,l⟩:∃S,sameL ks e=S:=⟨_,rfl⟩
  have G:Hid (∀W,Ext w W→Cl 236 #[.slice A n c,.slice B p c'] W (Rt (.bool S) W)):=by
   intro W D
   have o:=hid (eqfunc_ex ks e A B n p c c' W z t C u (j.ext D) (i.ext D) fun x L y E F Q U c1 c2 H m f=>ih x L y E F Q U c1 c2 H m f)
   rw[l]at o
   go_enter func236,ntmps236
   go_wp2_with fail
   refine o.mono ?_
   rintro _ w2 ⟨rfl,g⟩
   go_wp2_with fail
   go_ret
   exact⟨rfl,g⟩
  rw[l]at s
  clear l z t C u J I j i ih
  generalize (Ex.mk d ks).same (Ex.mk k e)=R at*
  unfold Nd.val
  simp only[Ex.d]
  obtain⟨op,tb,nm,ix,vk,vi,vt⟩:=d
  obtain⟨X,Y,V,O,ac,Z,ad⟩:=k
  simp only at*
  go_enter func182,ntmps182
  go_wp2_with (go_at_call 236;refine(G _ ((x10 w _).alloc _)).mono ?_;rintro _ w2 ⟨rfl,g⟩)
  all_goals
   go_ret
   refine⟨aa (by rw[s.out];simp[*]),?_⟩
   first|exact((x10 w _).alloc _).trans g|exact(x10 w _).alloc _
theorem lA (e:Ex) (A:OA) (n c:Nat) (w:World) (b:ExV w e A n c):
  Cl 116 #[e.d.val A n c] w (Rt (.bool e.absent) w):=by
 have f:Hid (∀W,Ext w W→Cl 182 #[e.d.val A n c,exZ.d.val none 0 0] W (Rt (.bool e.absent) W)):=by
  intro W g
  rw[←ue]
  exact equal_any e exZ A none n 0 c 0 W (b.ext g) ⟨rfl,by omega,⟨⟨by decide,by decide⟩,⟨by decide,by decide⟩,⟨by decide,by decide⟩,⟨by decide,by decide⟩,by decide,by decide,by decide⟩,trivial⟩
 clear b
 unfold Nd.val at*
 generalize e.absent=R at*
 generalize e.d=d at*
 obtain⟨op,tb,nm,ix,vk,vi,vt⟩:=d
 simp only at*
 go_enter func116,ntmps116
 go_wp2_with (go_at_call 182;refine(f _ (x10 w _)).mono ?_;rintro _ h ⟨rfl,a⟩)
 go_ret
 exact⟨rfl,(x10 w _).trans a⟩
end Go.Proofs.YtjigcpfjhfoheaaGreatDoor
