/- White space and comments around a text make no difference; nor does the case of letters; A whole block loaded, in a plain region and in one that draws its order; Walks: weight, Nodes, Depth; Walks: Nodes, Depth; Walks: counted, up. -/
import Derived.Test.YtjigcpfjhfoheaaGreatDoorYad
import Derived.Test.YtjigcpfjhfoheaaGreatDoorYab
import Derived.Test.YtjigcpfjhfoheaaGreatDoorYaa
import Derived.Laws.Rows
import Derived.Deep.Quiet
import Derived.Test.YtjigcpfjhfoheaaGreatDoorProg
import Derived.Lib.Strings
import Derived.Lib.IndexMore
import Derived.Test.YtjigcpfjhfoheaaGreatDoorShelf
namespace Go.Proofs.YtjigcpfjhfoheaaGreatDoor
open Go.RowKit
set_option maxHeartbeats 4000000
set_option maxRecDepth 100000
set_option linter.unusedVariables false
set_option linter.unusedSimpArgs false
section
open Lx (Tk isDigit isLetter inWord spanN isPrint)
def parS (vld:St→Int) (s:ByteArray):St×Int×Int:=
 match Lx.tokAll s with
 | .bad a e=> (stZ,(a:Int),(e:Int))
 | .ok L=>
  match dl (stmP (L.length+1)) L with
  | .inl a=> (stZ,(a:Int),2)
  | .inr x=>if vld x=0 then (x,0,0)else (stZ,((⟨L,false⟩:Ps).hd.pos:Int),vld x)
def parE (vld:Ex→Int) (s:ByteArray):Ex×Int×Int:=
 match Lx.tokAll s with
 | .bad a e=> (exZ,(a:Int),(e:Int))
 | .ok L=>
  match dl (exprP (L.length+1)) L with
  | .inl a=> (exZ,(a:Int),2)
  | .inr x=>if vld x=0 then (x,0,0)else (exZ,((⟨L,false⟩:Ps).hd.pos:Int),vld x)
theorem jt (b:List UInt8):∀(l X:List UInt8) (i:Nat),Lx.litF l X i=none→Lx.litF (l++10::b) X i=none
 | [],X,i,_=>by
  rw[List.nil_append,Lx.lit_cons,if_pos (by decide)]
 | [c],X,i,h=>by
  rw[Lx.litF]at h
  rw[List.cons_append,List.nil_append,Lx.litF]
  split at h
  ·next h1=>rw[if_pos h1]
  next h1=>
  rw[if_neg h1]
  split at h
  ·cases h
  ·next h2=>
   rw[if_neg h2,Lx.lit_cons,if_pos (by decide)]
 |c::d::r,X,i,h=>by
  rw[Lx.litF]at h
  rw[List.cons_append,List.cons_append,Lx.litF]
  split at h
  ·next h1=>rw[if_pos h1]
  next h1=>
  rw[if_neg h1]
  split at h
  ·next h2=>
   rw[if_pos h2]
   split at h
   ·next h3=>
    rw[if_pos h3]
    exact jt b r _ _ h
   ·cases h
  ·next h2=>
   rw[if_neg h2]
   exact jt b (d::r) _ _ h
theorem nG (b:List UInt8) (c:UInt8) (r:List UInt8) (e:Nat) (h:Lx.tokL (c::r)= .bad e):Lx.tokL (c::r++10::b)= .bad e:=by
 rw[Lx.tokL]at h
 rw[List.cons_append,Lx.tokL,←List.cons_append]
 split at h
 ·next h1=>
  rw[if_pos h1]
  unfold Lx.wordL at h ⊢
  rw[Lx.span_app inWord b (by decide),List.take_append_of_le_length (Lx.span_le inWord (c::r))]
  exact h
 next h1=>
 rw[if_neg h1]
 split at h
 ·next h2=>
  rw[if_pos h2]
  unfold Lx.numL at h ⊢
  rw[Lx.span_app isDigit b (by decide),List.take_append_of_le_length (Lx.span_le isDigit (c::r))]
  have i:(c::r++10::b).head? =(c::r).head? :=rfl
  have g:Lx.headW ((c::r++10::b).drop (spanN isDigit (c::r)))=Lx.headW ((c::r).drop (spanN isDigit (c::r))):=by
   rcases Lx.head_app (c::r) b (spanN isDigit (c::r))with e|e
   ·exact e
   ·have f:spanN isDigit (c::r)=(c::r).length:=by have:=Lx.span_le isDigit (c::r);omega
    rw[f,List.drop_append_of_le_length (Nat.le_refl _),List.drop_length]
    rfl
  rw[i,g]
  exact h
 next h2=>
 rw[if_neg h2]
 split at h
 ·next h3=>
  rw[if_pos h3]
  unfold Lx.textL at h ⊢
  cases a:Lx.litF r [] 1 with
  |none=>rw[jt b r [] 1 a];rw[a]at h;exact h
  |some q=>rw[Lx.lit_app b r [] 1 q a];rw[a]at h;exact h
 ·next h3=>
  rw[if_neg h3]
  unfold Lx.symL at h ⊢
  rw[Lx.sym_app]
  rw[List.take_append_of_le_length (Lx.sym_le (c::r))]
  exact h
theorem ml (b:List UInt8):∀(m:Nat) (a:List UInt8) (p x e:Nat),a.length≤m→Lx.T a p= .bad x e→Lx.T (a++10::b) p= .bad x e
 |0,a,p,x,e,hl,h=>by
  obtain rfl:a= []:=List.eq_nil_of_length_eq_zero (by omega)
  rw[Lx.T_end [] p rfl]at h
  cases h
 |m+1,a,p,x,e,hl,h=>by
  cases hd:a.drop (Lx.skipN false a)with
  |nil=>rw[Lx.T_end a p hd]at h;cases h
  |cons c r=>
   have f:(c::r).length=a.length-Lx.skipN false a:=by rw[←hd,List.length_drop]
   have o:Lx.skipN false a<a.length:=by rw[List.length_cons]at f;omega
   have l:Lx.skipN false (a++10::b)=Lx.skipN false a:=by rw[Lx.skip_app,if_pos o]
   have i:(a++10::b).drop (Lx.skipN false (a++10::b))=c::(r++10::b):=by
    rw[l,List.drop_append_of_le_length (by omega),hd];rfl
   cases g:Lx.tokL (c::r)with
   |bad e'=>
    rw[Lx.T_bad a p c r e' hd g]at h
    rw[Lx.T_bad _ p c (r++10::b) e' i (nG b c r e' g),l]
    exact h
   |tok k y n=>
    have q:=Lx.tok_bound c r k y n g
    rw[Lx.T_tok a p c r k y n hd g]at h
    have s:((c::r).drop n).length=a.length-Lx.skipN false a-n:=by rw[List.length_drop];omega
    rw[Lx.T_tok _ p c (r++10::b) k y n i (Lx.tok_app b c r k y n g),l]
    cases j:Lx.T ((c::r).drop n) (p+Lx.skipN false a+n)with
    |ok z=>rw[j]at h;cases h
    |bad x' e'=>
     rw[j]at h
     rw[←List.cons_append,List.drop_append_of_le_length q.2,ml b m _ _ x' e' (by omega) j]
     exact h
def preL:List UInt8:= [32,9,45,45,32,120,39,10]
theorem T_front (l:List UInt8):Lx.T (preL++l) 0=(Lx.T l 0).sh 8:=by
 have h:Lx.skipN false (preL++l)=8+Lx.skipN false l:=by
  unfold preL
  simp only[List.cons_append,List.nil_append]
  simp(decide:=true) [Lx.skipN]
  omega
 rw[←Lx.T_shift 8 l.length l 0 (Nat.le_refl _)]
 refine Lx.T_skip _ _ _ _ ?_ (by omega)
 rw[h,←List.drop_drop]
 rfl
theorem T_around (l:List UInt8):Lx.T (preL++(l++ [10])) 0=(match Lx.T l 0 with| .bad a e=> .bad (a+8) e| .ok L=> .ok (L.map fun a=>⟨a.kind,a.text,if a.kind=0 then l.length+9 else a.pos+8⟩))∧
  ∀L,Lx.T l 0= .ok L→js ⟨L,false⟩∧∀a∈L,a.kind=0→a.pos=l.length:=by
 have g:∀(m:Nat) (l:List UInt8) (p:Nat) (L:List Tk),l.length≤m→Lx.T l p= .ok L→∃A,L=A++ [⟨0,[],p+l.length⟩]∧∀a∈A,a.kind≠0:=by
  intro m
  induction m with
  |zero=>
   intro l p L B h
   obtain rfl:l= []:=List.eq_nil_of_length_eq_zero (by omega)
   rw[Lx.T_end [] p rfl]at h
   cases h
   exact⟨[],rfl,by simp⟩
  |succ m ih=>
   intro l p L B h
   cases hd:l.drop (Lx.skipN false l)with
   |nil=>
    rw[Lx.T_end l p hd]at h
    cases h
    have f:=congrArg List.length hd
    rw[List.length_drop]at f
    have q:=Lx.skip_le false l
    refine⟨[],?_,by simp⟩
    simp only[List.nil_append,List.cons.injEq,Tk.mk.injEq,and_true,true_and]
    simp at f
    omega
   |cons c r=>
    have w:(c::r).length=l.length-Lx.skipN false l:=by rw[←hd,List.length_drop]
    cases i:Lx.tokL (c::r)with
    |bad e'=>rw[Lx.T_bad l p c r e' hd i]at h;cases h
    |tok k y n=>
     have C:=Lx.tok_bound c r k y n i
     have j:k≠0:=by
      intro j
      subst j
      rw[Lx.tokL]at i
      unfold Lx.wordL Lx.numL Lx.textL Lx.symL at i
      repeat' split at i
      all_goals first|cases i|(injection i with f;cases f)
     rw[Lx.T_tok l p c r k y n hd i]at h
     cases t:Lx.T ((c::r).drop n) (p+Lx.skipN false l+n)with
     |bad u e'=>rw[t]at h;cases h
     |ok z=>
      rw[t]at h
      obtain⟨A,f,q⟩:=ih _ _ z (by rw[List.length_drop];omega) t
      cases h
      refine⟨⟨k,y,p+Lx.skipN false l⟩::A,?_,fun a b=>?_⟩
      ·rw[f,List.length_drop]
       simp only[List.cons_append,List.nil_append,List.cons.injEq,true_and,List.append_cancel_left_eq,Tk.mk.injEq,and_true]
       omega
      ·rcases List.mem_cons.1 b with rfl|b
       ·exact j
       ·exact q a b
 refine⟨?_,fun L x=>?_⟩
 ·rw[T_front]
  cases h:Lx.T l 0 with
  |bad a e=>rw[ml [] _ l 0 a e (Nat.le_refl _) h];rfl
  |ok L=>
   obtain⟨u,f,q⟩:=Lx.T_cat _ l 0 L (Nat.le_refl _) h
   obtain⟨A,o,s⟩:=g _ l 0 L (Nat.le_refl _) h
   have e:A=u:=by
    rw[f]at o
    exact(List.append_inj_left' o rfl).symm
   subst e
   rw[q [],Lx.T_end [] _ rfl,f]
   simp only[Lx.Ls.pre,Lx.Ls.sh,List.map_append,List.map_cons,List.map_nil]
   congr 2
   ·refine List.map_congr_left fun a b=>?_
    unfold Lx.Tk.sh
    rw[if_neg (s a b)]
   ·simp[Lx.Tk.sh,Lx.skipN]
 ·obtain⟨A,o,s⟩:=g _ l 0 L (Nat.le_refl _) x
  refine⟨⟨A,_,o,rfl,s⟩,fun a b j=>?_⟩
  rw[o]at b
  rcases List.mem_append.1 b with b|b
  ·exact absurd j (s a b)
  ·rw[List.mem_singleton.1 b];simp
theorem space_law (b:St→Int) (s f:ByteArray) (hs:s.size≤1500) (e:f.data.toList=preL++(s.data.toList++ [10])):
  (parS b f).1=(parS b s).1∧(parS b f).2.2=(parS b s).2.2∧((parS b s).2.2≠0→(parS b f).2.1=(parS b s).2.1+8∨(parS b s).2.1=s.size):=by
 have m:s.data.toList.length=s.size:=Array.length_toList
 have C:f.size=s.size+9:=by
  have l:f.data.toList.length=f.size:=Array.length_toList
  rw[←l,e]
  simp[preL]
 obtain⟨l,z⟩:=T_around s.data.toList
 have u:Lx.tokAll s=Lx.T s.data.toList 0:=by unfold Lx.tokAll;rw[if_neg (by omega)]
 have B:Lx.tokAll f=Lx.T (preL++(s.data.toList++ [10])) 0:=by unfold Lx.tokAll;rw[if_neg (by omega),e]
 unfold parS
 rw[u,B,l]
 cases h:Lx.T s.data.toList 0 with
 |bad a e'=>exact⟨rfl,rfl,fun _=> .inl (by simp)⟩
 |ok L=>
  obtain⟨j,p⟩:=z L h
  simp only[List.length_map]
  have D:Kp (fun a:Tk=>⟨a.kind,a.text,if a.kind=0 then s.data.toList.length+9 else a.pos+8⟩):=⟨fun _=>rfl,fun _=>rfl⟩
  rw[whole_mp (iR _) D j]
  cases g:dl (stmP (L.length+1)) L with
  |inl a=>
   refine⟨rfl,rfl,fun _=>?_⟩
   have o:=(((iR (L.length+1)).sfx ⟨L,false⟩).trans (lj _))
   have t:=(o.ended j).hd
   have n:a=(endP (stmP (L.length+1) ⟨L,false⟩).2).hd.pos:=by
    unfold dl at g
    split at g
    ·injection g with g;exact g.symm
    ·cases g
   have w:(endP (stmP (L.length+1) ⟨L,false⟩).2).hd∈L:=by
    obtain⟨A,q,_⟩:=o
    have:L=A++(endP (stmP (L.length+1) ⟨L,false⟩).2).r:=q
    rw[this]
    exact List.mem_append_right _ (by rw[←this];exact t)
   simp only
   by_cases i:(endP (stmP (L.length+1) ⟨L,false⟩).2).hd.kind=0
   ·right
    rw[n,p _ w i,m]
   ·left
    rw[if_neg i,n]
    simp
  |inr x=>
   simp only
   by_cases k:b x=0
   ·rw[if_pos k,if_pos k]
    exact⟨rfl,rfl,fun h=>absurd rfl h⟩
   ·rw[if_neg k,if_neg k]
    refine⟨rfl,rfl,fun _=>?_⟩
    have y:(⟨L.map (fun a:Tk=>⟨a.kind,a.text,if a.kind=0 then s.data.toList.length+9 else a.pos+8⟩),false⟩:Ps).hd=(fun a:Tk=>⟨a.kind,a.text,if a.kind=0 then s.data.toList.length+9 else a.pos+8⟩) (⟨L,false⟩:Ps).hd:=mp_hd' j
    rw[y]
    simp only
    by_cases i:(⟨L,false⟩:Ps).hd.kind=0
    ·right
     rw[p _ j.hd i,m]
    ·left
     rw[if_neg i]
     simp
theorem case_law (a:St→Int) (s b:ByteArray) (h:b.data.toList.map Lx.upC=s.data.toList.map Lx.upC) (g:∀c∈s.data.toList,c.toNat≠39):parS a b=parS a s:=by
 have e:Lx.tokAll b=Lx.tokAll s:=by
  have f:b.size=s.size:=by
   have:=congrArg List.length h
   rw[List.length_map,List.length_map]at this
   exact this
  unfold Lx.tokAll
  rw[f,Lx.T_case _ _ _ h g]
 unfold parS
 rw[e]
end
section
section
variable {P:Program}
theorem aw {ops:Array Oper} {rest:List Oper} {o:Oper} {a:Act} {w:World} {Q:Exit→Act→World→Prop} (b:o.guard=none) (ty:TypeId) (x:Operand) (e:o.op= .load ty x)
  (g:Nat) (i:a.eval x= .pointer (some ⟨g,0,none⟩)) (t:TypeId) (cs:List Value) (d:TypeDesc) (f:Blk w g t cs)
  (j:P.underlying ty=some d) (hd:(match d with| .struct _| .array _ _=>true|_=>false)=true) (hi:(P.info? ty).map (·.size)=some cs.length)
  (h:wpList P ops Q rest (a.put o.dst (.agg cs.toArray)) w):wpList P ops Q (o::rest) a w:=
 wpList_load_row b ty x e g i t cs.toArray (0,0) d f j hd (by simpa using hi) h
theorem bT {ops:Array Oper} {C:World→Prop} {Q:Act→Prop} {rest:List Oper} {o:Oper} {a:Act} (b:o.guard=none) (ty:TypeId) (x:Operand) (f:o.op= .load ty x)
  (g:Nat) (k:a.eval x= .pointer (some ⟨g,0,none⟩)) (t:TypeId) (cs:List Value) (d:TypeDesc) (j:∀w,C w→Blk w g t cs)
  (l:P.underlying ty=some d) (hd:(match d with| .struct _| .array _ _=>true|_=>false)=true) (hi:(P.info? ty).map (·.size)=some cs.length)
  (h:wpQuiet P ops C Q rest (a.put o.dst (.agg cs.toArray))):wpQuiet P ops C Q (o::rest) a:=by
 unfold wpQuiet
 have i:Region.wanted o (yielded ops a.tmps)=true:=by simp[Region.wanted,b]
 rw[if_pos i]
 refine⟨.agg cs.toArray,fun w e=>?_,h⟩
 unfold Oper.quietAt execOp
 simp only[f,k,Instr.loadAt,Instr.sureAddr,Sem.run_bind,Sem.run_pure,Result.andThen_ok,run_loadVar_row w g t ty cs.toArray (0,0) d (j w e) l hd (by simpa using hi)]
 exact⟨rfl,rfl⟩
theorem dO {w:World} {g t:Nat} {cs:List Value} (h:Blk w g t cs):∀w',(∃x:ae w,w'=x.now)→Blk w' g t cs:=by
 rintro _ ⟨x,rfl⟩
 exact h.ext x.ext
end
end
theorem bD {l:List Ex} {i:Nat} {e:Ex} (h:l[i]? =some e):e∈l:=List.mem_of_getElem? h
theorem bF {l:List Ex} {i n:Nat} (a:l.length=n) (h:i<n):∃e,l[i]? =some e:=⟨_,List.getElem?_eq_getElem (by omega)⟩
theorem take_at {l:List Ex} {i:Nat} {e:Ex} (h:l[i]? =some e):l.take (i+1)=l.take i++ [e]:=by
 obtain⟨hi,rfl⟩:=List.getElem?_eq_some_iff.1 h
 exact List.take_succ_eq_append_getElem hi
theorem ev (d:Nd) (ks:List Ex):(Ex.mk d ks).nodes=(if d.op=0 then 0 else 1)+nodesL ks:=rfl
theorem ju {l:List Ex} {k:Nat} {e:Ex} (h:l[k]? =some e):nodesL (l.take (k+1))=nodesL (l.take k)+e.nodes:=by
 rw[take_at h,cI,nodesL,nodesL,Nat.add_zero]
theorem jv {l:List Ex} {k:Nat} {e:Ex} (h:l[k]? =some e):bl (l.take (k+1))=max (bl (l.take k)) e.depth:=by
 rw[take_at h,nw,bl,bl];omega
theorem gO {l:List Ex} {e:Ex} (h:e∈l):e.nodes≤nodesL l:=by
 induction l with
 |nil=>cases h
 |cons a l ih=>
  rw[nodesL]
  rcases List.mem_cons.1 h with rfl|h
  ·omega
  ·have:=ih h;omega
theorem depth_any:∀(e:Ex) (A:Option Addr) (n c:Nat) (w:World),ExV w e A n c→e.nodes≤100000000→
  Calls Tryz.prog 113 #[e.d.val A n c] w fun r w'=>r= .returned (.int .i64 (e.depth:Int))∧Ext w w':=by
 intro e
 induction e using Ex.ind with
 |h d ks ih=>
  intro A n c w hv H
  obtain⟨J,h2,Y,D⟩:=hv
  have I:Hid (ks.length=n):=J
  have R:Hid (KidsAt w A ks):=D
  have Z:=hid ih
  have q:nodesL ks≤100000000:=by rw[ev]at H;omega
  have y:=hid q
  have HD:Hid (bl ks≤nodesL ks):=(da ks).1
  clear J D ih Y H q
  have x:Hid ((Ex.mk d ks).depth=(if d.op=0 then 0 else 1)+bl ks):=rfl
  unfold Nd.val
  simp only[Ex.d]
  obtain⟨op,tb,nm,ix,vk,vi,vt⟩:=d
  simp only
  simp only at x
  have G:=hid (Blk.of_new w 37 (eC op tb nm ix vk vi vt A n c))
  have t:=hid ((Ext.refl w).alloc (.cells #[.int .i64 op,.string tb,.string nm,.int .i64 ix,.int .i64 vk,.int .i64 vi,.string vt,.slice A n c] 37))
  go_enter Tryz.func113,Tryz.ntmps113
  go_wp2_with fail
  generalize w.alloc (.cells #[.int .i64 op,.string tb,.string nm,.int .i64 ix,.int .i64 vk,.int .i64 vi,.string vt,.slice A n c] 37)=C at*
  generalize w.heap.size=g at*
  go_loopw [3,9] (fun nv iv wr=> ∃(r k:Nat),k≤n∧r≤100000000∧nv= .int .i64 r∧iv= .int .i64 k∧r=bl (ks.take k)∧Ext C wr) (fun _ i _=>n- (intOf i).toNat)
  case atStart=>exact⟨0,0,Nat.zero_le _,by omega,rfl,rfl,rfl,Ext.refl C⟩
  case round=>
   obtain⟨r,k,hk,L,rfl,rfl,u,a⟩:=hrel
   have j:=hid a
   have l:=hid u
   have c7:=(G.ext a).cell 7
   have c0:=(G.ext a).cell 0
   simp only[List.getElem?_cons_succ,List.getElem?_cons_zero]at c7 c0
   by_cases B:k<n
   ·obtain⟨o,s⟩:=bF I B
    obtain⟨b,V,A',U,W,rfl,q0,q1,q2,q3,q4,q5,q6,q7,p⟩:=((R.ext t).ext a).get s
    have O:=hid p
    have K:=hid (bD s)
    have Q:=hid (jv s)
    have E:Hid (o.nodes≤100000000):=by unfold Hid;have:=gO K;have:=y.out;omega
    have X:o.depth≤100000000:=by have:=(da [o]).2 o (by simp);have:=E.out;omega
    clear s p a u
    go_wp2_with (go_at_call 113;refine(Z o K A' U W _ (O.ext ((Ext.refl wr).alloc _)) E).mono ?_;rintro _ w2 ⟨rfl,z⟩)
    go_roundw
    case rel=>
     refine⟨max r o.depth,k+1,by omega,by omega,?_,by go_num,?_,(j.alloc _).trans z⟩
     ·congr 1;omega
     ·rw[Q.out,l.out]
    case measure=>simp[intOf];omega
   ·obtain rfl:k=n:=by omega
    have F:Hid (ks.take k=ks):=List.take_of_length_le (Nat.le_of_eq I)
    clear u
    by_cases m:op=0
    ·have hb:(op !=0)=false:=by simp[m]
     have f:Hid ((Ex.mk ⟨op,tb,nm,ix,vk,vi,vt⟩ ks).depth=r):=by unfold Hid;rw[x.out,if_pos m,l.out,F.out,Nat.zero_add]
     clear m
     go_wp2_with fail
     go_ret
     exact⟨aP (by rw[f.out]),t.trans j⟩
    ·have hb:(op !=0)=true:=by simpa using m
     have f:Hid (((Ex.mk ⟨op,tb,nm,ix,vk,vi,vt⟩ ks).depth:Int)=(r:Int)+1):=by unfold Hid;rw[x.out,if_neg m,l.out,F.out];omega
     clear m
     go_wp2_with fail
     go_ret
     exact⟨aP (by rw[f.out]),t.trans j⟩
theorem nH:∀(e:Ex) (A:Option Addr) (n c:Nat) (w:World),ExV w e A n c→e.nodes≤100000000→
  Calls Tryz.prog 74 #[e.d.val A n c] w fun r w'=>r= .returned (.int .i64 (e.depth:Int))∧Ext w w':=by
 intro e
 induction e using Ex.ind with
 |h d ks ih=>
  intro A n c w hv H
  obtain⟨J,h2,Y,D⟩:=hv
  have I:Hid (ks.length=n):=J
  have R:Hid (KidsAt w A ks):=D
  have Z:=hid ih
  have q:nodesL ks≤100000000:=by rw[ev]at H;omega
  have y:=hid q
  have HD:Hid (bl ks≤nodesL ks):=(da ks).1
  clear J D ih Y H q
  have x:Hid ((Ex.mk d ks).depth=(if d.op=0 then 0 else 1)+bl ks):=rfl
  unfold Nd.val
  simp only[Ex.d]
  obtain⟨op,tb,nm,ix,vk,vi,vt⟩:=d
  simp only
  simp only at x
  have G:=hid (Blk.of_new w 37 (eC op tb nm ix vk vi vt A n c))
  have t:=hid ((Ext.refl w).alloc (.cells #[.int .i64 op,.string tb,.string nm,.int .i64 ix,.int .i64 vk,.int .i64 vi,.string vt,.slice A n c] 37))
  go_enter Tryz.func74,Tryz.ntmps74
  go_wp2_with fail
  generalize w.alloc (.cells #[.int .i64 op,.string tb,.string nm,.int .i64 ix,.int .i64 vk,.int .i64 vi,.string vt,.slice A n c] 37)=C at*
  generalize w.heap.size=g at*
  go_loopw [3,4] (fun nv iv wr=> ∃(r k:Nat),k≤n∧r≤100000000∧nv= .int .i64 r∧iv= .int .i64 k∧r=bl (ks.take k)∧Ext C wr) (fun _ i _=>n- (intOf i).toNat)
  case atStart=>exact⟨0,0,Nat.zero_le _,by omega,rfl,rfl,rfl,Ext.refl C⟩
  case round=>
   obtain⟨r,k,hk,L,rfl,rfl,u,a⟩:=hrel
   have j:=hid a
   have l:=hid u
   have c7:=(G.ext a).cell 7
   have c0:=(G.ext a).cell 0
   simp only[List.getElem?_cons_succ,List.getElem?_cons_zero]at c7 c0
   by_cases B:k<n
   ·obtain⟨o,s⟩:=bF I B
    obtain⟨b,V,A',U,W,rfl,q0,q1,q2,q3,q4,q5,q6,q7,p⟩:=((R.ext t).ext a).get s
    have O:=hid p
    have K:=hid (bD s)
    have Q:=hid (jv s)
    have E:Hid (o.nodes≤100000000):=by unfold Hid;have:=gO K;have:=y.out;omega
    have X:o.depth≤100000000:=by have:=(da [o]).2 o (by simp);have:=E.out;omega
    clear s p a u
    go_wp2_with (go_at_call 74;refine(Z o K A' U W _ (O.ext (Ext.refl wr)) E).mono ?_;rintro _ w2 ⟨rfl,z⟩)
    go_roundw
    case rel=>
     refine⟨max r o.depth,k+1,by omega,by omega,?_,by go_num,?_,j.trans z⟩
     ·congr 1;omega
     ·rw[Q.out,l.out]
    case measure=>simp[intOf];omega
   ·obtain rfl:k=n:=by omega
    have F:Hid (ks.take k=ks):=List.take_of_length_le (Nat.le_of_eq I)
    clear u
    by_cases m:op=0
    ·have hb:(op !=0)=false:=by simp[m]
     have f:Hid ((Ex.mk ⟨op,tb,nm,ix,vk,vi,vt⟩ ks).depth=r):=by unfold Hid;rw[x.out,if_pos m,l.out,F.out,Nat.zero_add]
     clear m
     go_wp2_with fail
     go_ret
     exact⟨aP (by rw[f.out]),t.trans j⟩
    ·have hb:(op !=0)=true:=by simpa using m
     have f:Hid (((Ex.mk ⟨op,tb,nm,ix,vk,vi,vt⟩ ks).depth:Int)=(r:Int)+1):=by unfold Hid;rw[x.out,if_neg m,l.out,F.out];omega
     clear m
     go_wp2_with fail
     go_ret
     exact⟨aP (by rw[f.out]),t.trans j⟩
theorem kid_nodes {l:List Ex} {k:Nat} {d:Nd} {ks:List Ex} (h:l[k]? =some (.mk d ks)):nodesL (l.take (k+1))=nodesL (l.take k)+((if d.op=0 then 0 else 1)+nodesL ks):=ju h
theorem jw (l:List Ex) (k:Nat):nodesL (l.take k)≤nodesL l:=by
 have:=cI (l.take k) (l.drop k)
 rw[List.take_append_drop]at this
 omega
theorem size_ks (d:Nd) (ks:List Ex):(Ex.mk d ks).size=1+sizeL ks:=rfl
theorem mm:∀(N:Nat) (l:List Ex) (A:Option Addr) (n c L:Nat) (w:World),sizeL l≤N→l.length=n→n≤9223372036854775807→KidsAt w A l→L≤100000→
  Calls Tryz.prog 110 #[.slice A n c,.int .i64 (L:Int)] w fun r w'=>r= .returned (.int .i64 ((min (nodesL l) (L+1):Nat):Int))∧Ext w w':=by
 intro N
 induction N with
 |zero=>
  intro l A n c L w H F hn U hL
  have:l= []:=by
   cases l with
   |nil=>rfl
   |cons a l=>rw[sizeL]at H;have:=cz a;omega
  subst this
  obtain rfl:n=0:=F.symm
  go_enter Tryz.func110,Tryz.ntmps110
  go_wp2_with fail
  go_loop [5,10] (fun Z V=>Z= .int .i64 0∧V= .int .i64 0) (fun _ _=>0)
  case atStart=>exact⟨rfl,rfl⟩
  case round=>
   obtain⟨rfl,rfl⟩:=hrel
   go_wp2_with fail
   go_ret
   exact⟨aP (by simp[nodesL]),Ext.refl w⟩
 |succ N ih=>
  intro l A n c L w H F hn U hL
  have HZ:=hid H
  have HL:=hid F
  have HK:=hid U
  have HI:=hid ih
  clear H F U ih
  go_enter Tryz.func110,Tryz.ntmps110
  go_wp2_with fail
  go_loopw [5,10] (fun Z V wr=> ∃(r k:Nat),k≤n∧r≤L∧Z= .int .i64 r∧V= .int .i64 k∧r=nodesL (l.take k)∧Ext w wr) (fun _ i _=>n- (intOf i).toNat)
  case atStart=>exact⟨0,0,Nat.zero_le _,Nat.zero_le _,rfl,rfl,rfl,Ext.refl w⟩
  case round=>
   obtain⟨r,k,ac,ag,rfl,rfl,Q,p⟩:=hrel
   have j:=hid p
   have s:=hid Q
   by_cases X:k<n
   ·obtain⟨e',G⟩:=bF HL X
    obtain⟨b,ad,I,x,E,rfl,q0,q1,q2,q3,q4,q5,q6,q7,q⟩:=(HK.ext p).get G
    have D:=hid q
    have HM:=hid (bD G)
    obtain⟨⟨op,tb,nm,ix,vk,vi,vt⟩,ks⟩:=e'
    simp only[Ex.d]at q0 q1 q2 q3 q4 q5 q6
    have HS:=hid (kid_nodes G)
    have C:x≤9223372036854775807:=q.le
    have z:Hid (sizeL ks≤N):=by unfold Hid;have:=eL HM;rw[size_ks]at this;have:=HZ.out;omega
    have y:=hid (jw l (k+1))
    clear G q p Q
    by_cases t:op=0
    ·have hb:(op !=0)=false:=by simp[t]
     have h:Hid (nodesL (l.take (k+1))=r+nodesL ks):=by unfold Hid;rw[HS.out,if_pos t,←s.out,Nat.zero_add]
     obtain⟨m,B⟩:∃m,min (nodesL ks) (L-r+1)=m:=⟨_,rfl⟩
     have g:=hid B
     have O:m≤100001:=by omega
     clear t B
     have o:((L-r:Nat):Int)=(L:Int)- (r:Int):=by omega
     have u:Hid (∀W,Ext wr W→Calls Tryz.prog 110 #[.slice I x E,.int .i64 ((L:Int)- (r:Int))] W fun r w'=>r= .returned (.int .i64 (m:Int))∧Ext W w'):=by
      intro W K
      rw[←o,←g.out]
      exact HI ks I x E (L-r) W z D.len C (D.kids.ext K) (by omega)
     clear o
     by_cases Y:r+m≤L
     ·have e:Hid (r+m=nodesL (l.take (k+1))):=by unfold Hid;have:=g.out;rw[h.out];omega
      have J:decide ((L:Int)<(r:Int)+(m:Int))=false:=by simp;omega
      go_wp2_with (go_at_call 110;refine(u _ ((Ext.refl wr).alloc _)).mono ?_;rintro _ R ⟨rfl,f⟩)
      go_roundw
      case rel=>exact⟨r+m,k+1,by omega,by omega,by go_num,by go_num,e,(j.alloc _).trans f⟩
      case measure=>simp[intOf];omega
     ·have e:Hid (r+m=L+1∧L+1≤nodesL l):=by unfold Hid;have:=g.out;have:=h.out;have:=y.out;omega
      have J:decide ((L:Int)<(r:Int)+(m:Int))=true:=by simp;omega
      clear Y
      go_wp2_with (go_at_call 110;refine(u _ ((Ext.refl wr).alloc _)).mono ?_;rintro _ R ⟨rfl,f⟩)
      go_ret
      exact⟨aP (by have:=e.out;omega),(j.alloc _).trans f⟩
    ·have hb:(op !=0)=true:=by simpa using t
     have h:Hid (nodesL (l.take (k+1))=r+1+nodesL ks):=by unfold Hid;rw[HS.out,if_neg t,←s.out,Nat.add_assoc]
     clear t
     by_cases h1:r+1≤L
     ·obtain⟨m,B⟩:∃m,min (nodesL ks) (L- (r+1)+1)=m:=⟨_,rfl⟩
      have g:=hid B
      have O:m≤100001:=by omega
      clear B
      have o:((L- (r+1):Nat):Int)=(L:Int)- ((r:Int)+1):=by omega
      have u:Hid (∀W,Ext wr W→Calls Tryz.prog 110 #[.slice I x E,.int .i64 ((L:Int)- ((r:Int)+1))] W fun r w'=>r= .returned (.int .i64 (m:Int))∧Ext W w'):=by
       intro W K
       rw[←o,←g.out]
       exact HI ks I x E (L- (r+1)) W z D.len C (D.kids.ext K) (by omega)
      clear o
      have g1:decide ((r:Int)+1≤(L:Int))=true:=by simp;omega
      by_cases Y:r+1+m≤L
      ·have e:Hid (r+1+m=nodesL (l.take (k+1))):=by unfold Hid;have:=g.out;rw[h.out];omega
       have J:decide ((L:Int)<(r:Int)+1+(m:Int))=false:=by simp;omega
       go_wp2_with (go_at_call 110;refine(u _ ((Ext.refl wr).alloc _)).mono ?_;rintro _ R ⟨rfl,f⟩)
       go_roundw
       case rel=>exact⟨r+1+m,k+1,by omega,by omega,by go_num,by go_num,e,(j.alloc _).trans f⟩
       case measure=>simp[intOf];omega
      ·have e:Hid (r+1+m=L+1∧L+1≤nodesL l):=by unfold Hid;have:=g.out;have:=h.out;have:=y.out;omega
       have J:decide ((L:Int)<(r:Int)+1+(m:Int))=true:=by simp;omega
       clear Y
       go_wp2_with (go_at_call 110;refine(u _ ((Ext.refl wr).alloc _)).mono ?_;rintro _ R ⟨rfl,f⟩)
       go_ret
       exact⟨aP (by have:=e.out;omega),(j.alloc _).trans f⟩
     ·have e:Hid (r=L∧L+1≤nodesL l):=by unfold Hid;have:=h.out;have:=y.out;omega
      have g1:decide ((r:Int)+1≤(L:Int))=false:=by simp;omega
      have J:decide ((L:Int)<(r:Int)+1)=true:=by simp;omega
      clear h1
      go_wp2_with fail
      go_ret
      exact⟨aP (by have:=e.out;omega),j.alloc _⟩
   ·obtain rfl:k=n:=by omega
    have y:Hid (l.take k=l):=List.take_of_length_le (Nat.le_of_eq HL)
    clear Q
    go_wp2_with fail
    go_ret
    exact⟨aP (by rw[←y.out,←s.out];omega),j⟩
theorem upto_any:∀(e:Ex) (A:Option Addr) (n c L:Nat) (w:World),ExV w e A n c→L≤100000→
  Calls Tryz.prog 73 #[e.d.val A n c,.int .i64 (L:Int)] w fun r w'=>r= .returned (.int .i64 ((min e.nodes (L+1):Nat):Int))∧Ext w w':=by
 intro e
 induction e using Ex.ind with
 |h d ks ih=>
  intro A n c L w hv hL
  obtain⟨O,h2,h3,U⟩:=hv
  have Y:Hid (ks.length=n):=O
  have HK:Hid (KidsAt w A ks):=U
  have HI:=hid ih
  clear O U ih h3
  have C:=hid (ev d ks)
  unfold Nd.val
  simp only[Ex.d]
  obtain⟨op,tb,nm,ix,vk,vi,vt⟩:=d
  simp only
  simp only at C
  have HB:=hid (Blk.of_new w 37 (eC op tb nm ix vk vi vt A n c))
  have E:=hid ((Ext.refl w).alloc (.cells #[.int .i64 op,.string tb,.string nm,.int .i64 ix,.int .i64 vk,.int .i64 vi,.string vt,.slice A n c] 37))
  obtain⟨a,t,an,l⟩:∃(a:Nat) (t:Bool),(op !=0)=t∧(t=true∧a=1∨t=false∧a=0)∧(Ex.mk ⟨op,tb,nm,ix,vk,vi,vt⟩ ks).nodes=a+nodesL ks:=by
   by_cases h:op=0
   ·exact⟨0,false,by simp[h],.inr ⟨rfl,rfl⟩,by rw[C.out,if_pos h]⟩
   ·exact⟨1,true,by simpa using h,.inl ⟨rfl,rfl⟩,by rw[C.out,if_neg h]⟩
  obtain⟨z,l⟩:=l
  have J:Hid (∃a:Nat,(Ex.mk ⟨op,tb,nm,ix,vk,vi,vt⟩ ks).nodes=a+nodesL ks∧(t=true∧a=1∨t=false∧a=0)):=⟨a,l,z⟩
  clear l C
  rcases z with ⟨rfl,rfl⟩|⟨rfl,rfl⟩
  all_goals
   go_enter Tryz.func73,Tryz.ntmps73
   go_wp2_with fail
   generalize w.alloc (.cells #[.int .i64 op,.string tb,.string nm,.int .i64 ix,.int .i64 vk,.int .i64 vi,.string vt,.slice A n c] 37)=R at*
   generalize w.heap.size=g at*
   go_loopw [5,6] (fun nv iv wr=> ∃(r k:Nat),k≤n∧r≤L+1∧nv= .int .i64 r∧iv= .int .i64 k∧(∃a:Nat,(Ex.mk ⟨op,tb,nm,ix,vk,vi,vt⟩ ks).nodes=a+nodesL ks∧r=min (a+nodesL (ks.take k)) (L+1))∧Ext R wr) (fun _ i _=>n- (intOf i).toNat)
   case atStart=>
    obtain⟨a,o,f⟩:=J.out
    refine⟨a,0,Nat.zero_le _,by omega,?_,rfl,⟨a,o,by simp[nodesL];omega⟩,Ext.refl R⟩
    rcases f with ⟨f,rfl⟩|⟨f,rfl⟩
    ·first|rfl|cases f
    ·first|rfl|cases f
   case round=>
    obtain⟨r,k,hk,ag,rfl,rfl,B,j⟩:=hrel
    have p:=hid j
    have s:=hid B
    have c7:=(HB.ext j).cell 7
    simp only[List.getElem?_cons_succ,List.getElem?_cons_zero]at c7
    by_cases Q:k<n
    ·by_cases y:r≤L
     ·obtain⟨H,D⟩:=bF Y Q
      obtain⟨b,ac,Z,V,W,rfl,q0,q1,q2,q3,q4,q5,q6,q7,u⟩:=((HK.ext E).ext j).get D
      have HV:=hid u
      have HM:=hid (bD D)
      have HS:=hid (ju D)
      obtain⟨m,X⟩:∃m,min H.nodes (L-r+1)=m:=⟨_,rfl⟩
      have q:=hid X
      have ad:m≤100001:=by omega
      clear X
      have x:((L-r:Nat):Int)=(L:Int)- (r:Int):=by omega
      have HC:Hid (Calls Tryz.prog 73 #[H.d.val Z V W,.int .i64 ((L:Int)- (r:Int))] wr fun r w'=>r= .returned (.int .i64 (m:Int))∧Ext wr w'):=by
       unfold Hid
       rw[←x,←q.out]
       exact HI H HM Z V W (L-r) _ HV (by omega)
      have g1:decide ((r:Int)≤(L:Int))=true:=by simp;omega
      have I:Hid (∀a:Nat,r=min (a+nodesL (ks.take k)) (L+1)→r+m=min (a+nodesL (ks.take (k+1))) (L+1)):=by
       intro a h
       have O:=q.out
       rw[HS.out]
       omega
      clear D u j B x
      go_wp2_with (go_at_call 73;refine HC.mono ?_;rintro _ w2 ⟨rfl,K⟩)
      go_roundw
      case rel=>
       obtain⟨a,o,f⟩:=s.out
       refine⟨r+m,k+1,by omega,by have:=q.out;omega,by go_num,by go_num,⟨a,o,I a f⟩,p.trans K⟩
      case measure=>simp[intOf];omega
     ·have g1:decide ((r:Int)≤(L:Int))=false:=by simp;omega
      have F:=hid (jw ks k)
      have G:=hid y
      clear B y
      go_wp2_with fail
      go_ret
      obtain⟨a,o,f⟩:=s.out
      exact⟨aP (by have:=F.out;have:=G.out;rw[o];omega),E.trans p⟩
    ·obtain rfl:k=n:=by omega
     have F:Hid (ks.take k=ks):=List.take_of_length_le (Nat.le_of_eq Y)
     clear B
     go_wp2_with fail
     go_ret
     obtain⟨a,o,f⟩:=s.out
     exact⟨aP (by rw[f,o,F.out]),E.trans p⟩
def ew (b:Bool) (r:Ending):Prop:=∃x:Int,I64 x∧r= .returned (.int .i64 x)∧decide (0≤x)=b
theorem aQ {α:Type} {l:List α} {k:Nat} {e:α} {p:α→Bool} (h:l[k]? =some e) (a:p e=true):l.any p=true:=List.any_eq_true.2 ⟨e,List.mem_of_getElem? h,a⟩
theorem aN {α:Type} {l:List α} {k:Nat} {e:α} {p:α→Bool} (h:l[k]? =some e) (b:(l.take k).any p=false) (a:p e=false):(l.take (k+1)).any p=false:=by
 obtain⟨hi,rfl⟩:=List.getElem?_eq_some_iff.1 h
 rw[List.take_succ_eq_append_getElem hi,List.any_append,b]
 simp[a]
theorem cn {α:Type} {l:List α} {n:Nat} {p:α→Bool} (b:l.length=n) (a:(l.take n).any p=false):l.any p=false:=by
 rwa [List.take_of_length_le (by omega)]at a
def Ent (F:FuncId):Prop:=∀(args:Array Value) (W:World),(callFunc F args).run Tryz.prog W= .ok (.enter F args) W
theorem index_ex (F:FuncId) (R:Ent F) (p:Ex→Bool) (l:List Ex) (A:Option Addr) (n c:Nat) (w:World) (D:l.length=n) (hn:n≤9223372036854775807) (G:KidsAt w A l)
  (E:∀x∈l,∀(u:Option Addr) (q s:Nat) (W:World),Ext w W→ExV W x u q s→Calls Tryz.prog F #[x.d.val u q s] W fun r L=>r= .returned (.bool (p x))∧Ext W L):
  Calls Tryz.prog 179 #[.slice A n c,.func (Fn.func F) #[] #[]] w fun r w'=>ew (l.any p) r∧Ext w w':=by
 unfold Ent at R
 have H:=hid D
 have J:=hid G
 have U:=hid E
 clear D G E
 go_enter Tryz.func179,Tryz.ntmps179
 go_wp2_with fail
 go_loopw [5,8] (fun _ Q wr=> ∃(k:Nat),k≤n∧Q= .int .i64 k∧(l.take k).any p=false∧Ext w wr) (fun _ i _=>n- (intOf i).toNat)
 case atStart=>exact⟨0,Nat.zero_le _,rfl,rfl,Ext.refl w⟩
 case round=>
  obtain⟨k,I,rfl,y,a⟩:=hrel
  have e:=hid a
  have j:=hid y
  by_cases z:k<n
  ·obtain⟨C,t⟩:=bF H z
   obtain⟨b,K,u,q,s,rfl,q0,q1,Y,X,V,q5,Z,q7,h⟩:=(J.ext a).get t
   have o:=hid (U C (bD t) u q s _ a h)
   have B:=hid t
   clear t h a y
   cases g:p C
   ·rw[g]at o
    have m:Hid ((l.take (k+1)).any p=false):=aN B j g
    clear g
    go_wp2_with fail
    refine o.mono ?_
    rintro _ O ⟨rfl,f⟩
    go_wp2_with fail
    go_roundw
    case rel=>exact⟨k+1,by omega,by go_num,m,e.trans f⟩
    case measure=>simp[intOf];omega
   ·rw[g]at o
    have m:Hid (l.any p=true):=aQ B g
    clear g
    go_wp2_with fail
    refine o.mono ?_
    rintro _ O ⟨rfl,f⟩
    go_wp2_with fail
    go_ret
    exact⟨⟨k,⟨by omega,by omega⟩,rfl,by rw[m.out];simp⟩,e.trans f⟩
  ·obtain rfl:k=n:=by omega
   have m:Hid (l.any p=false):=cn H j
   clear y
   go_wp2_with fail
   go_ret
   exact⟨⟨-1,⟨by omega,by omega⟩,rfl,by rw[m.out];rfl⟩,e⟩
theorem ent101:Ent 154:=fun _ _=>by kernel_rfl
theorem aD (op:Int) (w:World):Calls Tryz.prog 153 #[.int .i64 op] w fun r w'=>r= .returned (.int .i64 (opN op))∧w=w':=by
 go_enter Tryz.func153,Tryz.ntmps153
 go_wp2_with fail
 all_goals
  go_ret
  refine⟨aP ?_,rfl⟩
  simp only[beq_iff_eq,beq_eq_false_iff_ne]at*
  unfold opN
  first|rw[if_pos (by omega)]|rw[if_neg (by omega),if_pos (by omega)]|rw[if_neg (by omega),if_neg (by omega),if_pos (by omega)]|rw[if_neg (by omega),if_neg (by omega),if_neg (by omega)]
theorem bt (op:Int) (w:World):Calls Tryz.prog 158 #[.int .i64 op] w fun r w'=>r= .returned (.int .i64 (opN op))∧w=w':=by
 go_enter Tryz.func158,Tryz.ntmps158
 go_wp2_with fail
 all_goals
  go_ret
  refine⟨aP ?_,rfl⟩
  simp only[beq_iff_eq,beq_eq_false_iff_ne]at*
  unfold opN
  first|rw[if_pos (by omega)]|rw[if_neg (by omega),if_pos (by omega)]|rw[if_neg (by omega),if_neg (by omega),if_pos (by omega)]|rw[if_neg (by omega),if_neg (by omega),if_neg (by omega)]
theorem cN (x lo hi:Int) (w:World):Calls Tryz.prog 197 #[.int .i64 x,.int .i64 lo,.int .i64 hi] w fun r w'=>r= .returned (.bool (decide (lo≤x) &&decide (x≤hi)))∧w=w':=by
 by_cases h:lo≤x
 ·have hd:decide (lo≤x)=true:=by simpa using h
  have a:=hid hd
  clear h
  go_enter Tryz.func197,Tryz.ntmps197
  go_wp2_with fail
  go_ret
  clear hd
  exact⟨ab (by rw[a.out,Bool.true_and]),rfl⟩
 ·have hd:decide (lo≤x)=false:=by simpa using h
  have a:=hid hd
  clear h
  go_enter Tryz.func197,Tryz.ntmps197
  go_wp2_with fail
  go_ret
  clear hd
  exact⟨ab (by rw[a.out,Bool.false_and]),rfl⟩
theorem mn (x:Int) (w:World):Calls Tryz.prog 219 #[.int .i64 x] w fun r w'=>r= .returned (.bool (decide (0≤x) &&decide (x≤2147483648)))∧w=w':=by
 by_cases h:0≤x
 ·have hd:decide (0≤x)=true:=by simpa using h
  have a:=hid hd
  clear h
  go_enter Tryz.func219,Tryz.ntmps219
  go_wp2_with fail
  go_ret
  clear hd
  exact⟨ab (by rw[a.out,Bool.true_and]),rfl⟩
 ·have hd:decide (0≤x)=false:=by simpa using h
  have a:=hid hd
  clear h
  go_enter Tryz.func219,Tryz.ntmps219
  go_wp2_with fail
  go_ret
  clear hd
  exact⟨ab (by rw[a.out,Bool.false_and]),rfl⟩
def prn (l:List Nat):Bool:=l.all fun c=>decide (32≤c) &&decide (c≤126)
theorem dP (s:ByteArray):ed s=(prn (N s) &&decide (s.size≤16)):=rfl
theorem jx {s:ByteArray} {k:Nat} {p:Nat→Bool} (a:k<s.size) (h:((N s).take k).all p=true) (b:p s[k].toNat=true):((N s).take (k+1)).all p=true:=by
 rw[lI s k a,List.all_append,h]
 simp[b]
theorem gP {s:ByteArray} {k:Nat} {p:Nat→Bool} (a:k<s.size) (b:p s[k].toNat=false):(N s).all p=false:=by
 rw[List.all_eq_false]
 exact⟨s[k].toNat,List.mem_of_getElem? (N_get s k a),by simp[b]⟩
theorem lk {s:ByteArray} {k:Nat} {p:Nat→Bool} (a:s.size≤k) (h:((N s).take k).all p=true):(N s).all p=true:=by
 rwa [List.take_of_length_le (by rw[N_len];exact a)]at h
theorem text_any (s:ByteArray) (w:World) (hs:s.size≤9223372036854775807):Calls Tryz.prog 221 #[.string s] w fun r w'=>r= .returned (.bool (ed s))∧w=w':=by
 go_enter Tryz.func221,Tryz.ntmps221
 go_wp2_with fail
 go_loop [3,6] (fun _ i=> ∃k:Nat,k≤s.size∧i= .int .i64 k∧prn ((N s).take k)=true) (fun _ i=>s.size- (intOf i).toNat)
 case atStart=>exact⟨0,Nat.zero_le _,rfl,rfl⟩
 case round=>
  obtain⟨k,m,rfl,h⟩:=hrel
  have g:=hid h
  clear h
  by_cases b:k<s.size
  ·by_cases e:32≤s[k].toNat
   ·have j:decide ((s[k].toNat:Int)<32)=false:=by simp;omega
    by_cases f:s[k].toNat≤126
    ·have l:decide (126<(s[k].toNat:Int))=false:=by simp;omega
     have a:Hid (prn ((N s).take (k+1))=true):=jx b g (by simp[e,f])
     clear e f
     go_wp2_with fail
     go_round
     case rel=>exact⟨k+1,by omega,by go_num,a⟩
     case measure=>simp[intOf];omega
    ·have l:decide (126<(s[k].toNat:Int))=true:=by simp;omega
     have a:Hid (prn (N s)=false):=gP b (by simp[f])
     clear e f
     go_wp2_with fail
     go_ret
     exact⟨ab (by rw[dP,a.out];rfl),rfl⟩
   ·have j:decide ((s[k].toNat:Int)<32)=true:=by simp;omega
    have a:Hid (prn (N s)=false):=gP b (by simp[e])
    clear e
    go_wp2_with fail
    go_ret
    exact⟨ab (by rw[dP,a.out];rfl),rfl⟩
  ·have a:Hid (prn (N s)=true):=lk (by omega) g
   go_wp2_with fail
   go_ret
   exact⟨ab (by rw[dP,a.out,Bool.true_and,Bool.eq_iff_iff];simp;omega),rfl⟩
theorem rtext_any (s:ByteArray) (w:World) (hs:s.size≤9223372036854775807):Calls Tryz.prog 223 #[.string s] w fun r w'=>r= .returned (.bool (ed s))∧w=w':=by
 go_enter Tryz.func223,Tryz.ntmps223
 go_wp2_with fail
 go_loop [3] (fun i=> ∃k:Nat,k≤s.size∧i= .int .i64 k∧prn ((N s).take k)=true) (fun i=>s.size- (intOf i).toNat)
 case atStart=>exact⟨0,Nat.zero_le _,rfl,rfl⟩
 case round=>
  obtain⟨k,m,rfl,h⟩:=hrel
  have g:=hid h
  clear h
  by_cases b:k<s.size
  ·by_cases e:32≤s[k].toNat
   ·have j:decide ((s[k].toNat:Int)<32)=false:=by simp;omega
    by_cases f:s[k].toNat≤126
    ·have l:decide (126<(s[k].toNat:Int))=false:=by simp;omega
     have a:Hid (prn ((N s).take (k+1))=true):=jx b g (by simp[e,f])
     clear e f
     go_wp2_with fail
     go_round
     case rel=>exact⟨k+1,by omega,by go_num,a⟩
     case measure=>simp[intOf];omega
    ·have l:decide (126<(s[k].toNat:Int))=true:=by simp;omega
     have a:Hid (prn (N s)=false):=gP b (by simp[f])
     clear e f
     go_wp2_with fail
     go_ret
     exact⟨ab (by rw[dP,a.out];rfl),rfl⟩
   ·have j:decide ((s[k].toNat:Int)<32)=true:=by simp;omega
    have a:Hid (prn (N s)=false):=gP b (by simp[e])
    clear e
    go_wp2_with fail
    go_ret
    exact⟨ab (by rw[dP,a.out];rfl),rfl⟩
  ·have a:Hid (prn (N s)=true):=lk (by omega) g
   go_wp2_with fail
   go_ret
   exact⟨ab (by rw[dP,a.out,Bool.true_and,Bool.eq_iff_iff];simp;omega),rfl⟩
theorem str0 (s:ByteArray):s.toList= []↔s.size=0:=by
 rw[ByteArray.toList_eq]
 constructor
 ·intro h;show s.data.size=0;rw[←Array.length_toList,h];rfl
 ·intro h
  have h:s.data.size=0:=h
  exact List.eq_nil_of_length_eq_zero (by rw[Array.length_toList];exact h)
theorem cO (s:ByteArray):(s.size==0)=s.toList.isEmpty:=by
 rw[Bool.eq_iff_iff,beq_iff_eq,List.isEmpty_iff];exact(str0 s).symm
theorem bu {s:ByteArray} (h:s.size=0):s=⟨#[]⟩:=by
 apply N_inj
 rw[N_nil']
 exact List.eq_nil_of_length_eq_zero (by rw[N_len];exact h)
theorem bU {s:ByteArray} (h:¬s.size=0):¬s.toList= []:=fun e=>h ((str0 s).1 e)
theorem bI {s:ByteArray} (h:¬s.size=0):s.toList.isEmpty=false:=by
 rw[←cO,beq_eq_false_iff_ne];exact h
theorem literal_any (vk vi:Int) (vt:ByteArray) (w:World) (hs:vt.size≤9223372036854775807) (d:Nd) (k:d.vk=vk) (l:d.vi=vi) (i:d.vt=vt):
  Calls Tryz.prog 155 #[.agg #[.int .i64 vk,.int .i64 vi,.string vt]] w fun r w'=>r= .returned (.bool d.litB)∧Ext w w':=by
 subst k l i
 by_cases a:d.vk=0
 ·have f:Hid (d.litB=(d.vi==0&&d.vt.size==0)):=by unfold Hid Nd.litB;rw[if_pos a]
  generalize d.litB=L at*
  obtain⟨op,tb,nm,ix,vk,vi,vt⟩:=d
  simp only at*
  subst a
  go_enter Tryz.func155,Tryz.ntmps155
  go_wp2_with fail
  all_goals
   go_ret
   refine⟨ab ?_,(Ext.refl w).alloc _⟩
   rw[f.out,cO]
   simp[*]
 ·by_cases b:d.vk=1
  ·have f:Hid (d.litB=(decide (0≤d.vi) &&decide (d.vi≤2147483648) &&d.vt.size==0)):=by unfold Hid Nd.litB;rw[if_neg a,if_pos b]
   generalize d.litB=L at*
   obtain⟨op,tb,nm,ix,vk,vi,vt⟩:=d
   simp only at*
   subst b
   clear a
   by_cases g:vt.size=0
   ·obtain rfl:=bu g
    go_enter Tryz.func155,Tryz.ntmps155
    go_wp2_with (go_at_call 197;refine(cN _ _ _ _).mono ?_;rintro _ m ⟨rfl,rfl⟩)
    go_ret
    exact⟨ab (by rw[f.out];simp;intros;rfl),(Ext.refl w).alloc _⟩
   ·have j:=bU g
    have h:Hid (L=false):=by unfold Hid;rw[f.out];simp[g]
    clear g
    go_enter Tryz.func155,Tryz.ntmps155
    go_wp2_with fail
    go_ret
    exact⟨ab h.symm,(Ext.refl w).alloc _⟩
  ·by_cases e:d.vk=2
   ·have f:Hid (d.litB=(d.vi==0&&ed d.vt)):=by unfold Hid Nd.litB;rw[if_neg a,if_neg b,if_pos e]
    generalize d.litB=L at*
    obtain⟨op,tb,nm,ix,vk,vi,vt⟩:=d
    simp only at*
    subst e
    clear a b
    by_cases g:vi=0
    ·subst g
     go_enter Tryz.func155,Tryz.ntmps155
     go_wp2_with (go_at_call 221;refine(text_any _ _ hs).mono ?_;rintro _ m ⟨rfl,rfl⟩)
     go_ret
     exact⟨ab (by rw[f.out];simp),(Ext.refl w).alloc _⟩
    ·have h:Hid (L=false):=by unfold Hid;rw[f.out];simp[g]
     have p:(vi==0)=false:=by simpa using g
     clear g
     go_enter Tryz.func155,Tryz.ntmps155
     go_wp2_with fail
     go_ret
     exact⟨ab h.symm,(Ext.refl w).alloc _⟩
   ·have f:Hid (d.litB=false):=by unfold Hid Nd.litB;rw[if_neg a,if_neg b,if_neg e]
    generalize d.litB=L at*
    obtain⟨op,tb,nm,ix,vk,vi,vt⟩:=d
    simp only at*
    have q:(vk==0)=false:=by simpa using a
    have o:(vk==1)=false:=by simpa using b
    have n:(vk==2)=false:=by simpa using e
    clear a b e
    go_enter Tryz.func155,Tryz.ntmps155
    go_wp2_with fail
    go_ret
    exact⟨ab f.symm,(Ext.refl w).alloc _⟩
theorem lm (vk vi:Int) (vt:ByteArray) (w:World) (hs:vt.size≤9223372036854775807) (d:Nd) (m:d.vk=vk) (n:d.vi=vi) (l:d.vt=vt):
  Calls Tryz.prog 159 #[.agg #[.int .i64 vk,.int .i64 vi,.string vt]] w fun r w'=>r= .returned (.bool d.litB)∧Ext w w':=by
 subst m n l
 by_cases a:d.vk=0
 ·have e:Hid (d.litB=(d.vi==0&&d.vt.size==0)):=by unfold Hid Nd.litB;rw[if_pos a]
  generalize d.litB=L at*
  obtain⟨op,tb,nm,ix,vk,vi,vt⟩:=d
  simp only at*
  subst a
  by_cases g:vi=0
  ·subst g
   go_enter Tryz.func159,Tryz.ntmps159
   go_wp2_with fail
   go_ret
   exact⟨ab (by rw[e.out,cO];simp),(Ext.refl w).alloc _⟩
  ·have h:Hid (L=false):=by unfold Hid;rw[e.out];simp[g]
   have o:(vi==0)=false:=by simpa using g
   clear g
   go_enter Tryz.func159,Tryz.ntmps159
   go_wp2_with fail
   go_ret
   exact⟨ab h.symm,(Ext.refl w).alloc _⟩
 ·by_cases b:d.vk=1
  ·have e:Hid (d.litB=(decide (0≤d.vi) &&decide (d.vi≤2147483648) &&d.vt.size==0)):=by unfold Hid Nd.litB;rw[if_neg a,if_pos b]
   generalize d.litB=L at*
   obtain⟨op,tb,nm,ix,vk,vi,vt⟩:=d
   simp only at*
   subst b
   clear a
   have i:=hid (mn vi)
   obtain⟨x,j⟩:∃x,(decide (0≤vi) &&decide (vi≤2147483648))=x:=⟨_,rfl⟩
   rw[j]at i e
   clear j
   cases x
   ·go_enter Tryz.func159,Tryz.ntmps159
    go_wp2_with (go_at_call 219;refine(i _).mono ?_;rintro _ k ⟨rfl,rfl⟩)
    go_ret
    exact⟨ab (by rw[e.out];rfl),(Ext.refl w).alloc _⟩
   ·go_enter Tryz.func159,Tryz.ntmps159
    go_wp2_with (go_at_call 219;refine(i _).mono ?_;rintro _ k ⟨rfl,rfl⟩)
    go_ret
    exact⟨ab (by rw[e.out,cO];simp),(Ext.refl w).alloc _⟩
  ·by_cases f:d.vk=2
   ·have e:Hid (d.litB=(d.vi==0&&ed d.vt)):=by unfold Hid Nd.litB;rw[if_neg a,if_neg b,if_pos f]
    generalize d.litB=L at*
    obtain⟨op,tb,nm,ix,vk,vi,vt⟩:=d
    simp only at*
    subst f
    clear a b
    by_cases g:vi=0
    ·subst g
     go_enter Tryz.func159,Tryz.ntmps159
     go_wp2_with (go_at_call 223;refine(rtext_any _ _ hs).mono ?_;rintro _ k ⟨rfl,rfl⟩)
     go_ret
     exact⟨ab (by rw[e.out];simp),(Ext.refl w).alloc _⟩
    ·have h:Hid (L=false):=by unfold Hid;rw[e.out];simp[g]
     have o:(vi==0)=false:=by simpa using g
     clear g
     go_enter Tryz.func159,Tryz.ntmps159
     go_wp2_with fail
     go_ret
     exact⟨ab h.symm,(Ext.refl w).alloc _⟩
   ·have e:Hid (d.litB=false):=by unfold Hid Nd.litB;rw[if_neg a,if_neg b,if_neg f]
    generalize d.litB=L at*
    obtain⟨op,tb,nm,ix,vk,vi,vt⟩:=d
    simp only at*
    have s:(vk==0)=false:=by simpa using a
    have q:(vk==1)=false:=by simpa using b
    have p:(vk==2)=false:=by simpa using f
    clear a b f
    go_enter Tryz.func159,Tryz.ntmps159
    go_wp2_with fail
    go_ret
    exact⟨ab e.symm,(Ext.refl w).alloc _⟩
theorem gQ (e:Ex) (A:Option Addr) (n c:Nat) (w:World):Calls Tryz.prog 207 #[e.d.val A n c] w fun r w'=>r= .returned (.int .i64 (lvl e.d.op))∧Ext w w':=by
 unfold Nd.val
 generalize e.d=d
 obtain⟨op,tb,nm,ix,vk,vi,vt⟩:=d
 simp only
 go_enter Tryz.func207,Tryz.ntmps207
 go_wp2_with fail
 all_goals
  go_ret
  refine⟨aP ?_,(Ext.refl w).alloc _⟩
  simp only[beq_iff_eq,beq_eq_false_iff_ne]at*
  unfold lvl
  first|(exfalso;omega)|repeat (first|rw[if_pos (by omega)]|rw[if_neg (by omega)])
theorem jy (e:Ex) (A:Option Addr) (n c:Nat) (w:World) (h:1≤e.d.op∧e.d.op≤20):Calls Tryz.prog 90 #[e.d.val A n c] w fun r w'=>r= .returned (.int .i64 (lvl e.d.op))∧Ext w w':=by
 unfold Nd.val
 generalize e.d=d at*
 obtain⟨op,tb,nm,ix,vk,vi,vt⟩:=d
 simp only at*
 have H:=hid h
 clear h
 go_enter Tryz.func90,Tryz.ntmps90
 go_wp2_with fail
 all_goals
  go_ret
  refine⟨aP ?_,(Ext.refl w).alloc _⟩
  have h:=H.out
  simp only[beq_iff_eq,beq_eq_false_iff_ne,decide_eq_true_eq,decide_eq_false_iff_not]at*
  unfold lvl
  first|(exfalso;omega)|repeat (first|rw[if_pos (by omega)]|rw[if_neg (by omega)])
def jz:List (List Nat)→List Nat
 | []=> []
 |w::ws=>w++32::jz ws
theorem mo (s w r:List Nat) (hs:32∉s) (b:32∉w):(s++ [32])<+:(w++32::r)↔s=w:=by
 induction s generalizing w with
 |nil=>
  cases w with
  |nil=>simp
  |cons c w=>simp at b ⊢;exact b.1
 |cons a s ih=>
  cases w with
  |nil=>
   simp at hs ⊢
   intro h;exact absurd h.symm hs.1
  |cons c w=>
   simp at hs b
   simp only[List.cons_append,List.cons_prefix_cons,List.cons.injEq]
   rw[ih w hs.2 b.2]
theorem jA {a l:List Nat} {c:Nat} :a<:+:c::l↔a<+:c::l∨a<:+:l:=List.infix_cons_iff
theorem nI (s w r:List Nat) (a:32∉w):(32::s)<:+:(w++r)↔(32::s)<:+:r:=by
 induction w with
 |nil=>rfl
 |cons c w ih=>
  simp at a
  rw[List.cons_append,jA,ih a.2]
  constructor
  ·rintro(h|h)
   ·rw[List.cons_prefix_cons]at h;exact absurd h.1 a.1
   ·exact h
  ·exact .inr
theorem ln (s:List Nat) (hs:32∉s):∀a:List (List Nat),(∀w∈a,32∉w)→((32::(s++ [32]))<:+:(32::jz a)↔s∈a):=by
 intro a
 induction a with
 |nil=>
  intro _
  constructor
  ·intro h
   have:=h.length_le
   simp[jz]at this
  ·intro h;cases h
 |cons w a ih=>
  intro b
  have e:=b w (by simp)
  rw[jz,jA,List.cons_prefix_cons,mo s w _ hs e,nI _ _ _ e,ih fun x f=>b x (by simp[f])]
  simp
theorem mq:∀w∈kwWords,32∉w:=by decide+kernel
def fI:List Nat:=32::jz kwWords
theorem kw_infix (s:List Nat) (hs:32∉s):(32::(s++ [32]))<:+:fI↔kwWords.contains s=true:=by
 unfold fI
 rw[ln s hs kwWords mq,List.contains_iff_mem]
theorem occ_iff (s sub:List UInt8) (j:Nat):Lib.occAt s sub j=true↔sub<+:s.drop j:=by
 unfold Lib.occAt
 first|(rw[List.isPrefixOf_iff_prefix])|(simp[List.isPrefixOf_iff_prefix])
theorem jB (s sub:List UInt8):Lib.contains s sub=true↔sub<:+:s:=by
 unfold Lib.contains
 rw[decide_eq_true_eq]
 rcases Lib.index_spec s sub with ⟨h1,h2⟩|⟨i,h1,h2,h3,h4⟩
 ·constructor
  ·intro h;omega
  ·rintro⟨a,b,e⟩
   have f:a.length≤s.length:=by rw[←e];simp
   have:=h2 a.length f
   rw[←Bool.not_eq_true,occ_iff s sub _]at this
   exact absurd ⟨b,by rw[←e];simp⟩ this
 ·constructor
  ·intro _
   have:=(occ_iff s sub i).1 h3
   obtain⟨t,g⟩:=this
   exact⟨s.take i,t,by rw[List.append_assoc,g,List.take_append_drop]⟩
  ·intro _;omega
theorem infix_map {a b:List UInt8} :a.map UInt8.toNat<:+:b.map UInt8.toNat↔a<:+:b:=by
 have e:∀x y:List UInt8,x.map UInt8.toNat=y.map UInt8.toNat→x=y:=fun x y h=> (List.map_inj_right (f:=UInt8.toNat) fun a b h=>UInt8.toNat_inj.1 h).1 h
 constructor
 ·rintro⟨p,q,h⟩
  have i:=congrArg List.length h
  simp at i
  refine⟨b.take p.length,b.drop (p.length+a.length),?_⟩
  have j:(b.drop p.length).take a.length=a:=by
   apply e
   rw[List.map_take,List.map_drop,←h]
   simp[List.append_assoc]
  have g:(b.drop p.length)=a++b.drop (p.length+a.length):=by
   conv=>lhs;rw[←List.take_append_drop a.length (b.drop p.length),j,List.drop_drop]
  rw[List.append_assoc,←g,List.take_append_drop]
 ·rintro⟨p,q,h⟩
  exact⟨p.map UInt8.toNat,q.map UInt8.toNat,by rw[←h];simp⟩
def kwIn (s:ByteArray):Bool:=Lib.contains (fI.map UInt8.ofNat) ((⟨#[32]⟩++s++⟨#[32]⟩:ByteArray)).data.toList
theorem mr (s:ByteArray) (h:32∉N s):kwIn s=kwWords.contains (N s):=by
 rw[Bool.eq_iff_iff]
 unfold kwIn
 rw[jB,←kw_infix (N s) h,←infix_map]
 have b:(fI.map UInt8.ofNat).map UInt8.toNat=fI:=by decide+kernel
 have a:((⟨#[32]⟩++s++⟨#[32]⟩:ByteArray)).data.toList.map UInt8.toNat=32::(N s++ [32]):=by
  unfold N
  simp
 rw[b,a]
theorem ms {s:ByteArray} (h:32∈N s):(N s).all cB=false:=by
 rw[List.all_eq_false]
 exact⟨32,h,by decide⟩
theorem name_kw {s:ByteArray} (h:kwIn s=true):nameB s=false:=by
 unfold nameB fU
 by_cases hs:32∈N s
 ·rw[ms hs];simp
 ·rw[mr s hs]at h
  rw[h];simp
theorem name_nokw {s:ByteArray} (h:kwIn s=false) (c:Nat) (r:List Nat) (b:N s=c::r) (f:ej c=true) (a:s.size≤24):nameB s=(N s).all cB:=by
 unfold nameB fU
 have e:dS (N s)=true:=by rw[b];exact f
 rw[e]
 by_cases hs:32∈N s
 ·rw[ms hs];simp
 ·rw[mr s hs]at h
  rw[h,N_len];simp[a]
def Sh (w:World):Prop:=∃m,w.cell? ⟨1,0,none⟩=some (.int .i64 m)
theorem Sh.ext {w w':World} (h:Sh w) (a:Ext w w'):Sh w':=by
 obtain⟨m,h⟩:=h
 exact⟨m,a.keep h⟩
theorem lp (K s:ByteArray) (w:World) (a:Sh w) (f:K=⟨(fI.map UInt8.ofNat).toArray⟩):
  Calls Tryz.prog 181 #[.string K,.string (⟨#[32]⟩++s++⟨#[32]⟩)] w fun r w'=>r= .returned (.bool (kwIn s))∧w=w':=by
 obtain⟨m,b⟩:=a
 subst f
 refine(Tryz.strings_Contains _ _ m w (by show((fI.map UInt8.ofNat).toArray).size<_;decide+kernel) b).mono ?_
 rintro e w' ⟨rfl,rfl⟩
 exact⟨rfl,rfl⟩
theorem gR {s:ByteArray} (h:s.size=0):nameB s=false:=by
 unfold nameB
 rw[show N s= [] from List.eq_nil_of_length_eq_zero (by rw[N_len];exact h)]
 rfl
theorem name_long {s:ByteArray} (h:¬s.size≤24):nameB s=false:=by
 unfold nameB fU
 rw[N_len]
 simp[h]
theorem N_head {s:ByteArray} (h:0<s.size):∃r,N s=s[0].toNat::r:=by
 have b:=N_get s 0 h
 cases e:N s with
 |nil=>rw[e]at b;cases b
 |cons a l=>rw[e]at b;simp at b;rw[b];exact⟨l,rfl⟩
theorem fJ {s:ByteArray} (h:0<s.size) (b:ej s[0].toNat=false):nameB s=false:=by
 obtain⟨r,a⟩:=N_head h
 unfold nameB fU
 rw[a]
 simp only[dS]
 rw[b];rfl
theorem name_any (s : ByteArray) (w : World) (g : Sh w) (O : s.size ≤ 9223372036854775807) : Calls Tryz.prog 115 #[.string s] w fun r w' => r = .returned (.bool (nameB s)) ∧ w = w' := by
  by_cases m : s.size = 0
  · have x := gR m
    rw [x]
    obtain rfl := bu m
    clear m x
    go_enter Tryz.func115, Tryz.ntmps115
    go_wp2_with fail
    go_ret
    exact ⟨rfl, rfl⟩
  · have B := bU m
    have y := bI m
    have e : 0 < s.size := by omega
    by_cases a : s.size ≤ 24
    · have t : decide ((24 : Int) < (s.size : Int)) = false := by simp; omega
      have D : s.size ≤ 1000 := by omega
      by_cases j : 97 ≤ s[0].toNat
      · have H : decide ((s[0].toNat : Int) < (97 : Int)) = false := by simp; omega
        by_cases n : s[0].toNat ≤ 122
        · have C : decide ((122 : Int) < (s[0].toNat : Int)) = false := by simp; omega
          have l : Hid (ej s[0].toNat = true) := by unfold Hid ej; simp [j, n]
          have q := hid (fun K => lp K s w g)
          obtain ⟨b, o⟩ : ∃ b, kwIn s = b := ⟨_, rfl⟩
          rw [o] at q
          cases b
          · have f : Hid (nameB s = (N s).all cB) := by
              obtain ⟨r, F⟩ := N_head e
              exact name_nokw o _ r F l a
            clear o j n g a
            go_enter Tryz.func115, Tryz.ntmps115
            go_wp2_with (go_at_call 181; refine (q _ ?hk1).mono ?_; (case hk1 => kernel_rfl); rintro _ G ⟨rfl, rfl⟩)
            go_loop [3, 4, 30] (fun _ _ i => ∃ k : Nat, k ≤ s.size ∧ i = .int .i64 k ∧ ((N s).take k).all cB = true) (fun _ _ i => s.size - (intOf i).toNat)
            case atStart => exact ⟨0, Nat.zero_le _, rfl, rfl⟩
            case round =>
              obtain ⟨k, L, rfl, A⟩ := hrel
              have u := hid A
              clear A
              by_cases p : k < s.size
              · have E : Hid (cB s[k].toNat = true → ((N s).take (k + 1)).all cB = true) := fun h => jx p u h
                have J : Hid (cB s[k].toNat = false → (N s).all cB = false) := fun h => gP p h
                have z : Hid (cB s[k].toNat = (decide (97 ≤ s[k].toNat) && decide (s[k].toNat ≤ 122) || s[k].toNat == 95 || decide (48 ≤ s[k].toNat) && decide (s[k].toNat ≤ 57))) := rfl
                go_wp2_with fail
                all_goals first
                  | (go_round
                     case rel =>
                       refine ⟨k + 1, by omega, by go_num, E ?_⟩
                       rw [z.out]
                       simp only [beq_iff_eq, bne_iff_ne, ne_eq, beq_eq_false_iff_ne, bne_eq_false_iff_eq, decide_eq_true_eq, decide_eq_false_iff_not, Bool.or_eq_true, Bool.and_eq_true] at *
                       omega
                     case measure => simp [intOf]; omega)
                  | (go_ret
                     refine ⟨ab ?_, rfl⟩
                     rw [f.out]
                     symm
                     apply J
                     rw [z.out, ← Bool.not_eq_true]
                     simp only [beq_iff_eq, bne_iff_ne, ne_eq, beq_eq_false_iff_ne, bne_eq_false_iff_eq, decide_eq_true_eq, decide_eq_false_iff_not, Bool.or_eq_true, Bool.and_eq_true] at *
                     omega)
              · have I : Hid ((N s).all cB = true) := lk (by omega) u
                go_wp2_with fail
                go_ret
                exact ⟨ab (by rw [f.out, I.out]), rfl⟩
          · have f : Hid (nameB s = false) := name_kw o
            clear o j n g a
            go_enter Tryz.func115, Tryz.ntmps115
            go_wp2_with (go_at_call 181; refine (q _ ?hk1).mono ?_; (case hk1 => kernel_rfl); rintro _ G ⟨rfl, rfl⟩)
            go_ret
            exact ⟨ab f.symm, rfl⟩
        · have f : Hid (nameB s = false) := fJ e (by unfold ej; simp [n])
          have C : decide ((122 : Int) < (s[0].toNat : Int)) = true := by simp; omega
          clear j n g a
          go_enter Tryz.func115, Tryz.ntmps115
          go_wp2_with fail
          go_ret
          exact ⟨ab f.symm, rfl⟩
      · have f : Hid (nameB s = false) := fJ e (by unfold ej; simp [j])
        have H : decide ((s[0].toNat : Int) < (97 : Int)) = true := by simp; omega
        clear j g a
        go_enter Tryz.func115, Tryz.ntmps115
        go_wp2_with fail
        go_ret
        exact ⟨ab f.symm, rfl⟩
    · have f : Hid (nameB s = false) := name_long a
      have t : decide ((24 : Int) < (s.size : Int)) = true := by simp; omega
      clear g a
      go_enter Tryz.func115, Tryz.ntmps115
      go_wp2_with fail
      go_ret
      exact ⟨ab f.symm, rfl⟩
end Go.Proofs.YtjigcpfjhfoheaaGreatDoor
