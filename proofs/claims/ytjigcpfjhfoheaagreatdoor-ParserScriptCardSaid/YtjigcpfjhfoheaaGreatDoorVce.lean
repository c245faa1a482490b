/- Readers never go back; statements; the reference reads as the parser does; Walk over the reference: Script; What the reference's Statement and Script return; Walk: two lists of statements, equal. -/
import Derived.Test.YtjigcpfjhfoheaaGreatDoorVcc
import Derived.Deep.MidRow
namespace Go.Proofs.YtjigcpfjhfoheaaGreatDoor
open Go.RowKit List Go.Proofs.Tryz
set_option maxHeartbeats 4000000
set_option maxRecDepth 100000
set_option linter.unusedVariables false
set_option linter.unusedSimpArgs false
section
open Lx (Tk)
section
variable {a b:M Ex} (h:Sim a b) (ha:Stk a) (hb:Stk b) (hz:Nz b)
include h ha hb hz
end
theorem scr_sim {m g:M St} (h:Sim m g) (f:St→Int):∀(n:Nat) (e:List St) (s:Ps),jL m f n e s=jL g f n e s
 |0,_,_=>rfl
 |n+1,e,s=>by
  unfold jL
  rcases h s with h1|⟨h1,h2⟩
  ·rw[h1,scr_sim h f n]
  ·rw[←h1,dk h2,h2]
   simp
end
section
open Lx (Tk)
theorem fwd_stmR (n:Nat):Fwd (stmR n):=fun s=>by
 obtain⟨B,e,_⟩:=(rdy_stm n).sfx s
 have f:=congrArg List.length e
 simp only[length_append]at f
 rcases o5 n s with h|⟨h,_⟩
 ·rw[←h];omega
 ·rw[←h];omega
theorem xm (s:BA) (w:World) (hs:s.size≤20000)
  (C:∀(L:List Tk) (st:Ps) (a:SA) (W:World),Lx.tokAll s= .ok L→st.r=L.drop (L.length-st.r.length)→(stmR (L.length+1) st).2.bad=false→StW W (stmR (L.length+1) st).1 a→Cl 35 #[St.val (stmR (L.length+1) st).1 a] W (Rt (i4 (validS (stmR (L.length+1) st).1)) W)):
  Cl 21 #[.string s] w fun e w'=>Ext w w'∧∃B k,e= .returned (.tuple #[.slice B (parL validS s).1.length k,i4 (parL validS s).2.1,i4 (parL validS s).2.2])∧(parL validS s).1.length≤20001∧Stb (w.heap.size≤·) w' (fun u=>Lst oD 22 u B (parL validS s).1):=by
 have f:∀a x:Nat,Lx.tokAll s= .bad a x→parL validS s=([],(a:Int),(x:Int)):=fun a x h=>by unfold parL;rw[h]
 have o:∀L,Lx.tokAll s= .ok L→parL validS s=lOf (jL (stmR (L.length+1)) validS (L.length+1) [] ⟨L,false⟩):=fun L h=>by
  rw[←scr_sim (o5 _)]
  unfold parL lOf
  rw[h]
  rfl
 obtain⟨R,hR⟩:∃R,parL validS s=R:=⟨_,rfl⟩
 rw[hR]at f o ⊢
 replace o:=hid o
 replace f:=hid f
 replace C:=hid C
 clear hR
 go_enter func21,ntmps21
 go_wp2_with fail
 refine(rR s w hs).mono ?_
 rintro _ U ⟨F,h|h⟩
 ·obtain⟨a,x,I,a8,rfl⟩:=h
  have a9:¬((x:Int)=0):=by omega
  obtain rfl:=f a x I
  go_wp2_with fail
  go_ret3
  exact⟨F,none,⟨0,rfl⟩,fun u _ _=>cN⟩
 ·obtain⟨L,P,A,c,I,rfl,hp⟩:=h
  have Y:=gS I
  have a0:=Y.len
  have HR:=hid (o L I)
  have D:=hid (fun st a W=>C L st a W I)
  have ag:Hid (w.heap.size≤U.heap.size):=F.size
  have E:=((En.start hp).row0 (α:=St) U.heap.size 40 22).imp (Ψ:=Els oD 22 [] []) fun u _=>Els.nil
  clear hp C o f F
  go_upto_region 5 with fail
  go_loopw [8] (fun vv wr=> ∃(m:Nat) (st:Ps) (l:List St) (xs:LV),st.r.length<m∧l.length+st.r.length≤L.length+1∧st.bad=false∧R=lOf (jL (stmR (L.length+1)) validS m l st)∧En 77 P A c L w U wr st [ow U.heap.size 40 22 vv l.length xs] (Els oD 22 l xs)) (fun _ wr=>20001-posO P wr)
  case atStart=>exact⟨_,⟨L,false⟩,[],[],by simp,by simp,rfl,HR,E⟩
  case round=>
   clear E HR
   obtain⟨m,st,l,xs,hm,a4,a6,hI,E⟩:=hrel
   obtain⟨m,rfl⟩:∃x,m=x+1:=⟨m-1,by omega⟩
   rw[qk]at hI
   have g:=hid hI
   have ac:=hid E.ps.posO
   have ax:=E.ps.le
   have H:=hid E.ps.suf
   clear hI
   obtain⟨b,K,y,hb,c0,c1,c2⟩:=E.ps.cells
   subst y
   obtain⟨O,Q,-⟩:=cls E.ps.blk
   have hi:=E.ps.lti
   have a2:L.length-st.r.length<L.length:=by have:=E.ps.ne;omega
   replace E:=hid (E.ext (Ext.refl _).drew)
   by_cases hk:st.hd.kind=0
   ·have k0:((st.hd.kind:Int) !=0)=false:=by simp[hk]
    rw[if_pos hk]at g
    obtain rfl:R=(l,0,0):=g.out
    clear g D
    go_upto_region 5 with fail
    go_region
    clear hb c0 c1 c2 O Q hi
    obtain⟨B,k,rfl⟩:=ca (E.own (j:=0) rfl)
    have HB:=E.all.imp fun u h=>Els.lst' h.1 (h.2 _ (mem_cons_self ..))
    go_wp2_with fail
    go_ret3
    exact⟨E.ps.base,B,⟨k,rfl⟩,by show l.length≤_;omega,HB.weak fun q _ hq=>Nat.le_trans ag hq⟩
   ·have k0:((st.hd.kind:Int) !=0)=true:=by simp;omega
    rw[if_neg hk]at g
    obtain⟨⟨X,s1⟩,hX⟩:∃x,stmR (L.length+1) st=x:=⟨_,rfl⟩
    have a1:s1.r.length≤st.r.length:=by
     have:=fwd_stmR (L.length+1) st
     rw[hX]at this
     exact this
    have p:=hid (fun a W h1 h2=>D st a W H h1 h2)
    rw[hX]at g p
    simp only at g p
    clear D
    go_upto_region 5 with fail
    go_region
    clear c0 c1 c2 O Q hi
    have n:Hid (En 77 P (some ⟨b,K,none⟩) c L w U wr.drew st _ _):=E.out
    clear E
    obtain⟨b,K,y,hb,c0,c1,c2⟩:=n.ps.cells
    injection y with y
    injection y with e1 e2
    subst e1 e2
    obtain⟨O,Q,-⟩:=cls n.ps.blk
    have hi:=n.ps.lti
    have E:=hid (n.ext (Ext.refl _).drew)
    clear n
    go_upto_region 6 with fail
    go_region
    clear hb c0 c1 c2 O Q hi
    replace E:=E.out
    generalize World.drew _=w3 at*
    go_upto_region 9 with (first
     |(refine E.al rfl _ rfl rfl (cs:=zS) (t:=40) (by kernel_rfl) fun g0 u E=>?_)
     |(refine E.sw (j:=0) (ty:=40) rfl rfl rfl rfl rfl rfl (by kernel_rfl) (by kernel_rfl) rfl fun u E=>?_)
     |(go_at_call 33;have hc:=lf (nX Y (L.length+1)) (kV _) (by omega) (by omega) E.ps Y;rw[show dj (exprR (L.length+1)) cg bZ lc st=(X,s1) from hX]at hc;(with_reducible refine hc.mono ?_);rintro _ u3 ⟨_,rfl,g1,g2,a,rfl,g3⟩;replace E:=E.calls g1 g2 g3;clear g1 g2 g3 hc;unfold St.val)
     |(go_at_call 45;refine E.rnd Y jy rfl fun u E=>?_))
    have G:=need_ok (t:=jy) (s:=s1)
    generalize needP jy s1=s2 at*
    have p2:=E.ps.blk.cell_some (i:=2) rfl
    cases z:s2.bad
    ·rw[z]at p2 g
     rw[if_neg (by simp)]at g
     obtain⟨an,a5⟩:=G z
     have V:=hid (p a _ an E.stb.now.2)
     unfold St.val at V
     clear p G
     by_cases Z:validS X=0
     ·rw[if_neg (by simp[Z])]at g
      rw[Z]at V
      go_wp2_with (first
       |(refine E.lw (j:=0) (ty:=40) rfl rfl rfl rfl (by kernel_rfl) ?_)
       |(go_at_call 35;(with_reducible refine V.out.mono ?_);rintro _ u6 ⟨rfl,J⟩;replace E:=E.ext J;clear J)
       |(refine bsG ap_st rfl rfl (X.cells a) (by rfl) rfl ?_)
       |(at_builtin;refine E.ap X ap_st (j:=1) rfl rfl rfl rfl rfl rfl rfl (st_one X a) (by omega) fun l2 A2 c2 u hl E=>?_))
      have ad:=E.ps.posO
      obtain rfl:=hl.out
      exact⟨⟨m,_,_,_,by omega,by simp;omega,z,g,E.pop.imp fun u h=>Els.snoc h.1 rfl ⟨a,rfl,h.2⟩⟩,by rw[ad,ac.out];omega⟩
     ·rw[if_pos Z]at g
      have a7:(validS X !=0)=true:=by simpa using Z
      obtain rfl:R=([],((st.hd.pos:Nat):Int),validS X):=g.out
      go_wp2_with (first
       |(refine E.lw (j:=0) (ty:=40) rfl rfl rfl rfl (by kernel_rfl) ?_)
       |(go_at_call 35;(with_reducible refine V.out.mono ?_);rintro _ u6 ⟨rfl,J⟩;replace E:=E.ext J;clear J))
      go_ret3
      exact⟨E.ps.base,none,⟨0,rfl⟩,fun u _ _=>cN⟩
    ·rw[z]at p2 g
     rw[if_pos rfl]at g
     obtain rfl:R=([],((s2.hd.pos:Nat):Int),2):=g.out
     obtain⟨b2,aS,y,hb,c0,c1,c2⟩:=E.ps.cells
     injection y with y
     injection y with e1 e2
     subst e1 e2
     obtain⟨O,Q,-⟩:=cls E.ps.blk
     have hi:=E.ps.lti
     have a3:L.length-s2.r.length<L.length:=by have:=E.ps.ne;have:=E.ps.le;omega
     replace E:=hid (E.ext (Ext.refl _).drew)
     go_upto_region 10 with fail
     go_region
     go_wp2_with fail
     go_ret3
     exact⟨E.ps.base,none,⟨0,rfl⟩,fun u _ _=>cN⟩
end
section
open Lx (Tk)
theorem tH (s:BA) (w:World) (hs:s.size≤20000):
  Cl 21 #[.string s] w fun e w'=>Ext w w'∧∃B k,e= .returned (.tuple #[.slice B (parL validS s).1.length k,i4 (parL validS s).2.1,i4 (parL validS s).2.2])∧(parL validS s).1.length≤20001∧Stb (w.heap.size≤·) w' (fun u=>Lst oD 22 u B (parL validS s).1):=
 xm s w hs fun L st a W g f hb i=>oH g f hb i
end
section
open Lx (Tk)
def qu (s:St) (cs:LV) (w:World):Prop:=∃a,cs=s.cells a∧StV w s a
theorem Lst.st_at {w:World} {A:OA} {l:List St} (h:Lst qu 22 w A l) {i:Nat} (hi:i<l.length):∃a b e,A=some ⟨b,e,none⟩∧StV w l[i] a∧∀k v,(l[i].cells a)[k]? =some v→w.cell? ⟨b,e+i*22+k,none⟩=some v:=by
 obtain⟨cs,_,⟨b,e,f,g⟩,a,rfl,j⟩:=h i _ (getElem?_eq_getElem hi)
 exact⟨a,b,e,f,j,g⟩
theorem tI {w w':World} {A:OA} {l:List St} (h:Lst qu 22 w A l) (f:Ext w w'):Lst qu 22 w' A l:=fun i s hs=>by
 obtain⟨cs,g,j,a,e,k⟩:=h i s hs
 exact⟨cs,g,j.ext f,a,e,k.ext f⟩
theorem j6 {P:Program} {ops:Array Oper} {C:World→Prop} {Q:Act→Prop} {rest:List Oper} {o:Oper} {a:Act} (e:o.guard=none) (ty:TypeId) (x:Operand) (j:o.op= .load ty x)
  (b i:Nat) (m:a.eval x= .pointer (some ⟨b,i,none⟩)) (cs:LV) (d:TypeDesc) (g:∀w,C w→w.rangeAt b i cs)
  (k:P.underlying ty=some d) (hd:d.isRow=true) (hi:(P.info? ty).map (·.size)=some cs.length)
  (h:wpQuiet P ops C Q rest (a.put o.dst (.agg cs.toArray))):wpQuiet P ops C Q (o::rest) a:=by
 unfold wpQuiet
 have l:Region.wanted o (yielded ops a.tmps)=true:=by simp[Region.wanted,e]
 rw[if_pos l]
 refine⟨.agg cs.toArray,fun w f=>?_,h⟩
 unfold Oper.quietAt execOp
 simp only[j,m,Instr.loadAt,Instr.sureAddr,Sem.run_bind,Sem.run_pure,Result.andThen_ok,run_loadVar_mid w b i ty cs d (g w f) k hd hi]
 exact⟨rfl,rfl⟩
theorem oI {w:World} {b i:Nat} {cs:LV} (h:∀k v,cs[k]? =some v→w.cell? ⟨b,i+k,none⟩=some v):∀w',(∃x:ai w,w'=x.now)→w'.rangeAt b i cs:=by
 rintro _ ⟨x,rfl⟩
 exact fun k v e=>x.ext.keep (h k v e)
theorem rsts_any (l m:List St) (A B:OA) (c d:Nat) (w:World) (E:l.length=m.length) (hn:l.length≤20001) (ha:Lst qu 22 w A l) (hb:Lst qu 22 w B m) (hs:∀i (h:i<l.length) (Z:i<m.length),l[i].same m[i]=true):
  Cl 22 #[.slice A l.length c,.slice B m.length d] w (Rt (.bool true) w):=by
 have H:=hid ha
 have I:=hid hb
 have J:=hid hs
 clear ha hb hs
 have Y:((l.length:Int) !=(m.length:Int))=false:=by rw[E];exact bne_self_eq_false _
 have C:=hid E
 clear E
 go_enter func22,ntmps22
 go_wp2_with fail
 go_loopw [5] (fun G wr=> ∃k:Nat,k≤l.length∧G= i4 k∧Ext w wr) (fun G _=>l.length- (intOf G).toNat)
 case atStart=>exact⟨0,Nat.zero_le _,rfl,Ext.refl w⟩
 case round=>
  obtain⟨k,hk,rfl,R⟩:=hrel
  have p:=hid R
  clear R
  by_cases j:k<l.length
  ·have g:k<m.length:=by have:=C.out;omega
   obtain⟨a,V,o1,rfl,Q,e⟩:=(tI H p).st_at j
   obtain⟨D,X,o2,rfl,n,f⟩:=(tI I p).st_at g
   have i0:(0:Int)≤(k:Int):=by omega
   have i1:(k:Int)<(l.length:Int):=by omega
   have i2:(k:Int)<(m.length:Int):=by omega
   have o:=fun W (P:Ext wr W)=>oF l[k] m[k] a D W (Q.ext P) (n.ext P)
   rw[J.out k j g]at o
   unfold St.val at o
   have L:(l[k].cells a).length=22:=rfl
   have O:(m[k].cells D).length=22:=rfl
   generalize l[k].cells a=cs at*
   generalize m[k].cells D=K at*
   have U:Hid (∀z:ai wr,Cl 15 _ z.now _):=fun z=>o z.now z.ext
   have x:Hid ((prog.info? 40).map (·.size)=some cs.length):=by unfold Hid;rw[L];kernel_rfl
   have y:Hid ((prog.info? 40).map (·.size)=some K.length):=by unfold Hid;rw[O];kernel_rfl
   have t:=hid e
   have u:=hid f
   clear e f Q n o L O H I J
   go_upto_region 6 with fail
   refine af (by kernel_rfl) (by kernel_rfl) ?_
   repeat (first|(refine j6 rfl 40 (.tmp 19) rfl V (o1+k*22) rfl cs _ (oI t) underlying40 rfl x ?_;go_simp)|(refine j6 rfl 40 (.tmp 23) rfl X (o2+k*22) rfl K _ (oI u) underlying40 rfl y ?_;go_simp)|go_big_quiet_step ((go_at_call 15;with_reducible exact aq (U.out _))))
   refine wpQuiet_nil ?_
   intro s
   have F:Ext wr s.now:=s.ext
   generalize s.now=w5 at*
   clear s
   go_wp2_with fail
   go_roundw
   case rel=>exact⟨k+1,by omega,by go_num,p.trans F⟩
   case measure=>simp[intOf];omega
  ·obtain rfl:k=l.length:=by omega
   go_wp2_with fail
   go_ret
   exact⟨rfl,p⟩
end
end Go.Proofs.YtjigcpfjhfoheaaGreatDoor
