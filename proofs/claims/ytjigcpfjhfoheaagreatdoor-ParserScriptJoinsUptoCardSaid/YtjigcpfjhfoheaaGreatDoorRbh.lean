/- Walks: Valid and Format of a statement, the program's and the reference's; Walks: EqualFunc, for the slices of a statement, and its closures; Walks: Equal of statements; Walks: the reference's comparison of definitions. -/
import Derived.Test.YtjigcpfjhfoheaaGreatDoorRbg
import Derived.Test.YtjigcpfjhfoheaaGreatDoorRbd
import Derived.Test.YtjigcpfjhfoheaaGreatDoorRaj
import Derived.Test.YtjigcpfjhfoheaaGreatDoorRaf
import Derived.Test.YtjigcpfjhfoheaaGreatDoorRba
import Derived.Deep.RegionHeld3
import Derived.BigRegion
namespace Go.Proofs.YtjigcpfjhfoheaaGreatDoor
open Go.RowKit
set_option maxHeartbeats 4000000
set_option maxRecDepth 100000
set_option linter.unusedVariables false
set_option linter.unusedSimpArgs false
def validS (s:St):Int:=if largeB s.all=true then 3 else if s.formed=false then 1 else if 16384<s.body.size then 3 else 0
def textS (s:St):ByteArray:=if validS s=0 then s.body else ⟨#[]⟩
theorem lY (s:St):largeB s.rall=largeB s.all:=by
 unfold largeB
 have i:nodesL s.rall=nodesL s.all:=by unfold St.rall St.all;simp only[co];omega
 have j:∀p:Ex→Bool,s.rall.any p=s.all.any p:=fun p=>by
  unfold St.rall St.all
  simp only[List.any_append]
  generalize s.chk.any p=a
  generalize s.vals.flatten.any p=b
  generalize s.grp.any p=e
  generalize (s.sets.map Asg.ex).any p=f
  generalize (s.itms.map Itm.ex).any p=g
  generalize [s.whr].any p=h
  cases a<;>cases b<;>cases e<;>cases f<;>cases g<;>cases h<;>rfl
 rw[i,j]
theorem eN {s:St} (h:largeB s.all=false):nodesL s.all≤400:=by
 unfold largeB at h
 simp only[Bool.or_eq_false_iff,decide_eq_false_iff_not]at h
 omega
theorem flat_len (l:List (List Ex)):l.flatten.length≤sumB bkR l:=by
 have b:∀l:List Ex,l.length≤sizeL l:=fun l=>by rw[←fE];exact bG (fun a=>cJ a) l
 induction l with
 |nil=>simp[sumB]
 |cons a l ih=>rw[List.flatten_cons,List.length_append,sumB];unfold bkR at*;have:=b a;omega
theorem all_len (s:St) (h:s.bulk≤1048576):s.all.length≤100000000:=by
 have a:=cZ s h
 have b:=flat_len s.vals
 have e:=(ev s h).2.2.2.1
 unfold St.all
 simp only[List.length_append,List.length_map,List.length_singleton]
 omega
theorem nr (s:St) (h:s.bulk≤1048576):s.rall.length≤100000000:=by
 have a:=cZ s h
 have b:=flat_len s.vals
 have e:=(ev s h).2.2.2.1
 unfold St.rall
 simp only[List.length_append,List.length_map,List.length_singleton]
 omega
theorem nt (s:St) (p:s.formed=true) (o:s.Fits) (r:s.bulk≤1048576):s.body.size≤1000000000:=by
 have a:=bC p
 have m:=ev s r
 have D:=gn s (et p) o.whr
 unfold St.body
 by_cases e:s.kd=1
 ·rw[if_pos e]
  have:=aK s.elts
  have:=jW (a.2.1 e)
  simp only[ByteArray.size_append]
  show 13+_+2+_+1≤_
  omega
 rw[if_neg e]
 by_cases f:s.kd=2
 ·rw[if_pos f]
  have l:∀x∈s.vals,x.all Ex.formed=true:=fun x b=>by have:=List.all_eq_true.1 (a.2.2.2.1 f) x b;unfold rowOk at this;simp only[Bool.and_eq_true]at this;exact this.2
  have:=aK (s.vals.map cM)
  have:=aP cM bkR 100 s.vals fun x b=>lP (l x b)
  simp only[ByteArray.size_append]
  show 12+_+8+_≤_
  omega
 rw[if_neg f]
 by_cases g:s.kd=3
 ·rw[if_pos g]
  have:=aK (s.sets.map Asg.tx)
  have:=aP Asg.tx bkA 100 s.sets fun x b=>lQ (List.all_eq_true.1 (a.2.2.2.2.2.1 g) x b)
  simp only[ByteArray.size_append]
  show 7+_+5+_+_≤_
  omega
 rw[if_neg g]
 by_cases n:s.kd=4
 ·rw[if_pos n]
  simp only[ByteArray.size_append]
  show 12+_+_≤_
  omega
 rw[if_neg n]
 by_cases h:s.kd=5
 ·rw[if_pos h]
  obtain⟨i,t,j,k,u,w⟩:=og (a.2.2.2.2.2.2.2.1 h)
  have B:=lW s i m.2.2.2.2.2.1
  have C:(cma (s.frm.map Src.tx)).size≤104857600:=Nat.le_trans (aK _) (Nat.le_trans (aP Src.tx bkF 100 s.frm fun x b=>gl x) (by omega))
  have E:(exsT s.grp).size≤100000:=Nat.le_trans (aK _) (Nat.le_trans (eq j) (by have:=o.grp;omega))
  have F:(cma (s.ord.map Ord'.tx)).size≤104857600:=Nat.le_trans (aK _) (Nat.le_trans (aP Ord'.tx bkO 100 s.ord fun x b=>gm (List.all_eq_true.1 k x b)) (by omega))
  have G:=bh s.lim (by omega) (by omega)
  have y:s.sel0.size≤300000000:=by unfold St.sel0;simp only[ByteArray.size_append];show 7+_+6+_+_≤_;omega
  have z:s.sel1.size≤300100100:=by unfold St.sel1;refine aC _ _ _ _ (by omega) ?_;simp only[ByteArray.size_append];show _+(10+_)≤_;omega
  have A:s.sel2.size≤500000000:=by unfold St.sel2;refine aC _ _ _ _ (by omega) ?_;simp only[ByteArray.size_append];show _+(10+_)≤_;omega
  unfold St.sel
  refine aC _ _ _ _ ?_ (by omega)
  simp only[ByteArray.size_append]
  show _+(7+_)≤_
  omega
 rw[if_neg h]
 refine aC _ _ _ _ (show 5≤_ by omega) (aC _ _ _ _ (show 6≤_ by omega) (aC _ _ _ _ (show 8≤_ by omega) (aC _ _ _ _ ?_ (aC _ _ _ _ ?_ ?_))))
 ·rw[ByteArray.size_append];show 10+_≤_;omega
 ·rw[ByteArray.size_append];show 12+_≤_;omega
 ·rw[ByteArray.size_append];show 8+_≤_;omega
theorem je {s:St} (h:validS s=0):s.formed=true∧s.Fits:=by
 unfold validS at h
 cases a:largeB s.all
 ·rw[a]at h
  simp only[Bool.false_eq_true,if_false]at h
  cases b:s.formed
  ·rw[b]at h;simp at h
  ·exact⟨rfl,od b (eN a)⟩
 ·rw[a]at h;simp at h
theorem qK (s:St) (a:SA) (w:World) (P:Gd w) (I:StV w s a) (B:jS w a.keys.A a.keys.n) (C:jT w a.frs.A a.frs.n) (z:s.bulk≤1048576):
  Calls Tryz.prog 31 #[s.val a] w fun r w'=>r= .returned (.int .i64 (validS s))∧Ext w w':=by
 have D:=cZ s z
 have E:=hid (fun W (k:Ext w W)=>all_any s a W (I.ext k) (all_len s z))
 have u:=hid (fun (W:World) (A:Option Addr) (c:Nat) (Z:KidsAt W A s.all)=>jO s.all A s.all.length c W rfl (by have:=all_len s z;omega) Z)
 have x:=hid (fun W (k:Ext w W)=>mG s a W (P.ext k).sh (I.ext k) D.1 (by omega))
 have F:=hid (fun W (k:Ext w W) (Y:s.formed=true) (m:s.Fits)=>form_any s a W (P.ext k) (I.ext k) (B.ext k) (C.ext k) Y m z)
 have h:Hid (validS s=if largeB s.all=true then 3 else if s.formed=false then 1 else if 16384<s.body.size then 3 else 0):=rfl
 have G:Hid (largeB s.all=false→s.formed=true→s.Fits):=fun L O=>od O (eN L)
 have H:Hid (s.formed=true→s.Fits→s.body.size≤1000000000):=fun L O=>nt s L O z
 have l:=hid (Blk.of_new w 40 (s.cells a))
 have j:=hid ((Ext.refl w).alloc (.cells (s.cells a).toArray 40))
 clear P I B C z D
 unfold St.val at*
 unfold St.cells Sl.v at*
 generalize validS s=V at*
 go_enter Tryz.func31,Tryz.ntmps31
 go_upto_region 1 with fail
 generalize w.alloc (.cells _ 40)=w1 at*
 generalize w.heap.size=g at*
 cases y:largeB s.all
 ·rw[y]at u h
  simp only[Bool.false_eq_true,if_false]at h
  cases m:s.formed
  ·rw[m]at x h
   simp only[if_true]at h
   have p:=h.out
   subst p
   clear F H h G y m
   go_wp2_with (first|(refine am rfl 40 (.tmp 1) rfl g rfl 40 _ _ l Tryz.underlying40 rfl (by kernel_rfl) ?_)|(refine am rfl 40 (.tmp 1) rfl g rfl 40 _ _ (l.ext (b.trans e)) Tryz.underlying40 rfl (by kernel_rfl) ?_)|(go_at_call 63;(with_reducible refine(E.out _ j.out).mono ?_);rintro _ Q ⟨J,c1,rfl,i,b⟩)|(go_at_call 62;(with_reducible refine(u.out _ _ _ i).mono ?_);rintro _ R ⟨rfl,e⟩)|(go_at_call 64;(with_reducible refine(x.out _ (j.out.trans (b.trans e))).mono ?_);rintro _ X ⟨rfl,f⟩))
   go_ret
   exact⟨rfl,j.trans ((b.trans e).trans f)⟩
  ·have o:=G y m
   have hz:=H m o
   have U:=hid (fun W (k:Ext w W)=>F W k m o)
   rw[m]at x h
   simp only[Bool.true_eq_false,if_false]at h
   clear F H G y m o
   generalize s.body=K at*
   by_cases hs:16384<K.size
   ·rw[if_pos hs]at h
    have p:=h.out
    subst p
    have hd:decide ((16384:Int)<(K.size:Int))=true:=by simp;omega
    clear h
    go_wp2_with (first|(refine am rfl 40 (.tmp 1) rfl g rfl 40 _ _ l Tryz.underlying40 rfl (by kernel_rfl) ?_)|(refine am rfl 40 (.tmp 1) rfl g rfl 40 _ _ (l.ext (b.trans e)) Tryz.underlying40 rfl (by kernel_rfl) ?_)|(refine am rfl 40 (.tmp 1) rfl g rfl 40 _ _ (l.ext ((b.trans e).trans f)) Tryz.underlying40 rfl (by kernel_rfl) ?_)|(go_at_call 63;(with_reducible refine(E.out _ j.out).mono ?_);rintro _ Q ⟨J,c1,rfl,i,b⟩)|(go_at_call 62;(with_reducible refine(u.out _ _ _ i).mono ?_);rintro _ R ⟨rfl,e⟩)|(go_at_call 64;(with_reducible refine(x.out _ (j.out.trans (b.trans e))).mono ?_);rintro _ X ⟨rfl,f⟩)|(go_at_call 65;(with_reducible refine(U.out _ (j.out.trans ((b.trans e).trans f))).mono ?_);rintro _ w5 ⟨rfl,t⟩))
    go_ret
    exact⟨rfl,j.trans (((b.trans e).trans f).trans t)⟩
   ·rw[if_neg hs]at h
    have p:=h.out
    subst p
    have hd:decide ((16384:Int)<(K.size:Int))=false:=by simp;omega
    clear h
    go_wp2_with (first|(refine am rfl 40 (.tmp 1) rfl g rfl 40 _ _ l Tryz.underlying40 rfl (by kernel_rfl) ?_)|(refine am rfl 40 (.tmp 1) rfl g rfl 40 _ _ (l.ext (b.trans e)) Tryz.underlying40 rfl (by kernel_rfl) ?_)|(refine am rfl 40 (.tmp 1) rfl g rfl 40 _ _ (l.ext ((b.trans e).trans f)) Tryz.underlying40 rfl (by kernel_rfl) ?_)|(go_at_call 63;(with_reducible refine(E.out _ j.out).mono ?_);rintro _ Q ⟨J,c1,rfl,i,b⟩)|(go_at_call 62;(with_reducible refine(u.out _ _ _ i).mono ?_);rintro _ R ⟨rfl,e⟩)|(go_at_call 64;(with_reducible refine(x.out _ (j.out.trans (b.trans e))).mono ?_);rintro _ X ⟨rfl,f⟩)|(go_at_call 65;(with_reducible refine(U.out _ (j.out.trans ((b.trans e).trans f))).mono ?_);rintro _ w5 ⟨rfl,t⟩))
    go_ret
    exact⟨rfl,j.trans (((b.trans e).trans f).trans t)⟩
 ·rw[y]at u h
  simp only[if_true]at h
  have p:=h.out
  subst p
  clear x F H h G y
  go_wp2_with (first|(refine am rfl 40 (.tmp 1) rfl g rfl 40 _ _ l Tryz.underlying40 rfl (by kernel_rfl) ?_)|(go_at_call 63;(with_reducible refine(E.out _ j.out).mono ?_);rintro _ Q ⟨J,c1,rfl,i,b⟩)|(go_at_call 62;(with_reducible refine(u.out _ _ _ i).mono ?_);rintro _ R ⟨rfl,e⟩))
  go_ret
  exact⟨rfl,j.trans (b.trans e)⟩
theorem iA (l m:List Ex) (A B:Option Addr) (n p c c':Nat) (w:World) (j:l.length=n) (k:m.length=p) (o:n≤9223372036854775807) (s:p≤9223372036854775807) (i:KidsAt w A l) (a:KidsAt w B m):
  Calls Tryz.prog 37 #[.slice A n c,.slice B p c'] w fun r w'=>r= .returned (.bool (sameL l m))∧Ext w w':=
 mU l m A B n p c c' w j k o s i a fun x z y f g t u c1 c2 h b e=>gQ x y f g t u c1 c2 h b e
theorem jf (a b:ByteArray):sN a b=(a.toList==b.toList):=by unfold sN;rw[bc]
theorem jY (l m:List ByteArray) (A B:Option Addr) (n p c c':Nat) (w:World) (O:l.length=n) (P:m.length=p) (hn:n≤9223372036854775807) (hp:p≤9223372036854775807) (L:aM w A l) (t:aM w B m):
  Calls Tryz.prog 76 #[.slice A n c,.slice B p c'] w fun r w'=>r= .returned (.bool (allS sN l m))∧Ext w w':=by
 have E:=hid O
 have F:=hid P
 have X:=hid L
 have D:=hid t
 clear O P L t
 obtain⟨R,H⟩:∃R,allS sN l m=R:=⟨_,rfl⟩
 have G:=hid H
 rw[H]
 clear H
 by_cases z:n=p
 ·subst z
  have Z:((n:Int) !=(n:Int))=false:=by simp
  go_enter Tryz.func76,Tryz.ntmps76
  go_wp2_with fail
  go_loopw [5] (fun iv wr=> ∃(k:Nat),k≤n∧iv= .int .i64 k∧STo sN l m k∧Ext w wr) (fun i _=>n- (intOf i).toNat)
  case atStart=>exact⟨0,Nat.zero_le _,rfl,STo.zero _ l m,Ext.refl w⟩
  case round=>
   obtain⟨k,ac,rfl,Q,e⟩:=hrel
   have f:=hid e
   have o:=hid Q
   by_cases u:k<n
   ·obtain⟨x,I⟩:=aq E u
    obtain⟨y,J⟩:=aq F u
    obtain⟨_,b,ad,rfl,V⟩:=(X.ext e) k x I
    obtain⟨_,b2,U,rfl,W⟩:=(D.ext e) k y J
    have i0:(0:Int)≤(k:Int):=by omega
    have i1:(k:Int)<(n:Int):=by omega
    have K:=hid I
    have h:=hid J
    replace V:=ae.keep V
    replace W:=ae.keep W
    clear I J e Q
    obtain⟨Y,s⟩:∃b,(x.toList==y.toList)=b:=⟨_,rfl⟩
    cases Y
    ·have C:Hid (sN x y=false):=by unfold Hid sN;simp[←bc,s]
     have j:Hid (allS sN l m=false):=br K h C
     go_wp2_with fail
     refine ab (by kernel_rfl) (by kernel_rfl) ?_
     repeat (go_big_quiet_step (fail))
     refine wpQuiet_nil ?_
     intro w2 a
     have g:=ah a
     clear a
     go_wp2_with fail
     go_ret
     exact⟨aa (by rw[←G.out,j.out]),f.trans g⟩
    ·have C:Hid (sN x y=true):=by unfold Hid sN;simp[←bc,s]
     go_wp2_with fail
     refine ab (by kernel_rfl) (by kernel_rfl) ?_
     repeat (go_big_quiet_step (fail))
     refine wpQuiet_nil ?_
     intro w2 a
     have g:=ah a
     clear a
     go_wp2_with fail
     go_roundw
     case rel=>exact⟨k+1,by omega,by go_num,o.succ K h C,f.trans g⟩
     case measure=>simp[intOf];omega
   ·obtain rfl:k=n:=by omega
    have j:Hid (allS sN l m=true):=dj E F o
    go_wp2_with fail
    go_ret
    exact⟨aa (by rw[←G.out,j.out]),f⟩
 ·have Z:((n:Int) !=(p:Int))=true:=by simp;omega
  have j:Hid (allS sN l m=false):=di (by rw[E.out,F.out];exact z)
  go_enter Tryz.func76,Tryz.ntmps76
  go_wp2_with fail
  go_ret
  exact⟨aa (by rw[←G.out,j.out]),Ext.refl w⟩
theorem rdef_any (s t:St) (a b:SA) (w:World) (hv:StV w s a) (ax:StV w t b):
  Calls Tryz.prog 36 #[.agg #[.slice a.cols.A a.cols.n a.cols.c,.slice a.keys.A a.keys.n a.keys.c,.slice a.frs.A a.frs.n a.frs.c,.slice a.chk.A a.chk.n a.chk.c],.agg #[.slice b.cols.A b.cols.n b.cols.c,.slice b.keys.A b.keys.n b.keys.c,.slice b.frs.A b.frs.n b.frs.c,.slice b.chk.A b.chk.n b.chk.c]] w fun r w'=>r= .returned (.bool (allS Cd.same s.cols t.cols&&allS (allS sN) s.keys t.keys&&allS Rf.same s.frs t.frs&&sameL s.chk t.chk))∧Ext w w':=by
 have HS:=hid hv
 have HT:=hid ax
 have H0:=hid (fun W (hW:Ext w W)=>iA s.chk t.chk a.chk.A b.chk.A a.chk.n b.chk.n a.chk.c b.chk.c W hv.chk.1 ax.chk.1 hv.chk.2.1 ax.chk.2.1 (hv.chk.2.2.ext hW) (ax.chk.2.2.ext hW))
 have HB:=hid ((Blk.of_new w 29 [.slice a.cols.A a.cols.n a.cols.c,.slice a.keys.A a.keys.n a.keys.c,.slice a.frs.A a.frs.n a.frs.c,.slice a.chk.A a.chk.n a.chk.c]).ext ((Ext.refl _).alloc (.cells #[.slice b.cols.A b.cols.n b.cols.c,.slice b.keys.A b.keys.n b.keys.c,.slice b.frs.A b.frs.n b.frs.c,.slice b.chk.A b.chk.n b.chk.c] 29)))
 have u:=Blk.of_new (w.alloc (.cells #[.slice a.cols.A a.cols.n a.cols.c,.slice a.keys.A a.keys.n a.keys.c,.slice a.frs.A a.frs.n a.frs.c,.slice a.chk.A a.chk.n a.chk.c] 29)) 29 [.slice b.cols.A b.cols.n b.cols.c,.slice b.keys.A b.keys.n b.keys.c,.slice b.frs.A b.frs.n b.frs.c,.slice b.chk.A b.chk.n b.chk.c]
 have h:=hid (((Ext.refl w).alloc (.cells #[.slice a.cols.A a.cols.n a.cols.c,.slice a.keys.A a.keys.n a.keys.c,.slice a.frs.A a.frs.n a.frs.c,.slice a.chk.A a.chk.n a.chk.c] 29)).alloc (.cells #[.slice b.cols.A b.cols.n b.cols.c,.slice b.keys.A b.keys.n b.keys.c,.slice b.frs.A b.frs.n b.frs.c,.slice b.chk.A b.chk.n b.chk.c] 29))
 rw[show(w.alloc (.cells #[.slice a.cols.A a.cols.n a.cols.c,.slice a.keys.A a.keys.n a.keys.c,.slice a.frs.A a.frs.n a.frs.c,.slice a.chk.A a.chk.n a.chk.c] 29)).heap.size=w.heap.size+1 by simp]at u
 have HC:=hid u
 have m1:=hv.cols.2.1
 have m2:=hv.keys.2.1
 have m3:=hv.frs.2.1
 clear u hv ax
 generalize sameL s.chk t.chk=a6 at*
 obtain⟨R,hR⟩:∃R,(allS Cd.same s.cols t.cols&&allS (allS sN) s.keys t.keys&&allS Rf.same s.frs t.frs&&a6)=R:=⟨_,rfl⟩
 rw[hR]
 have G:=hid hR
 clear hR
 go_enter Tryz.func36,Tryz.ntmps36
 go_upto_region 1 with fail
 generalize (w.alloc (.cells #[.slice a.cols.A a.cols.n a.cols.c,.slice a.keys.A a.keys.n a.keys.c,.slice a.frs.A a.frs.n a.frs.c,.slice a.chk.A a.chk.n a.chk.c] 29)).alloc (.cells #[.slice b.cols.A b.cols.n b.cols.c,.slice b.keys.A b.keys.n b.keys.c,.slice b.frs.A b.frs.n b.frs.c,.slice b.chk.A b.chk.n b.chk.c] 29)=w1 at*
 generalize w.heap.size+1=g2 at*
 generalize w.heap.size=g at*
 have p0:=HB.cell 0
 have q0:=HC.cell 0
 have p1:=HB.cell 1
 have q1:=HC.cell 1
 have p2:=HB.cell 2
 have q2:=HC.cell 2
 have p3:=HB.cell 3
 have q3:=HC.cell 3
 simp only[List.getElem?_cons_succ,List.getElem?_cons_zero]at p0 p1 p2 p3 q0 q1 q2 q3
 by_cases a1:a.cols.n=b.cols.n
 ·have e1:((a.cols.n:Int) !=(b.cols.n:Int))=false:=by simp[a1]
  have P:=hid a1
  clear a1
  by_cases a2:a.keys.n=b.keys.n
  ·have e2:((a.keys.n:Int) !=(b.keys.n:Int))=false:=by simp[a2]
   have Q:=hid a2
   clear a2
   by_cases a3:a.frs.n=b.frs.n
   ·have e3:((a.frs.n:Int) !=(b.frs.n:Int))=false:=by simp[a3]
    have U:=hid a3
    clear a3
    cases a6
    ·go_wp2_with (go_at_call 37;(with_reducible refine(H0.out _ h.out).mono ?_);rintro _ L ⟨rfl,e⟩)
     go_ret
     exact⟨aa (by rw[←G.out];simp),h.trans e⟩
    ·go_wp2_with (go_at_call 37;(with_reducible refine(H0.out _ h.out).mono ?_);rintro _ L ⟨rfl,e⟩)
     clear p0 p1 p2 p3 q0 q1 q2 q3 e1 e2 e3
     go_loopw [5] (fun iv wr=> ∃(k:Nat),k≤a.cols.n∧iv= .int .i64 k∧STo Cd.same s.cols t.cols k∧Ext w1 wr) (fun i _=>a.cols.n- (intOf i).toNat)
     case atStart=>exact⟨0,Nat.zero_le _,rfl,STo.zero _ _ _,e⟩
     case round=>
      obtain⟨k,be,rfl,hr,f⟩:=hrel
      have m:=hid f
      have H:=hid hr
      have cb:=(HB.ext f).cell 0
      have cc:=(HC.ext f).cell 0
      simp only[List.getElem?_cons_succ,List.getElem?_cons_zero]at cb cc
      by_cases an:k<a.cols.n
      ·obtain⟨x,hx⟩:=aq HS.cols.1 an
       obtain⟨y,hy⟩:=aq HT.cols.1 (show k<b.cols.n by have:=P.out;have:=Q.out;have:=U.out;omega)
       have i0:(0:Int)≤(k:Int):=by omega
       have i1:(k:Int)<(a.cols.n:Int):=by omega
       have i2:(k:Int)<(b.cols.n:Int):=by have:=P.out;have:=Q.out;have:=U.out;omega
       have O:=hid hx
       have o:=hid hy
       obtain⟨_,eb,ad,Z,q0,q1,q2,q3,q4,q5⟩:=HS.cols.2.2 k x hx
       obtain⟨_,Y,F,ac,s0,s1,s2,s3,s4,s5⟩:=HT.cols.2.2 k y hy
       rw[Z]at cb
       rw[ac]at cc
       replace q0:=ae.keep ((h.trans f).keep q0)
       replace s0:=ae.keep ((h.trans f).keep s0)
       replace q1:=ae.keep ((h.trans f).keep q1)
       replace s1:=ae.keep ((h.trans f).keep s1)
       replace q2:=ae.keep ((h.trans f).keep q2)
       replace s2:=ae.keep ((h.trans f).keep s2)
       replace q3:=ae.keep ((h.trans f).keep q3)
       replace s3:=ae.keep ((h.trans f).keep s3)
       replace q4:=ae.keep ((h.trans f).keep q4)
       replace s4:=ae.keep ((h.trans f).keep s4)
       replace q5:=ae.keep ((h.trans f).keep q5)
       replace s5:=ae.keep ((h.trans f).keep s5)
       have bN:=ae.keep cb
       have bY:=ae.keep cc
       clear hx hy f hr
       obtain⟨x0,x1,x2,x3,x4,x5⟩:=x
       obtain⟨y0,y1,y2,y3,y4,y5⟩:=y
       simp only at*
       obtain⟨b0,j⟩:∃b,(x0.toList==y0.toList)=b:=⟨_,rfl⟩
       cases b0
       ·have B:Hid (Cd.same ⟨x0,x1,x2,x3,x4,x5⟩ ⟨y0,y1,y2,y3,y4,y5⟩=false):=by unfold Hid Cd.same sN;simp[←bc,j]
        have p:Hid (allS Cd.same s.cols t.cols=false):=br O o B
        go_wp2_with fail
        refine ab (by kernel_rfl) (by kernel_rfl) ?_
        repeat (go_big_quiet_step (fail))
        refine wpQuiet_nil ?_
        intro L e
        have l:=ah e
        clear e
        go_wp2_with fail
        go_ret
        exact⟨aa (by rw[←G.out,p.out];simp),h.trans (m.trans l)⟩
       ·obtain⟨b1,E⟩:∃b,(x1==y1)=b:=⟨_,rfl⟩
        cases b1
        ·have B:Hid (Cd.same ⟨x0,x1,x2,x3,x4,x5⟩ ⟨y0,y1,y2,y3,y4,y5⟩=false):=by unfold Hid Cd.same sN;simp[←bc,j,E]
         have p:Hid (allS Cd.same s.cols t.cols=false):=br O o B
         go_wp2_with fail
         refine ab (by kernel_rfl) (by kernel_rfl) ?_
         repeat (go_big_quiet_step (fail))
         refine wpQuiet_nil ?_
         intro L e
         have l:=ah e
         clear e
         go_wp2_with fail
         go_ret
         exact⟨aa (by rw[←G.out,p.out];simp),h.trans (m.trans l)⟩
        ·obtain⟨b2,u⟩:∃b,(x2==y2)=b:=⟨_,rfl⟩
         cases b2
         ·have B:Hid (Cd.same ⟨x0,x1,x2,x3,x4,x5⟩ ⟨y0,y1,y2,y3,y4,y5⟩=false):=by unfold Hid Cd.same sN;simp[←bc,j,E,u]
          have p:Hid (allS Cd.same s.cols t.cols=false):=br O o B
          go_wp2_with fail
          refine ab (by kernel_rfl) (by kernel_rfl) ?_
          repeat (go_big_quiet_step (fail))
          refine wpQuiet_nil ?_
          intro L e
          have l:=ah e
          clear e
          go_wp2_with fail
          go_ret
          exact⟨aa (by rw[←G.out,p.out];simp),h.trans (m.trans l)⟩
         ·obtain⟨b3,a0⟩:∃b,(x3==y3)=b:=⟨_,rfl⟩
          cases b3
          ·have B:Hid (Cd.same ⟨x0,x1,x2,x3,x4,x5⟩ ⟨y0,y1,y2,y3,y4,y5⟩=false):=by unfold Hid Cd.same sN;simp[←bc,j,E,u,a0]
           have p:Hid (allS Cd.same s.cols t.cols=false):=br O o B
           go_wp2_with fail
           refine ab (by kernel_rfl) (by kernel_rfl) ?_
           repeat (go_big_quiet_step (fail))
           refine wpQuiet_nil ?_
           intro L e
           have l:=ah e
           clear e
           go_wp2_with fail
           go_ret
           exact⟨aa (by rw[←G.out,p.out];simp),h.trans (m.trans l)⟩
          ·obtain⟨b4,a4⟩:∃b,(x4==y4)=b:=⟨_,rfl⟩
           cases b4
           ·have B:Hid (Cd.same ⟨x0,x1,x2,x3,x4,x5⟩ ⟨y0,y1,y2,y3,y4,y5⟩=false):=by unfold Hid Cd.same sN;simp[←bc,j,E,u,a0,a4]
            have p:Hid (allS Cd.same s.cols t.cols=false):=br O o B
            go_wp2_with fail
            refine ab (by kernel_rfl) (by kernel_rfl) ?_
            repeat (go_big_quiet_step (fail))
            refine wpQuiet_nil ?_
            intro L e
            have l:=ah e
            clear e
            go_wp2_with fail
            go_ret
            exact⟨aa (by rw[←G.out,p.out];simp),h.trans (m.trans l)⟩
           ·obtain⟨b5,a7⟩:∃b,(x5==y5)=b:=⟨_,rfl⟩
            cases b5
            ·have B:Hid (Cd.same ⟨x0,x1,x2,x3,x4,x5⟩ ⟨y0,y1,y2,y3,y4,y5⟩=false):=by unfold Hid Cd.same sN;simp[←bc,j,E,u,a0,a4,a7]
             have p:Hid (allS Cd.same s.cols t.cols=false):=br O o B
             go_wp2_with fail
             refine ab (by kernel_rfl) (by kernel_rfl) ?_
             repeat (go_big_quiet_step (fail))
             refine wpQuiet_nil ?_
             intro L e
             have l:=ah e
             clear e
             go_wp2_with fail
             go_ret
             exact⟨aa (by rw[←G.out,p.out];simp),h.trans (m.trans l)⟩
            ·have B:Hid (Cd.same ⟨x0,x1,x2,x3,x4,x5⟩ ⟨y0,y1,y2,y3,y4,y5⟩=true):=by unfold Hid Cd.same sN;simp[←bc,j,E,u,a0,a4,a7]
             go_wp2_with fail
             refine ab (by kernel_rfl) (by kernel_rfl) ?_
             repeat (go_big_quiet_step (fail))
             refine wpQuiet_nil ?_
             intro L e
             have l:=ah e
             clear e
             go_wp2_with fail
             go_roundw
             case rel=>exact⟨k+1,by omega,by go_num,H.succ O o B,m.trans l⟩
             case measure=>simp[intOf];omega
      ·obtain ag:k=a.cols.n:=by omega
       subst ag
       have bn:Hid (allS Cd.same s.cols t.cols=true):=dj HS.cols.1 (HT.cols.1.trans P.symm) H
       go_wp2_with fail
       go_loopw [6] (fun iv wr=> ∃(k:Nat),k≤a.keys.n∧iv= .int .i64 k∧STo (allS sN) s.keys t.keys k∧Ext w1 wr) (fun i _=>a.keys.n- (intOf i).toNat)
       case atStart=>exact⟨0,Nat.zero_le _,rfl,STo.zero _ _ _,m⟩
       case round=>
        obtain⟨k,be,rfl,hr,f⟩:=hrel
        have m:=hid f
        have H:=hid hr
        have cb:=(HB.ext f).cell 1
        have cc:=(HC.ext f).cell 1
        simp only[List.getElem?_cons_succ,List.getElem?_cons_zero]at cb cc
        by_cases an:k<a.keys.n
        ·obtain⟨x,hx⟩:=aq HS.keys.1 an
         obtain⟨y,hy⟩:=aq HT.keys.1 (show k<b.keys.n by have:=P.out;have:=Q.out;have:=U.out;omega)
         have i0:(0:Int)≤(k:Int):=by omega
         have i1:(k:Int)<(a.keys.n:Int):=by omega
         have i2:(k:Int)<(b.keys.n:Int):=by have:=P.out;have:=Q.out;have:=U.out;omega
         have O:=hid hx
         have o:=hid hy
         obtain⟨eb,ad,Ai,ni,ci,Z,q0,bf,b6,ba⟩:=HS.keys.2.2 k x hx
         obtain⟨Y,F,Aj,nj,cj,ac,s0,bm,b7,bd⟩:=HT.keys.2.2 k y hy
         rw[Z]at cb
         rw[ac]at cc
         replace q0:=ae.keep ((h.trans f).keep q0)
         replace s0:=ae.keep ((h.trans f).keep s0)
         have bN:=ae.keep cb
         have bY:=ae.keep cc
         have H1:Hid (∀z:ae wr,Calls Tryz.prog 76 #[.slice Ai ni ci,.slice Aj nj cj] z.now _):=fun z=>jY x y Ai Aj ni nj ci cj z.now bf bm b6 b7 (ba.ext ((h.trans f).trans z.ext)) (bd.ext ((h.trans f).trans z.ext))
         clear hx hy f hr bf bm ba bd
         obtain⟨b0,j⟩:∃b,(allS sN x y)=b:=⟨_,rfl⟩
         rw[j]at H1
         cases b0
         ·have B:Hid (allS sN x y=false):=by exact j
          have p:Hid (allS (allS sN) s.keys t.keys=false):=br O o B
          go_wp2_with fail
          refine ab (by kernel_rfl) (by kernel_rfl) ?_
          repeat (go_big_quiet_step ((go_at_call 76;with_reducible exact ak (H1.out _))))
          refine wpQuiet_nil ?_
          intro L e
          have l:=ah e
          clear e
          go_wp2_with fail
          go_ret
          exact⟨aa (by rw[←G.out,p.out];simp),h.trans (m.trans l)⟩
         ·have B:Hid (allS sN x y=true):=by exact j
          go_wp2_with fail
          refine ab (by kernel_rfl) (by kernel_rfl) ?_
          repeat (go_big_quiet_step ((go_at_call 76;with_reducible exact ak (H1.out _))))
          refine wpQuiet_nil ?_
          intro L e
          have l:=ah e
          clear e
          go_wp2_with fail
          go_roundw
          case rel=>exact⟨k+1,by omega,by go_num,H.succ O o B,m.trans l⟩
          case measure=>simp[intOf];omega
        ·obtain ag:k=a.keys.n:=by omega
         subst ag
         have bx:Hid (allS (allS sN) s.keys t.keys=true):=dj HS.keys.1 (HT.keys.1.trans Q.symm) H
         go_wp2_with fail
         go_loopw [7] (fun iv wr=> ∃(k:Nat),k≤a.frs.n∧iv= .int .i64 k∧STo Rf.same s.frs t.frs k∧Ext w1 wr) (fun i _=>a.frs.n- (intOf i).toNat)
         case atStart=>exact⟨0,Nat.zero_le _,rfl,STo.zero _ _ _,m⟩
         case round=>
          obtain⟨k,be,rfl,hr,f⟩:=hrel
          have m:=hid f
          have H:=hid hr
          have cb:=(HB.ext f).cell 2
          have cc:=(HC.ext f).cell 2
          simp only[List.getElem?_cons_succ,List.getElem?_cons_zero]at cb cc
          by_cases an:k<a.frs.n
          ·obtain⟨x,hx⟩:=aq HS.frs.1 an
           obtain⟨y,hy⟩:=aq HT.frs.1 (show k<b.frs.n by have:=P.out;have:=Q.out;have:=U.out;omega)
           have i0:(0:Int)≤(k:Int):=by omega
           have i1:(k:Int)<(a.frs.n:Int):=by omega
           have i2:(k:Int)<(b.frs.n:Int):=by have:=P.out;have:=Q.out;have:=U.out;omega
           have O:=hid hx
           have o:=hid hy
           obtain⟨_,eb,ad,A1,n1,c1,A2,n2,c2,Z,q0,q1,q2,g1,g3,g4,g5,g6,g7⟩:=HS.frs.2.2 k x hx
           obtain⟨_,Y,F,B1,m1,J,B2,m2,K,ac,s0,s1,s2,h1,h3,h4,h5,h6,h7⟩:=HT.frs.2.2 k y hy
           rw[Z]at cb
           rw[ac]at cc
           replace q0:=(h.trans f).keep q0
           replace s0:=(h.trans f).keep s0
           replace q1:=(h.trans f).keep q1
           replace s1:=(h.trans f).keep s1
           replace q2:=(h.trans f).keep q2
           replace s2:=(h.trans f).keep s2
           have H1:=hid (fun W (hW:Ext w W)=>jY x.cs y.cs A1 B1 n1 m1 c1 J W g1 h1 g3 h3 (g4.ext hW) (h4.ext hW))
           have H2:=hid (fun W (hW:Ext w W)=>jY x.tg y.tg A2 B2 n2 m2 c2 K W g5 h5 g6 h6 (g7.ext hW) (h7.ext hW))
           clear hx hy f hr g1 g4 g5 g7 h1 h4 h5 h7 Z ac
           go_upto_region 16 with fail
           go_cut [8,9] from 80 to 117 (fun u8 u9 wx=> ∃ga gb,u8= .pointer (some ⟨ga,0,none⟩)∧u9= .pointer (some ⟨gb,0,none⟩)∧Blk wx ga 103 [.slice A1 n1 c1,.string x.tb,.slice A2 n2 c2]∧Blk wx gb 103 [.slice B1 m1 J,.string y.tb,.slice B2 m2 K]∧Ext wr wx)
           case first=>
            go_region_held3 (fun w'=>w'.cell? ⟨g,2,none⟩=some (.slice (some ⟨eb,ad,none⟩) a.frs.n a.frs.c)∧w'.cell? ⟨g2,2,none⟩=some (.slice (some ⟨Y,F,none⟩) b.frs.n b.frs.c)∧w'.cell? ⟨eb,ad+k*3,none⟩=some (.slice A1 n1 c1)∧w'.cell? ⟨eb,ad+k*3+1,none⟩=some (.string x.tb)∧w'.cell? ⟨eb,ad+k*3+2,none⟩=some (.slice A2 n2 c2)∧w'.cell? ⟨Y,F+k*3,none⟩=some (.slice B1 m1 J)∧w'.cell? ⟨Y,F+k*3+1,none⟩=some (.string y.tb)∧w'.cell? ⟨Y,F+k*3+2,none⟩=some (.slice B2 m2 K))
             (first|go_keep)
             (first|fail)
            ·have hb:=Blk.of_new (wr.alloc (.cells #[.slice A1 n1 c1,.string x.tb,.slice A2 n2 c2] 103)) 103 [.slice B1 m1 J,.string y.tb,.slice B2 m2 K]
             rw[show(wr.alloc (.cells #[.slice A1 n1 c1,.string x.tb,.slice A2 n2 c2] 103)).heap.size=wr.heap.size+1 by simp]at hb
             go_wp2_with fail
             go_meet
             exact⟨_,_,rfl,rfl,((Blk.of_new wr 103 [.slice A1 n1 c1,.string x.tb,.slice A2 n2 c2]).ext ((Ext.refl _).alloc _)).drew,hb.drew,(((Ext.refl wr).alloc _).alloc _).drew⟩
            ·have hb:=Blk.of_new (wr.alloc (.cells #[.slice B1 m1 J,.string y.tb,.slice B2 m2 K] 103)) 103 [.slice A1 n1 c1,.string x.tb,.slice A2 n2 c2]
             rw[show(wr.alloc (.cells #[.slice B1 m1 J,.string y.tb,.slice B2 m2 K] 103)).heap.size=wr.heap.size+1 by simp]at hb
             go_wp2_with fail
             go_meet
             exact⟨_,_,rfl,rfl,hb.drew,((Blk.of_new wr 103 [.slice B1 m1 J,.string y.tb,.slice B2 m2 K]).ext ((Ext.refl _).alloc _)).drew,(((Ext.refl wr).alloc _).alloc _).drew⟩
           case rest=>
            obtain⟨ga,gb,rfl,rfl,a8,a9,a5⟩:=hcut
            generalize wc=we at*
            have V:=hid (m.trans a5)
            have I:=hid (h.trans (m.trans a5))
            have C:=hid a8
            have D:=hid a9
            clear a5 a8 a9 q0 q1 q2 s0 s1 s2 cb cc
            have d0:=(C).cell 0
            have e0:=(D).cell 0
            simp only[List.getElem?_cons_succ,List.getElem?_cons_zero]at d0 e0
            have J:=(C).cell 1
            have e1:=(D).cell 1
            simp only[List.getElem?_cons_succ,List.getElem?_cons_zero]at J e1
            have K:=(C).cell 2
            have e2:=(D).cell 2
            simp only[List.getElem?_cons_succ,List.getElem?_cons_zero]at K e2
            obtain⟨b0,j⟩:∃b,(allS sN x.cs y.cs)=b:=⟨_,rfl⟩
            rw[j]at H1
            cases b0
            ·have B:Hid (Rf.same x y=false):=by unfold Hid Rf.same;rw[jf x.tb];simp[←bc,j]
             have p:Hid (allS Rf.same s.frs t.frs=false):=br O o B
             go_wp2_with (first|(go_at_call 76;(with_reducible refine(H2.out _ ((I.out).trans e)).mono ?_);rintro _ w3 ⟨rfl,X⟩)|(go_at_call 76;(with_reducible refine(H1.out _ I.out).mono ?_);rintro _ L ⟨rfl,e⟩;have J:=(C.ext (e)).cell 1;have e1:=(D.ext (e)).cell 1;simp only[List.getElem?_cons_succ,List.getElem?_cons_zero]at J e1;have K:=(C.ext (e)).cell 2;have e2:=(D.ext (e)).cell 2;simp only[List.getElem?_cons_succ,List.getElem?_cons_zero]at K e2))
             go_wp2_with fail
             go_ret
             first|exact⟨aa (by rw[←G.out,p.out];simp),h.trans (V.trans (e.trans X))⟩|exact⟨aa (by rw[←G.out,p.out];simp),h.trans (V.trans e)⟩
            ·obtain⟨b1,E⟩:∃b,(x.tb.toList==y.tb.toList)=b:=⟨_,rfl⟩
             have n1:(x.tb.toList !=y.tb.toList)=!b1:=by rw[bne,E]
             cases b1
             ·have B:Hid (Rf.same x y=false):=by unfold Hid Rf.same;rw[jf x.tb];simp[←bc,j,E]
              have p:Hid (allS Rf.same s.frs t.frs=false):=br O o B
              go_wp2_with (first|(go_at_call 76;(with_reducible refine(H2.out _ ((I.out).trans e)).mono ?_);rintro _ w3 ⟨rfl,X⟩)|(go_at_call 76;(with_reducible refine(H1.out _ I.out).mono ?_);rintro _ L ⟨rfl,e⟩;have J:=(C.ext (e)).cell 1;have e1:=(D.ext (e)).cell 1;simp only[List.getElem?_cons_succ,List.getElem?_cons_zero]at J e1;have K:=(C.ext (e)).cell 2;have e2:=(D.ext (e)).cell 2;simp only[List.getElem?_cons_succ,List.getElem?_cons_zero]at K e2))
              go_wp2_with fail
              go_ret
              first|exact⟨aa (by rw[←G.out,p.out];simp),h.trans (V.trans (e.trans X))⟩|exact⟨aa (by rw[←G.out,p.out];simp),h.trans (V.trans e)⟩
             ·obtain⟨b2,u⟩:∃b,(allS sN x.tg y.tg)=b:=⟨_,rfl⟩
              rw[u]at H2
              cases b2
              ·have B:Hid (Rf.same x y=false):=by unfold Hid Rf.same;rw[jf x.tb];simp[←bc,j,E,u]
               have p:Hid (allS Rf.same s.frs t.frs=false):=br O o B
               go_wp2_with (first|(go_at_call 76;(with_reducible refine(H2.out _ ((I.out).trans e)).mono ?_);rintro _ w3 ⟨rfl,X⟩)|(go_at_call 76;(with_reducible refine(H1.out _ I.out).mono ?_);rintro _ L ⟨rfl,e⟩;have J:=(C.ext (e)).cell 1;have e1:=(D.ext (e)).cell 1;simp only[List.getElem?_cons_succ,List.getElem?_cons_zero]at J e1;have K:=(C.ext (e)).cell 2;have e2:=(D.ext (e)).cell 2;simp only[List.getElem?_cons_succ,List.getElem?_cons_zero]at K e2))
               go_wp2_with fail
               go_ret
               first|exact⟨aa (by rw[←G.out,p.out];simp),h.trans (V.trans (e.trans X))⟩|exact⟨aa (by rw[←G.out,p.out];simp),h.trans (V.trans e)⟩
              ·have B:Hid (Rf.same x y=true):=by unfold Hid Rf.same;rw[jf x.tb];simp[←bc,j,E,u]
               go_wp2_with (first|(go_at_call 76;(with_reducible refine(H2.out _ ((I.out).trans e)).mono ?_);rintro _ w3 ⟨rfl,X⟩)|(go_at_call 76;(with_reducible refine(H1.out _ I.out).mono ?_);rintro _ L ⟨rfl,e⟩;have J:=(C.ext (e)).cell 1;have e1:=(D.ext (e)).cell 1;simp only[List.getElem?_cons_succ,List.getElem?_cons_zero]at J e1;have K:=(C.ext (e)).cell 2;have e2:=(D.ext (e)).cell 2;simp only[List.getElem?_cons_succ,List.getElem?_cons_zero]at K e2))
               go_wp2_with fail
               go_roundw
               case rel=>exact⟨k+1,by omega,by go_num,H.succ O o B,V.trans (e.trans X)⟩
               case measure=>simp[intOf];omega
          ·obtain ag:k=a.frs.n:=by omega
           subst ag
           have bw:Hid (allS Rf.same s.frs t.frs=true):=dj HS.frs.1 (HT.frs.1.trans U.symm) H
           go_wp2_with fail
           go_ret
           exact⟨aa (by rw[←G.out,bn.out,bx.out,bw.out];rfl),h.trans m⟩
   ·have e3:((a.frs.n:Int) !=(b.frs.n:Int))=true:=by simp;omega
    have p:Hid (allS Rf.same s.frs t.frs=false):=di (by rw[HS.out.frs.1,HT.out.frs.1];exact a3)
    go_wp2_with (go_at_call 37;(with_reducible refine(H0.out _ h.out).mono ?_);rintro _ L ⟨rfl,e⟩)
    go_ret
    exact⟨aa (by rw[←G.out,p.out];simp),h⟩
  ·have e2:((a.keys.n:Int) !=(b.keys.n:Int))=true:=by simp;omega
   have p:Hid (allS (allS sN) s.keys t.keys=false):=di (by rw[HS.out.keys.1,HT.out.keys.1];exact a2)
   go_wp2_with (go_at_call 37;(with_reducible refine(H0.out _ h.out).mono ?_);rintro _ L ⟨rfl,e⟩)
   go_ret
   exact⟨aa (by rw[←G.out,p.out];simp),h⟩
 ·have e1:((a.cols.n:Int) !=(b.cols.n:Int))=true:=by simp;omega
  have p:Hid (allS Cd.same s.cols t.cols=false):=di (by rw[HS.out.cols.1,HT.out.cols.1];exact a1)
  go_wp2_with (go_at_call 37;(with_reducible refine(H0.out _ h.out).mono ?_);rintro _ L ⟨rfl,e⟩)
  go_ret
  exact⟨aa (by rw[←G.out,p.out];simp),h⟩
end Go.Proofs.YtjigcpfjhfoheaaGreatDoor
