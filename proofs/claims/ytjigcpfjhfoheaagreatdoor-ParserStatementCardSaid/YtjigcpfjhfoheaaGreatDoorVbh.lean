/- General lemmas on worlds, strings and slices, over any program; Plain functions on expressions; no program in sight; General laws: append onto a row of the call's own, the old row kept; a set of strings kept in a map to bool; Walk. -/
import Derived.WalkKit
import Derived.WalkSpells
import Derived.WalkLawsBesides
import Derived.Laws.IdiomStrings
import Derived.Laws.BitsAllLaws
import Derived.Deep.QuietTactic
import Derived.BigQuiet
import Derived.Lib.Strings
import Derived.Deep.RegionWith
import Derived.Deep.DeepMust
import Derived.Deep.DeepFit
import Derived.Deep.LoopGhost
import Derived.Deep.RegionHeld3
import Derived.Laws.BytesArg
import Derived.OwnWalk
import Derived.Maps.AppendAt
import Derived.Maps.Own
import Derived.Maps.OwnOps
import Derived.Maps.Views
import Derived.Deep.RegionLaw
import Derived.Test.YtjigcpfjhfoheaaGreatDoorVah
import Derived.BigRegion
namespace Go.Proofs.YtjigcpfjhfoheaaGreatDoor
open Go.RowKit List Go.Proofs.Tryz
set_option maxHeartbeats 4000000
set_option maxRecDepth 100000
set_option linter.unusedVariables false
set_option linter.unusedSimpArgs false
section
section
variable {w w':World} {g:Nat} {t:TypeId} {cs:LV}
theorem Blk.far (h:Blk w g t cs) {p:Addr} (a:g≠p.block) (u:Value):Blk (w.setCell p u) g t cs:=(Below.heap_setCell w p u g a).trans h
end
end
theorem kS (e:Ex):e.same e=true:=by
 induction e using Ex.ind with
 |h d ks ih=>
  rw[Ex.same,Bool.and_eq_true,kr]
  refine⟨by simp[Nd.same],rfl,fun i x y a b=>?_⟩
  obtain rfl:=Option.some.inj (a.symm.trans b)
  exact ih x (mem_of_getElem? a)
section
section
variable {P:Program} {w w':World} {k e M n:Nat} {mem:List UInt8→Bool}
theorem du.far (h:du w P k e M n mem) {p:Addr} (a:M≠p.block) (u:Value):du (w.setCell p u) P k e M n mem:=
 h.kept (row:=some p.block) ⟨rfl,rfl,rfl,by simp[World.setCell],fun i _ hi=>Below.heap_setCell w p u i (fun e=>hi (by rw[e]))⟩ (by simpa using a)
end
end
theorem rH (l m:List Ex) (A B:OA) (n p c c':Nat) (w:World) (hl:l.length=n) (hm:m.length=p) (hn:n≤9223372036854775807) (hp:p≤9223372036854775807) (hk:KidsAt w A l) (H:KidsAt w B m)
  (hF:∀x∈l,∀(y:Ex) (A1 D:OA) (n1 J c1 c2:Nat) (W:World),ExV W x A1 n1 c1→ExV W y D J c2→Cl 19 #[x.d.val A1 n1 c1,y.d.val D J c2] W fun r W'=>r= .returned (.bool (x.same y))∧Ext W W'):
  Cl 37 #[.slice A n c,.slice B p c'] w (Rt (.bool (sameL l m)) w):=by
 have HL:=hid hl
 have HM:=hid hm
 have HK:=hid hk
 have ac:=hid H
 have HF:=hid hF
 clear hl hm hk H hF
 by_cases o:n=p
 ·subst o
  have bN:((n:Int) !=(n:Int))=false:=by simp
  go_enter func37,ntmps37
  go_wp2_with fail
  go_loopw [5] (fun iv wr=> ∃(k:Nat),k≤n∧iv= i4 k∧gH l m k∧Ext w wr) (fun i _=>n- (intOf i).toNat)
  case atStart=>exact⟨0,Nat.zero_le _,rfl,gH.zero l m,Ext.refl w⟩
  case round=>
   obtain⟨k,an,rfl,hr,f⟩:=hrel
   have j:=hid f
   have F:=hid hr
   by_cases I:k<n
   ·obtain⟨x,K⟩:=fd HL I
    obtain⟨y,hy⟩:=fd HM I
    obtain⟨b,ax,A',n',c',rfl,L,O,Q,R,U,V,X,Y,hv⟩:=(HK.ext f).get K
    obtain⟨b2,ad,D,J,c2,rfl,Z,s1,s2,s3,s4,s5,s6,s7,u⟩:=(ac.ext f).get hy
    have HV:=hid hv
    have ag:=hid u
    have i0:(0:Int)≤(k:Int):=by omega
    have i1:(k:Int)<(n:Int):=by omega
    have HC:Hid (∀z:ai wr,Cl 19 #[x.d.val A' n' c',y.d.val D J c2] z.now fun r W'=>r= .returned (.bool (x.same y))∧Ext z.now W'):=
     fun z=>HF x (gG K) y A' D n' J c' c2 z.now (hv.ext z.ext) (u.ext z.ext)
    have HE:=hid K
    have E:=hid hy
    obtain⟨sb,s⟩:∃sb,x.same y=sb:=⟨_,rfl⟩
    have G:=hid s
    rw[s]at HC
    replace L:=ai.keep L
    replace O:=ai.keep O
    replace Q:=ai.keep Q
    replace R:=ai.keep R
    replace U:=ai.keep U
    replace V:=ai.keep V
    replace X:=ai.keep X
    replace Y:=ai.keep Y
    replace Z:=ai.keep Z
    replace s1:=ai.keep s1
    replace s2:=ai.keep s2
    replace s3:=ai.keep s3
    replace s4:=ai.keep s4
    replace s5:=ai.keep s5
    replace s6:=ai.keep s6
    replace s7:=ai.keep s7
    clear K hy hv u f hr s
    cases sb
    ·have h:Hid (sameL l m=false):=same_no HE E G
     go_wp2_with fail
     refine af (by kernel_rfl) (by kernel_rfl) ?_
     repeat (go_big_quiet_step ((go_at_call 19;exact aq (HC _))))
     refine wpQuiet_nil ?_
     intro w2 a
     have C:=am a
     clear a L O Q R U V X Y Z s1 s2 s3 s4 s5 s6 s7
     go_wp2_with fail
     go_ret
     exact⟨aa h.symm,j.trans C⟩
    ·have h:=hid (F.step HE E G)
     go_wp2_with fail
     refine af (by kernel_rfl) (by kernel_rfl) ?_
     repeat (go_big_quiet_step ((go_at_call 19;exact aq (HC _))))
     refine wpQuiet_nil ?_
     intro w2 a
     have C:=am a
     clear a L O Q R U V X Y Z s1 s2 s3 s4 s5 s6 s7
     go_wp2_with fail
     go_roundw
     case rel=>exact⟨k+1,by omega,by go_num,h,j.trans C⟩
     case measure=>simp[intOf];omega
   ·obtain rfl:k=n:=by omega
    have h:=hid (F.done HL HM)
    clear hr
    go_wp2_with fail
    go_ret
    exact⟨aa h.symm,j⟩
 ·have bN:((n:Int) !=(p:Int))=true:=by simp;omega
  have h:Hid (sameL l m=false):=uE (by rw[HL.out,HM.out];exact o)
  clear o
  go_enter func37,ntmps37
  go_wp2_with fail
  go_ret
  exact⟨aa h.symm,Ext.refl w⟩
theorem kT:∀(a:Ex) (b:Ex) (A B:OA) (n p c c':Nat) (w:World),ExV w a A n c→ExV w b B p c'→
  Cl 19 #[a.d.val A n c,b.d.val B p c'] w (Rt (.bool (a.same b)) w):=by
 intro a
 induction a using Ex.ind with
 |h d ks ih=>
  intro b A B n p c c' w Q i
  obtain⟨m,f⟩:=b
  obtain⟨E,F,O,l⟩:=Q
  obtain⟨C,D,L,j⟩:=i
  have l:KidsAt w A ks:=l
  have j:KidsAt w B f:=j
  have z:=hid (rg d m ks f)
  obtain⟨S,o⟩:∃S,sameL ks f=S:=⟨_,rfl⟩
  have J:Hid (∀W,Ext w W→Cl 37 #[.slice A n c,.slice B p c'] W (Rt (.bool S) W)):=by
   intro W G
   rw[←o]
   exact rH ks f A B n p c c' W E C F D (l.ext G) (j.ext G) fun x U y H I X Y c1 c2 K s i=>ih x U y H I X Y c1 c2 K s i
  rw[o]at z
  clear o E C F D O L l j ih
  generalize (Ex.mk d ks).same (Ex.mk m f)=R at*
  unfold Nd.val
  simp only[Ex.d]
  obtain⟨op,tb,nm,ix,vk,vi,vt⟩:=d
  obtain⟨ac,ad,Z,V,an,ag,ax⟩:=m
  simp only at*
  go_enter func19,ntmps19
  go_wp2_with (go_at_call 37;refine(J _ ((x10 w _).alloc _)).mono ?_;rintro _ w2 ⟨rfl,u⟩)
  all_goals
   go_ret
   refine⟨aa (by rw[z.out];simp[*]),?_⟩
   first|exact((x10 w _).alloc _).trans u|exact(x10 w _).alloc _
def Same (lo hi:Nat) (skip:Option Nat) (w w2:World):Prop:=∀b,lo≤b→b<hi→some b≠skip→w2.heap[b]? =w.heap[b]?
theorem rall_len (s:St):s.rall.length=s.all.length:=by
 unfold St.rall St.all
 simp only[length_append]
 omega
theorem qn {α:Type} (f:α→α→Bool):∀(a b:List α),allS f a b=true↔a.length=b.length∧∀(i:Nat) (x y:α),a[i]? =some x→b[i]? =some y→f x y=true:=by
 intro a
 induction a with
 |nil=>intro b;cases b<;>simp[allS]
 |cons e a ih=>
  intro b
  cases b with
  |nil=>simp[allS]
  |cons g b=>
   rw[allS,Bool.and_eq_true,ih]
   constructor
   ·rintro⟨o,m,l⟩
    refine⟨by simp[m],fun i x y h j=>?_⟩
    cases i with
    |zero=>simp at h j;subst h j;exact o
    |succ i=>exact l i x y (by simpa using h) (by simpa using j)
   ·rintro⟨m,l⟩
    exact⟨l 0 e g rfl rfl,by simpa using m,fun i x y h j=>l (i+1) x y (by simpa using h) (by simpa using j)⟩
theorem STo.succ {α:Type} {f:α→α→Bool} {l m:List α} {k:Nat} {x y:α} (h:STo f l m k) (p:l[k]? =some x) (r:m[k]? =some y) (o:f x y=true):STo f l m (k+1):=by
 intro i hi s u a b
 by_cases j:i=k
 ·subst j
  obtain rfl:=Option.some.inj (p.symm.trans a)
  obtain rfl:=Option.some.inj (r.symm.trans b)
  exact o
 ·exact h i (by omega) s u a b
theorem bS {α:Type} {f:α→α→Bool} {l m:List α} {k:Nat} {x y:α} (b:l[k]? =some x) (i:m[k]? =some y) (a:f x y=false):allS f l m=false:=by
 cases h:allS f l m with
 |false=>rfl
 |true=>
  have:=((qn f l m).1 h).2 k x y b i
  rw[a]at this
  cases this
theorem eT {α:Type} {f:α→α→Bool} {l m:List α} (h:l.length≠m.length):allS f l m=false:=by
 cases a:allS f l m with
 |false=>rfl
 |true=>exact absurd ((qn f l m).1 a).1 h
theorem eV {α:Type} {f:α→α→Bool} {l m:List α} {n:Nat} (j:l.length=n) (o:m.length=n) (h:STo f l m n):allS f l m=true:=by
 rw[qn]
 exact⟨by omega,fun i x y a b=>h i (by have:=(List.getElem?_eq_some_iff.1 a).1;omega) x y a b⟩
theorem xa (l m:List Ex):allS Ex.same l m=sameL l m:=by
 induction l generalizing m with
 |nil=>cases m<;>rfl
 |cons a l ih=>
  cases m with
  |nil=>rfl
  |cons b m=>rw[allS,sameL,ih]
theorem cW {α:Type} {f:α→α→Bool} (h:∀x,f x x=true) (l:List α):allS f l l=true:=by
 induction l with
 |nil=>rfl
 |cons a l ih=>rw[allS,h,ih];rfl
theorem jk (a:BA):sN a a=true:=by simp[sN]
theorem src_refl (a:Src):a.same a=true:=by unfold Src.same;simp[jk]
theorem ord_refl (a:Ord'):a.same a=true:=by unfold Ord'.same;simp
theorem cd_refl (a:Cd):a.same a=true:=by unfold Cd.same;simp[jk]
theorem rf_refl (a:Rf):a.same a=true:=by unfold Rf.same;simp[jk,cW jk]
theorem asg_refl (a:Asg):a.same a=true:=by unfold Asg.same;simp[jk,kS]
theorem itm_refl (a:Itm):a.same a=true:=by unfold Itm.same;simp[kS]
theorem qo (l:List Ex):sameL l l=true:=by rw[←xa];exact cW kS l
theorem st_refl (a:St):a.same a=true:=by
 unfold St.same St.sb SB.all
 simp[jk,kS,qo,cW src_refl,cW ord_refl,cW qo,cW asg_refl,cW itm_refl,cW cd_refl,cW (cW jk),cW rf_refl]
theorem lL (l m:List Ex) (A B:OA) (n p c c':Nat) (w:World) (s:l.length=n) (u:m.length=p) (z:n≤9223372036854775807) (C:p≤9223372036854775807) (o:KidsAt w A l) (a:KidsAt w B m):
  Cl 37 #[.slice A n c,.slice B p c'] w (Rt (.bool (sameL l m)) w):=
 rH l m A B n p c c' w s u z C o a fun x F y h i D E c1 c2 j b f=>kT x y h i D E c1 c2 j b f
theorem mC (a b:BA):sN a b=(a.toList==b.toList):=by unfold sN;rw[bz]
theorem nU (l m:List BA) (A B:OA) (n p c c':Nat) (w:World) (V:l.length=n) (W:m.length=p) (hn:n≤9223372036854775807) (hp:p≤9223372036854775807) (U:bi w A l) (C:bi w B m):
  Cl 76 #[.slice A n c,.slice B p c'] w (Rt (.bool (allS sN l m)) w):=by
 have H:=hid V
 have I:=hid W
 have HK:=hid U
 have G:=hid C
 clear V W U C
 obtain⟨R,K⟩:∃R,allS sN l m=R:=⟨_,rfl⟩
 have J:=hid K
 rw[K]
 clear K
 by_cases E:n=p
 ·subst E
  have bN:((n:Int) !=(n:Int))=false:=by simp
  go_enter func76,ntmps76
  go_wp2_with fail
  go_loopw [5] (fun iv wr=> ∃(k:Nat),k≤n∧iv= i4 k∧STo sN l m k∧Ext w wr) (fun i _=>n- (intOf i).toNat)
  case atStart=>exact⟨0,Nat.zero_le _,rfl,STo.zero _ l m,Ext.refl w⟩
  case round=>
   obtain⟨k,ac,rfl,X,f⟩:=hrel
   have h:=hid f
   have u:=hid X
   by_cases D:k<n
   ·obtain⟨x,L⟩:=aC H D
    obtain⟨y,O⟩:=aC I D
    obtain⟨_,b,ad,rfl,Z⟩:=(HK.ext f) k x L
    obtain⟨_,b2,Y,rfl,s0⟩:=(G.ext f) k y O
    have i0:(0:Int)≤(k:Int):=by omega
    have i1:(k:Int)<(n:Int):=by omega
    have Q:=hid L
    have o:=hid O
    replace Z:=ai.keep Z
    replace s0:=ai.keep s0
    clear L O f X
    obtain⟨b0,z⟩:∃b,(x.toList==y.toList)=b:=⟨_,rfl⟩
    cases b0
    ·have F:Hid (sN x y=false):=by unfold Hid sN;simp[←bz,z]
     have s:Hid (allS sN l m=false):=bS Q o F
     go_wp2_with fail
     refine af (by kernel_rfl) (by kernel_rfl) ?_
     repeat (go_big_quiet_step (fail))
     refine wpQuiet_nil ?_
     intro w2 a
     have j:=am a
     clear a
     go_wp2_with fail
     go_ret
     exact⟨aa (by rw[←J.out,s.out]),h.trans j⟩
    ·have F:Hid (sN x y=true):=by unfold Hid sN;simp[←bz,z]
     go_wp2_with fail
     refine af (by kernel_rfl) (by kernel_rfl) ?_
     repeat (go_big_quiet_step (fail))
     refine wpQuiet_nil ?_
     intro w2 a
     have j:=am a
     clear a
     go_wp2_with fail
     go_roundw
     case rel=>exact⟨k+1,by omega,by go_num,u.succ Q o F,h.trans j⟩
     case measure=>simp[intOf];omega
   ·obtain rfl:k=n:=by omega
    have s:Hid (allS sN l m=true):=eV H I u
    go_wp2_with fail
    go_ret
    exact⟨aa (by rw[←J.out,s.out]),h⟩
 ·have bN:((n:Int) !=(p:Int))=true:=by simp;omega
  have s:Hid (allS sN l m=false):=eT (by rw[H.out,I.out];exact E)
  go_enter func76,ntmps76
  go_wp2_with fail
  go_ret
  exact⟨aa (by rw[←J.out,s.out]),Ext.refl w⟩
theorem rdef_any (s t:St) (a b:SA) (w:World) (hv:StV w s a) (a0:StV w t b):
  Cl 36 #[.agg #[.slice a.cols.A a.cols.n a.cols.c,.slice a.keys.A a.keys.n a.keys.c,.slice a.frs.A a.frs.n a.frs.c,.slice a.chk.A a.chk.n a.chk.c],.agg #[.slice b.cols.A b.cols.n b.cols.c,.slice b.keys.A b.keys.n b.keys.c,.slice b.frs.A b.frs.n b.frs.c,.slice b.chk.A b.chk.n b.chk.c]] w (Rt (.bool (allS Cd.same s.cols t.cols&&allS (allS sN) s.keys t.keys&&allS Rf.same s.frs t.frs&&sameL s.chk t.chk)) w):=by
 have HS:=hid hv
 have HT:=hid a0
 have H0:=hid (fun W (hW:Ext w W)=>lL s.chk t.chk a.chk.A b.chk.A a.chk.n b.chk.n a.chk.c b.chk.c W hv.chk.1 a0.chk.1 hv.chk.2.1 a0.chk.2.1 (hv.chk.2.2.ext hW) (a0.chk.2.2.ext hW))
 have HB:=hid ((Blk.of_new w 29 [.slice a.cols.A a.cols.n a.cols.c,.slice a.keys.A a.keys.n a.keys.c,.slice a.frs.A a.frs.n a.frs.c,.slice a.chk.A a.chk.n a.chk.c]).ext (x10 _ (.cells #[.slice b.cols.A b.cols.n b.cols.c,.slice b.keys.A b.keys.n b.keys.c,.slice b.frs.A b.frs.n b.frs.c,.slice b.chk.A b.chk.n b.chk.c] 29)))
 have B:=Blk.of_new (w.alloc (.cells #[.slice a.cols.A a.cols.n a.cols.c,.slice a.keys.A a.keys.n a.keys.c,.slice a.frs.A a.frs.n a.frs.c,.slice a.chk.A a.chk.n a.chk.c] 29)) 29 [.slice b.cols.A b.cols.n b.cols.c,.slice b.keys.A b.keys.n b.keys.c,.slice b.frs.A b.frs.n b.frs.c,.slice b.chk.A b.chk.n b.chk.c]
 have j:=hid ((x10 w (.cells #[.slice a.cols.A a.cols.n a.cols.c,.slice a.keys.A a.keys.n a.keys.c,.slice a.frs.A a.frs.n a.frs.c,.slice a.chk.A a.chk.n a.chk.c] 29)).alloc (.cells #[.slice b.cols.A b.cols.n b.cols.c,.slice b.keys.A b.keys.n b.keys.c,.slice b.frs.A b.frs.n b.frs.c,.slice b.chk.A b.chk.n b.chk.c] 29))
 rw[show(w.alloc (.cells #[.slice a.cols.A a.cols.n a.cols.c,.slice a.keys.A a.keys.n a.keys.c,.slice a.frs.A a.frs.n a.frs.c,.slice a.chk.A a.chk.n a.chk.c] 29)).heap.size=w.heap.size+1 by simp]at B
 have HC:=hid B
 have m1:=hv.cols.2.1
 have m2:=hv.keys.2.1
 have m3:=hv.frs.2.1
 clear B hv a0
 generalize sameL s.chk t.chk=a7 at*
 obtain⟨R,hR⟩:∃R,(allS Cd.same s.cols t.cols&&allS (allS sN) s.keys t.keys&&allS Rf.same s.frs t.frs&&a7)=R:=⟨_,rfl⟩
 rw[hR]
 have H:=hid hR
 clear hR
 go_enter func36,ntmps36
 go_upto_region 1 with fail
 generalize (w.alloc (.cells #[.slice a.cols.A a.cols.n a.cols.c,.slice a.keys.A a.keys.n a.keys.c,.slice a.frs.A a.frs.n a.frs.c,.slice a.chk.A a.chk.n a.chk.c] 29)).alloc (.cells #[.slice b.cols.A b.cols.n b.cols.c,.slice b.keys.A b.keys.n b.keys.c,.slice b.frs.A b.frs.n b.frs.c,.slice b.chk.A b.chk.n b.chk.c] 29)=w1 at*
 generalize w.heap.size+1=g2 at*
 generalize w.heap.size=g at*
 have p0:=HB.cell 0
 have q0:=HC.cell 0
 have p1:=HB.cell 1
 have q1:=HC.cell 1
 have p2:=HB.cell 2
 have q2:=HC.cell 2
 have p3:=HB.cell 3
 have q3:=HC.cell 3
 simp only[g10,g11]at p0 p1 p2 p3 q0 q1 q2 q3
 by_cases a2:a.cols.n=b.cols.n
 ·have e1:((a.cols.n:Int) !=(b.cols.n:Int))=false:=by simp[a2]
  have U:=hid a2
  clear a2
  by_cases a3:a.keys.n=b.keys.n
  ·have e2:((a.keys.n:Int) !=(b.keys.n:Int))=false:=by simp[a3]
   have V:=hid a3
   clear a3
   by_cases a4:a.frs.n=b.frs.n
   ·have e3:((a.frs.n:Int) !=(b.frs.n:Int))=false:=by simp[a4]
    have X:=hid a4
    clear a4
    cases a7
    ·go_wp2_with (go_at_call 37;(with_reducible refine(H0.out _ j.out).mono ?_);rintro _ O ⟨rfl,f⟩)
     go_ret
     exact⟨aa (by rw[←H.out];simp),j.trans f⟩
    ·go_wp2_with (go_at_call 37;(with_reducible refine(H0.out _ j.out).mono ?_);rintro _ O ⟨rfl,f⟩)
     clear p0 p1 p2 p3 q0 q1 q2 q3 e1 e2 e3
     go_loopw [5] (fun iv wr=> ∃(k:Nat),k≤a.cols.n∧iv= i4 k∧STo Cd.same s.cols t.cols k∧Ext w1 wr) (fun i _=>a.cols.n- (intOf i).toNat)
     case atStart=>exact⟨0,Nat.zero_le _,rfl,STo.zero _ _ _,f⟩
     case round=>
      obtain⟨k,bf,rfl,hr,h⟩:=hrel
      have o:=hid h
      have I:=hid hr
      have cb:=(HB.ext h).cell 0
      have cc:=(HC.ext h).cell 0
      simp only[g10,g11]at cb cc
      by_cases aS:k<a.cols.n
      ·obtain⟨x,hx⟩:=aC HS.cols.1 aS
       obtain⟨y,hy⟩:=aC HT.cols.1 (show k<b.cols.n by have:=U.out;have:=V.out;have:=X.out;omega)
       have i0:(0:Int)≤(k:Int):=by omega
       have i1:(k:Int)<(a.cols.n:Int):=by omega
       have i2:(k:Int)<(b.cols.n:Int):=by have:=U.out;have:=V.out;have:=X.out;omega
       have Q:=hid hx
       have p:=hid hy
       obtain⟨_,eb,an,ad,q0,q1,q2,q3,q4,q5⟩:=HS.cols.2.2 k x hx
       obtain⟨_,ac,G,ag,s0,s1,s2,s3,s4,s5⟩:=HT.cols.2.2 k y hy
       rw[ad]at cb
       rw[ag]at cc
       replace q0:=ai.keep ((j.trans h).keep q0)
       replace s0:=ai.keep ((j.trans h).keep s0)
       replace q1:=ai.keep ((j.trans h).keep q1)
       replace s1:=ai.keep ((j.trans h).keep s1)
       replace q2:=ai.keep ((j.trans h).keep q2)
       replace s2:=ai.keep ((j.trans h).keep s2)
       replace q3:=ai.keep ((j.trans h).keep q3)
       replace s3:=ai.keep ((j.trans h).keep s3)
       replace q4:=ai.keep ((j.trans h).keep q4)
       replace s4:=ai.keep ((j.trans h).keep s4)
       replace q5:=ai.keep ((j.trans h).keep q5)
       replace s5:=ai.keep ((j.trans h).keep s5)
       have bx:=ai.keep cb
       have bN:=ai.keep cc
       clear hx hy h hr
       obtain⟨x0,x1,x2,x3,x4,x5⟩:=x
       obtain⟨y0,y1,y2,y3,y4,y5⟩:=y
       simp only at*
       obtain⟨b0,l⟩:∃b,(x0.toList==y0.toList)=b:=⟨_,rfl⟩
       cases b0
       ·have C:Hid (Cd.same ⟨x0,x1,x2,x3,x4,x5⟩ ⟨y0,y1,y2,y3,y4,y5⟩=false):=by unfold Hid Cd.same sN;simp[←bz,l]
        have u:Hid (allS Cd.same s.cols t.cols=false):=bS Q p C
        go_wp2_with fail
        refine af (by kernel_rfl) (by kernel_rfl) ?_
        repeat (go_big_quiet_step (fail))
        refine wpQuiet_nil ?_
        intro O f
        have m:=am f
        clear f
        go_wp2_with fail
        go_ret
        exact⟨aa (by rw[←H.out,u.out];simp),j.trans (o.trans m)⟩
       ·obtain⟨b1,F⟩:∃b,(x1==y1)=b:=⟨_,rfl⟩
        cases b1
        ·have C:Hid (Cd.same ⟨x0,x1,x2,x3,x4,x5⟩ ⟨y0,y1,y2,y3,y4,y5⟩=false):=by unfold Hid Cd.same sN;simp[←bz,l,F]
         have u:Hid (allS Cd.same s.cols t.cols=false):=bS Q p C
         go_wp2_with fail
         refine af (by kernel_rfl) (by kernel_rfl) ?_
         repeat (go_big_quiet_step (fail))
         refine wpQuiet_nil ?_
         intro O f
         have m:=am f
         clear f
         go_wp2_with fail
         go_ret
         exact⟨aa (by rw[←H.out,u.out];simp),j.trans (o.trans m)⟩
        ·obtain⟨b2,B⟩:∃b,(x2==y2)=b:=⟨_,rfl⟩
         cases b2
         ·have C:Hid (Cd.same ⟨x0,x1,x2,x3,x4,x5⟩ ⟨y0,y1,y2,y3,y4,y5⟩=false):=by unfold Hid Cd.same sN;simp[←bz,l,F,B]
          have u:Hid (allS Cd.same s.cols t.cols=false):=bS Q p C
          go_wp2_with fail
          refine af (by kernel_rfl) (by kernel_rfl) ?_
          repeat (go_big_quiet_step (fail))
          refine wpQuiet_nil ?_
          intro O f
          have m:=am f
          clear f
          go_wp2_with fail
          go_ret
          exact⟨aa (by rw[←H.out,u.out];simp),j.trans (o.trans m)⟩
         ·obtain⟨b3,a1⟩:∃b,(x3==y3)=b:=⟨_,rfl⟩
          cases b3
          ·have C:Hid (Cd.same ⟨x0,x1,x2,x3,x4,x5⟩ ⟨y0,y1,y2,y3,y4,y5⟩=false):=by unfold Hid Cd.same sN;simp[←bz,l,F,B,a1]
           have u:Hid (allS Cd.same s.cols t.cols=false):=bS Q p C
           go_wp2_with fail
           refine af (by kernel_rfl) (by kernel_rfl) ?_
           repeat (go_big_quiet_step (fail))
           refine wpQuiet_nil ?_
           intro O f
           have m:=am f
           clear f
           go_wp2_with fail
           go_ret
           exact⟨aa (by rw[←H.out,u.out];simp),j.trans (o.trans m)⟩
          ·obtain⟨b4,a5⟩:∃b,(x4==y4)=b:=⟨_,rfl⟩
           cases b4
           ·have C:Hid (Cd.same ⟨x0,x1,x2,x3,x4,x5⟩ ⟨y0,y1,y2,y3,y4,y5⟩=false):=by unfold Hid Cd.same sN;simp[←bz,l,F,B,a1,a5]
            have u:Hid (allS Cd.same s.cols t.cols=false):=bS Q p C
            go_wp2_with fail
            refine af (by kernel_rfl) (by kernel_rfl) ?_
            repeat (go_big_quiet_step (fail))
            refine wpQuiet_nil ?_
            intro O f
            have m:=am f
            clear f
            go_wp2_with fail
            go_ret
            exact⟨aa (by rw[←H.out,u.out];simp),j.trans (o.trans m)⟩
           ·obtain⟨b5,a8⟩:∃b,(x5==y5)=b:=⟨_,rfl⟩
            cases b5
            ·have C:Hid (Cd.same ⟨x0,x1,x2,x3,x4,x5⟩ ⟨y0,y1,y2,y3,y4,y5⟩=false):=by unfold Hid Cd.same sN;simp[←bz,l,F,B,a1,a5,a8]
             have u:Hid (allS Cd.same s.cols t.cols=false):=bS Q p C
             go_wp2_with fail
             refine af (by kernel_rfl) (by kernel_rfl) ?_
             repeat (go_big_quiet_step (fail))
             refine wpQuiet_nil ?_
             intro O f
             have m:=am f
             clear f
             go_wp2_with fail
             go_ret
             exact⟨aa (by rw[←H.out,u.out];simp),j.trans (o.trans m)⟩
            ·have C:Hid (Cd.same ⟨x0,x1,x2,x3,x4,x5⟩ ⟨y0,y1,y2,y3,y4,y5⟩=true):=by unfold Hid Cd.same sN;simp[←bz,l,F,B,a1,a5,a8]
             go_wp2_with fail
             refine af (by kernel_rfl) (by kernel_rfl) ?_
             repeat (go_big_quiet_step (fail))
             refine wpQuiet_nil ?_
             intro O f
             have m:=am f
             clear f
             go_wp2_with fail
             go_roundw
             case rel=>exact⟨k+1,by omega,by go_num,I.succ Q p C,o.trans m⟩
             case measure=>simp[intOf];omega
      ·obtain ax:k=a.cols.n:=by omega
       subst ax
       have bo:Hid (allS Cd.same s.cols t.cols=true):=eV HS.cols.1 (HT.cols.1.trans U.symm) I
       go_wp2_with fail
       go_loopw [6] (fun iv wr=> ∃(k:Nat),k≤a.keys.n∧iv= i4 k∧STo (allS sN) s.keys t.keys k∧Ext w1 wr) (fun i _=>a.keys.n- (intOf i).toNat)
       case atStart=>exact⟨0,Nat.zero_le _,rfl,STo.zero _ _ _,o⟩
       case round=>
        obtain⟨k,bf,rfl,hr,h⟩:=hrel
        have o:=hid h
        have I:=hid hr
        have cb:=(HB.ext h).cell 1
        have cc:=(HC.ext h).cell 1
        simp only[g10,g11]at cb cc
        by_cases aS:k<a.keys.n
        ·obtain⟨x,hx⟩:=aC HS.keys.1 aS
         obtain⟨y,hy⟩:=aC HT.keys.1 (show k<b.keys.n by have:=U.out;have:=V.out;have:=X.out;omega)
         have i0:(0:Int)≤(k:Int):=by omega
         have i1:(k:Int)<(a.keys.n:Int):=by omega
         have i2:(k:Int)<(b.keys.n:Int):=by have:=U.out;have:=V.out;have:=X.out;omega
         have Q:=hid hx
         have p:=hid hy
         obtain⟨eb,an,Ai,ni,ci,ad,q0,bm,bY,bd⟩:=HS.keys.2.2 k x hx
         obtain⟨ac,G,Aj,nj,cj,ag,s0,bn,b6,be⟩:=HT.keys.2.2 k y hy
         rw[ad]at cb
         rw[ag]at cc
         replace q0:=ai.keep ((j.trans h).keep q0)
         replace s0:=ai.keep ((j.trans h).keep s0)
         have bx:=ai.keep cb
         have bN:=ai.keep cc
         have H1:Hid (∀z:ai wr,Cl 76 #[.slice Ai ni ci,.slice Aj nj cj] z.now _):=fun z=>nU x y Ai Aj ni nj ci cj z.now bm bn bY b6 (bd.ext ((j.trans h).trans z.ext)) (be.ext ((j.trans h).trans z.ext))
         clear hx hy h hr bm bn bd be
         obtain⟨b0,l⟩:∃b,(allS sN x y)=b:=⟨_,rfl⟩
         rw[l]at H1
         cases b0
         ·have C:Hid (allS sN x y=false):=by exact l
          have u:Hid (allS (allS sN) s.keys t.keys=false):=bS Q p C
          go_wp2_with fail
          refine af (by kernel_rfl) (by kernel_rfl) ?_
          repeat (go_big_quiet_step ((go_at_call 76;with_reducible exact aq (H1.out _))))
          refine wpQuiet_nil ?_
          intro O f
          have m:=am f
          clear f
          go_wp2_with fail
          go_ret
          exact⟨aa (by rw[←H.out,u.out];simp),j.trans (o.trans m)⟩
         ·have C:Hid (allS sN x y=true):=by exact l
          go_wp2_with fail
          refine af (by kernel_rfl) (by kernel_rfl) ?_
          repeat (go_big_quiet_step ((go_at_call 76;with_reducible exact aq (H1.out _))))
          refine wpQuiet_nil ?_
          intro O f
          have m:=am f
          clear f
          go_wp2_with fail
          go_roundw
          case rel=>exact⟨k+1,by omega,by go_num,I.succ Q p C,o.trans m⟩
          case measure=>simp[intOf];omega
        ·obtain ax:k=a.keys.n:=by omega
         subst ax
         have bw:Hid (allS (allS sN) s.keys t.keys=true):=eV HS.keys.1 (HT.keys.1.trans V.symm) I
         go_wp2_with fail
         go_loopw [7] (fun iv wr=> ∃(k:Nat),k≤a.frs.n∧iv= i4 k∧STo Rf.same s.frs t.frs k∧Ext w1 wr) (fun i _=>a.frs.n- (intOf i).toNat)
         case atStart=>exact⟨0,Nat.zero_le _,rfl,STo.zero _ _ _,o⟩
         case round=>
          obtain⟨k,bf,rfl,hr,h⟩:=hrel
          have o:=hid h
          have I:=hid hr
          have cb:=(HB.ext h).cell 2
          have cc:=(HC.ext h).cell 2
          simp only[g10,g11]at cb cc
          by_cases aS:k<a.frs.n
          ·obtain⟨x,hx⟩:=aC HS.frs.1 aS
           obtain⟨y,hy⟩:=aC HT.frs.1 (show k<b.frs.n by have:=U.out;have:=V.out;have:=X.out;omega)
           have i0:(0:Int)≤(k:Int):=by omega
           have i1:(k:Int)<(a.frs.n:Int):=by omega
           have i2:(k:Int)<(b.frs.n:Int):=by have:=U.out;have:=V.out;have:=X.out;omega
           have Q:=hid hx
           have p:=hid hy
           obtain⟨_,eb,an,A1,n1,c1,A2,n2,c2,ad,q0,q1,q2,g1,g3,g4,g5,g6,g7⟩:=HS.frs.2.2 k x hx
           obtain⟨_,ac,G,B1,m1,K,B2,m2,L,ag,s0,s1,s2,h1,h3,h4,h5,h6,h7⟩:=HT.frs.2.2 k y hy
           rw[ad]at cb
           rw[ag]at cc
           replace q0:=(j.trans h).keep q0
           replace s0:=(j.trans h).keep s0
           replace q1:=(j.trans h).keep q1
           replace s1:=(j.trans h).keep s1
           replace q2:=(j.trans h).keep q2
           replace s2:=(j.trans h).keep s2
           have H1:=hid (fun W (hW:Ext w W)=>nU x.cs y.cs A1 B1 n1 m1 c1 K W g1 h1 g3 h3 (g4.ext hW) (h4.ext hW))
           have H2:=hid (fun W (hW:Ext w W)=>nU x.tg y.tg A2 B2 n2 m2 c2 L W g5 h5 g6 h6 (g7.ext hW) (h7.ext hW))
           clear hx hy h hr g1 g4 g5 g7 h1 h4 h5 h7 ad ag
           go_upto_region 16 with fail
           go_cut [8,9] from 80 to 117 (fun u8 u9 wx=> ∃ga gb,u8= .pointer (some ⟨ga,0,none⟩)∧u9= .pointer (some ⟨gb,0,none⟩)∧Blk wx ga 103 [.slice A1 n1 c1,.string x.tb,.slice A2 n2 c2]∧Blk wx gb 103 [.slice B1 m1 K,.string y.tb,.slice B2 m2 L]∧Ext wr wx)
           case first=>
            go_region_held3 (fun w'=>w'.cell? ⟨g,2,none⟩=some (.slice (some ⟨eb,an,none⟩) a.frs.n a.frs.c)∧w'.cell? ⟨g2,2,none⟩=some (.slice (some ⟨ac,G,none⟩) b.frs.n b.frs.c)∧w'.cell? ⟨eb,an+k*3,none⟩=some (.slice A1 n1 c1)∧w'.cell? ⟨eb,an+k*3+1,none⟩=some (.string x.tb)∧w'.cell? ⟨eb,an+k*3+2,none⟩=some (.slice A2 n2 c2)∧w'.cell? ⟨ac,G+k*3,none⟩=some (.slice B1 m1 K)∧w'.cell? ⟨ac,G+k*3+1,none⟩=some (.string y.tb)∧w'.cell? ⟨ac,G+k*3+2,none⟩=some (.slice B2 m2 L))
             (first|go_keep)
             (first|fail)
            ·have hb:=Blk.of_new (wr.alloc (.cells #[.slice A1 n1 c1,.string x.tb,.slice A2 n2 c2] 103)) 103 [.slice B1 m1 K,.string y.tb,.slice B2 m2 L]
             rw[show(wr.alloc (.cells #[.slice A1 n1 c1,.string x.tb,.slice A2 n2 c2] 103)).heap.size=wr.heap.size+1 by simp]at hb
             go_wp2_with fail
             go_meet
             exact⟨_,_,rfl,rfl,((Blk.of_new wr 103 [.slice A1 n1 c1,.string x.tb,.slice A2 n2 c2]).ext (x10 _ _)).drew,hb.drew,((x10 wr _).alloc _).drew⟩
            ·have hb:=Blk.of_new (wr.alloc (.cells #[.slice B1 m1 K,.string y.tb,.slice B2 m2 L] 103)) 103 [.slice A1 n1 c1,.string x.tb,.slice A2 n2 c2]
             rw[show(wr.alloc (.cells #[.slice B1 m1 K,.string y.tb,.slice B2 m2 L] 103)).heap.size=wr.heap.size+1 by simp]at hb
             go_wp2_with fail
             go_meet
             exact⟨_,_,rfl,rfl,hb.drew,((Blk.of_new wr 103 [.slice B1 m1 K,.string y.tb,.slice B2 m2 L]).ext (x10 _ _)).drew,((x10 wr _).alloc _).drew⟩
           case rest=>
            obtain⟨ga,gb,rfl,rfl,a9,ba,a6⟩:=hcut
            generalize wc=we at*
            have Y:=hid (o.trans a6)
            have J:=hid (j.trans (o.trans a6))
            have D:=hid a9
            have E:=hid ba
            clear a6 a9 ba q0 q1 q2 s0 s1 s2 cb cc
            have d0:=(D).cell 0
            have e0:=(E).cell 0
            simp only[g10,g11]at d0 e0
            have K:=(D).cell 1
            have e1:=(E).cell 1
            simp only[g10,g11]at K e1
            have L:=(D).cell 2
            have e2:=(E).cell 2
            simp only[g10,g11]at L e2
            obtain⟨b0,l⟩:∃b,(allS sN x.cs y.cs)=b:=⟨_,rfl⟩
            rw[l]at H1
            cases b0
            ·have C:Hid (Rf.same x y=false):=by unfold Hid Rf.same;rw[mC x.tb];simp[←bz,l]
             have u:Hid (allS Rf.same s.frs t.frs=false):=bS Q p C
             go_wp2_with (first|(go_at_call 76;(with_reducible refine(H2.out _ ((J.out).trans f)).mono ?_);rintro _ w3 ⟨rfl,Z⟩)|(go_at_call 76;(with_reducible refine(H1.out _ J.out).mono ?_);rintro _ O ⟨rfl,f⟩;have K:=(D.ext (f)).cell 1;have e1:=(E.ext (f)).cell 1;simp only[g10,g11]at K e1;have L:=(D.ext (f)).cell 2;have e2:=(E.ext (f)).cell 2;simp only[g10,g11]at L e2))
             go_wp2_with fail
             go_ret
             first|exact⟨aa (by rw[←H.out,u.out];simp),j.trans (Y.trans (f.trans Z))⟩|exact⟨aa (by rw[←H.out,u.out];simp),j.trans (Y.trans f)⟩
            ·obtain⟨b1,F⟩:∃b,(x.tb.toList==y.tb.toList)=b:=⟨_,rfl⟩
             have n1:(x.tb.toList !=y.tb.toList)=!b1:=by rw[bne,F]
             cases b1
             ·have C:Hid (Rf.same x y=false):=by unfold Hid Rf.same;rw[mC x.tb];simp[←bz,l,F]
              have u:Hid (allS Rf.same s.frs t.frs=false):=bS Q p C
              go_wp2_with (first|(go_at_call 76;(with_reducible refine(H2.out _ ((J.out).trans f)).mono ?_);rintro _ w3 ⟨rfl,Z⟩)|(go_at_call 76;(with_reducible refine(H1.out _ J.out).mono ?_);rintro _ O ⟨rfl,f⟩;have K:=(D.ext (f)).cell 1;have e1:=(E.ext (f)).cell 1;simp only[g10,g11]at K e1;have L:=(D.ext (f)).cell 2;have e2:=(E.ext (f)).cell 2;simp only[g10,g11]at L e2))
              go_wp2_with fail
              go_ret
              first|exact⟨aa (by rw[←H.out,u.out];simp),j.trans (Y.trans (f.trans Z))⟩|exact⟨aa (by rw[←H.out,u.out];simp),j.trans (Y.trans f)⟩
             ·obtain⟨b2,B⟩:∃b,(allS sN x.tg y.tg)=b:=⟨_,rfl⟩
              rw[B]at H2
              cases b2
              ·have C:Hid (Rf.same x y=false):=by unfold Hid Rf.same;rw[mC x.tb];simp[←bz,l,F,B]
               have u:Hid (allS Rf.same s.frs t.frs=false):=bS Q p C
               go_wp2_with (first|(go_at_call 76;(with_reducible refine(H2.out _ ((J.out).trans f)).mono ?_);rintro _ w3 ⟨rfl,Z⟩)|(go_at_call 76;(with_reducible refine(H1.out _ J.out).mono ?_);rintro _ O ⟨rfl,f⟩;have K:=(D.ext (f)).cell 1;have e1:=(E.ext (f)).cell 1;simp only[g10,g11]at K e1;have L:=(D.ext (f)).cell 2;have e2:=(E.ext (f)).cell 2;simp only[g10,g11]at L e2))
               go_wp2_with fail
               go_ret
               first|exact⟨aa (by rw[←H.out,u.out];simp),j.trans (Y.trans (f.trans Z))⟩|exact⟨aa (by rw[←H.out,u.out];simp),j.trans (Y.trans f)⟩
              ·have C:Hid (Rf.same x y=true):=by unfold Hid Rf.same;rw[mC x.tb];simp[←bz,l,F,B]
               go_wp2_with (first|(go_at_call 76;(with_reducible refine(H2.out _ ((J.out).trans f)).mono ?_);rintro _ w3 ⟨rfl,Z⟩)|(go_at_call 76;(with_reducible refine(H1.out _ J.out).mono ?_);rintro _ O ⟨rfl,f⟩;have K:=(D.ext (f)).cell 1;have e1:=(E.ext (f)).cell 1;simp only[g10,g11]at K e1;have L:=(D.ext (f)).cell 2;have e2:=(E.ext (f)).cell 2;simp only[g10,g11]at L e2))
               go_wp2_with fail
               go_roundw
               case rel=>exact⟨k+1,by omega,by go_num,I.succ Q p C,Y.trans (f.trans Z)⟩
               case measure=>simp[intOf];omega
          ·obtain ax:k=a.frs.n:=by omega
           subst ax
           have bv:Hid (allS Rf.same s.frs t.frs=true):=eV HS.frs.1 (HT.frs.1.trans X.symm) I
           go_wp2_with fail
           go_ret
           exact⟨aa (by rw[←H.out,bo.out,bw.out,bv.out];rfl),j.trans o⟩
   ·have e3:((a.frs.n:Int) !=(b.frs.n:Int))=true:=by simp;omega
    have u:Hid (allS Rf.same s.frs t.frs=false):=eT (by rw[HS.out.frs.1,HT.out.frs.1];exact a4)
    go_wp2_with (go_at_call 37;(with_reducible refine(H0.out _ j.out).mono ?_);rintro _ O ⟨rfl,f⟩)
    go_ret
    exact⟨aa (by rw[←H.out,u.out];simp),j⟩
  ·have e2:((a.keys.n:Int) !=(b.keys.n:Int))=true:=by simp;omega
   have u:Hid (allS (allS sN) s.keys t.keys=false):=eT (by rw[HS.out.keys.1,HT.out.keys.1];exact a3)
   go_wp2_with (go_at_call 37;(with_reducible refine(H0.out _ j.out).mono ?_);rintro _ O ⟨rfl,f⟩)
   go_ret
   exact⟨aa (by rw[←H.out,u.out];simp),j⟩
 ·have e1:((a.cols.n:Int) !=(b.cols.n:Int))=true:=by simp;omega
  have u:Hid (allS Cd.same s.cols t.cols=false):=eT (by rw[HS.out.cols.1,HT.out.cols.1];exact a2)
  go_wp2_with (go_at_call 37;(with_reducible refine(H0.out _ j.out).mono ?_);rintro _ O ⟨rfl,f⟩)
  go_ret
  exact⟨aa (by rw[←H.out,u.out];simp),j⟩
theorem oF (s t:St) (a b:SA) (w:World) (hv:StV w s a) (F:StV w t b):
  Cl 15 #[s.val a,t.val b] w (Rt (.bool (s.same t)) w):=by
 have H:=hid hv
 have I:=hid F
 have HB:=hid ((Blk.of_new w 40 (s.cells a)).ext (x10 _ (.cells (t.cells b).toArray 40)))
 have ad:=Blk.of_new (w.alloc (.cells (s.cells a).toArray 40)) 40 (t.cells b)
 have HX:=hid ((x10 w (.cells (s.cells a).toArray 40)).alloc (.cells (t.cells b).toArray 40))
 rw[show(w.alloc (.cells (s.cells a).toArray 40)).heap.size=w.heap.size+1 by simp]at ad
 have HC:=hid ad
 clear ad
 have O:=hid (fun W (hW:Ext w W)=>rdef_any s t a b W (hv.ext hW) (F.ext hW))
 have H2:=hid (fun W (hW:Ext w W)=>kT s.whr t.whr a.whr.A b.whr.A a.whr.n b.whr.n a.whr.c b.whr.c W (hv.whr.ext hW) (F.whr.ext hW))
 have H3:=hid (fun W (hW:Ext w W)=>lL s.grp t.grp a.grp.A b.grp.A a.grp.n b.grp.n a.grp.c b.grp.c W hv.grp.1 F.grp.1 hv.grp.2.1 F.grp.2.1 (hv.grp.2.2.ext hW) (F.grp.2.2.ext hW))
 have m1:=hv.vals.2.1
 have m2:=hv.sets.2.1
 have m3:=hv.itms.2.1
 have m4:=hv.frm.2.1
 have m5:=hv.ord.2.1
 clear hv F
 obtain⟨R,hR⟩:∃R,s.same t=R:=⟨_,rfl⟩
 rw[hR]
 replace hR:((s.kd==t.kd) && (s.tb.toList==t.tb.toList) && (s.nm.toList==t.nm.toList) && (s.lim==t.lim) &&s.whr.same t.whr&&allS Src.same s.frm t.frm&&allS Ord'.same s.ord t.ord&&sameL s.grp t.grp&&allS sameL s.vals t.vals&&allS Asg.same s.sets t.sets&&allS Itm.same s.itms t.itms&& (allS Cd.same s.cols t.cols&&allS (allS sN) s.keys t.keys&&allS Rf.same s.frs t.frs&&sameL s.chk t.chk))=R:=by
  rw[←hR]
  unfold St.same St.sb SB.all
  rw[←mC,←mC]
  simp only[Bool.and_assoc]
 unfold St.val St.cells Sl.v at*
 unfold Nd.val at H2
 generalize (allS Cd.same s.cols t.cols&&allS (allS sN) s.keys t.keys&&allS Rf.same s.frs t.frs&&sameL s.chk t.chk)=c4 at*
 generalize s.whr.same t.whr=b5 at*
 generalize sameL s.grp t.grp=b8 at*
 generalize s.whr.d=d at*
 generalize t.whr.d=d' at*
 obtain⟨op,tb,nm,ix,vk,vi,vt⟩:=d
 obtain⟨fs,fw,fr,fn,f1,fA,f2⟩:=d'
 simp only at*
 obtain⟨b1,B⟩:∃b,(s.kd==t.kd)=b:=⟨_,rfl⟩
 obtain⟨b2,ad⟩:∃b,(s.tb.toList==t.tb.toList)=b:=⟨_,rfl⟩
 obtain⟨b3,cw⟩:∃b,(s.nm.toList==t.nm.toList)=b:=⟨_,rfl⟩
 obtain⟨b4,cx⟩:∃b,(s.lim==t.lim)=b:=⟨_,rfl⟩
 have n1:(s.kd !=t.kd)=!b1:=by rw[bne,B]
 have n2:(s.tb.toList !=t.tb.toList)=!b2:=by rw[bne,ad]
 have n3:(s.nm.toList !=t.nm.toList)=!b3:=by rw[bne,cw]
 have n4:(s.lim !=t.lim)=!b4:=by rw[bne,cx]
 rw[B,ad,cw,cx]at hR
 have G:=hid hR
 clear hR
 go_enter func15,ntmps15
 go_upto_region 1 with fail
 dsimp only[List.append]
 generalize (w.alloc (.cells _ 40)).alloc (.cells _ 40)=w1 at*
 generalize w.heap.size+1=g2 at*
 generalize w.heap.size=g at*
 obtain⟨p0,p1,p2,p3,p4,p5,p6,p7,p8,p9,d4,d5,d6,d7,d8,d9,ee,el,es,et,eA,eL,-⟩:=cls (HB)
 obtain⟨q0,q1,q2,q3,q4,q5,q6,q7,q8,q9,eN,eU,eX,e0,e1,e2,e3,e4,e5,fa,fe,fl,-⟩:=cls (HC)
 cases b1
 have HL:Hid (R=false):=by unfold Hid;rw[←G.out];simp
 rotate_left
 cases b2
 have HL:Hid (R=false):=by unfold Hid;rw[←G.out];simp
 rotate_left
 cases c4
 have HL:Hid (R=false):=by unfold Hid;rw[←G.out];simp
 rotate_left
 by_cases ba:a.vals.n=b.vals.n
 rotate_left
 have l1:((a.vals.n:Int) !=(b.vals.n:Int))=true:=by simp;omega
 have E:Hid (allS sameL s.vals t.vals=false):=eT (by rw[H.out.vals.1,I.out.vals.1];exact ba)
 have HL:Hid (R=false):=by unfold Hid;rw[←G.out,E.out];simp
 rotate_right
 have l1:((a.vals.n:Int) !=(b.vals.n:Int))=false:=by simp[ba]
 have bo:=hid ba
 clear ba
 by_cases bd:a.sets.n=b.sets.n
 rotate_left
 have l2:((a.sets.n:Int) !=(b.sets.n:Int))=true:=by simp;omega
 have E:Hid (allS Asg.same s.sets t.sets=false):=eT (by rw[H.out.sets.1,I.out.sets.1];exact bd)
 have HL:Hid (R=false):=by unfold Hid;rw[←G.out,E.out];simp
 rotate_right
 have l2:((a.sets.n:Int) !=(b.sets.n:Int))=false:=by simp[bd]
 have bv:=hid bd
 clear bd
 by_cases be:a.itms.n=b.itms.n
 rotate_left
 have l3:((a.itms.n:Int) !=(b.itms.n:Int))=true:=by simp;omega
 have E:Hid (allS Itm.same s.itms t.itms=false):=eT (by rw[H.out.itms.1,I.out.itms.1];exact be)
 have HL:Hid (R=false):=by unfold Hid;rw[←G.out,E.out];simp
 rotate_right
 have l3:((a.itms.n:Int) !=(b.itms.n:Int))=false:=by simp[be]
 have bw:=hid be
 clear be
 by_cases bf:a.frm.n=b.frm.n
 rotate_left
 have l4:((a.frm.n:Int) !=(b.frm.n:Int))=true:=by simp;omega
 have E:Hid (allS Src.same s.frm t.frm=false):=eT (by rw[H.out.frm.1,I.out.frm.1];exact bf)
 have HL:Hid (R=false):=by unfold Hid;rw[←G.out,E.out];simp
 rotate_right
 have l4:((a.frm.n:Int) !=(b.frm.n:Int))=false:=by simp[bf]
 have bN:=hid bf
 clear bf
 cases b5
 have HL:Hid (R=false):=by unfold Hid;rw[←G.out];simp
 rotate_left
 cases b8
 have HL:Hid (R=false):=by unfold Hid;rw[←G.out];simp
 rotate_left
 by_cases bm:a.ord.n=b.ord.n
 rotate_left
 have l5:((a.ord.n:Int) !=(b.ord.n:Int))=true:=by simp;omega
 have E:Hid (allS Ord'.same s.ord t.ord=false):=eT (by rw[H.out.ord.1,I.out.ord.1];exact bm)
 have HL:Hid (R=false):=by unfold Hid;rw[←G.out,E.out];simp
 rotate_right
 have l5:((a.ord.n:Int) !=(b.ord.n:Int))=false:=by simp[bm]
 have b6:=hid bm
 clear bm
 cases b4
 have HL:Hid (R=false):=by unfold Hid;rw[←G.out];simp
 rotate_left
 cases b3
 have HL:Hid (R=false):=by unfold Hid;rw[←G.out];simp
 rotate_left
 ·simp only[Bool.not_true,Bool.not_false]at n1 n2 n3 n4
  go_wp2_with (first|(go_at_call 37;(with_reducible refine(H3.out _ ((HX.out.trans h).trans u)).mono ?_);rintro _ w4 ⟨rfl,J⟩;obtain⟨-,-,-,-,-,-,-,-,-,-,-,-,-,-,-,-,-,-,-,an,ax,aS,-⟩:=cls (HB.ext ((h.trans u).trans J));obtain⟨-,-,-,-,-,-,-,-,-,-,-,-,-,-,-,-,-,-,-,a0,a1,a2,-⟩:=cls (HC.ext ((h.trans u).trans J)))|(go_at_call 19;(with_reducible refine(H2.out _ (HX.out.trans h)).mono ?_);rintro _ w3 ⟨rfl,u⟩;obtain⟨-,-,-,-,-,-,-,-,-,-,-,-,-,-,-,-,-,-,b7,an,ax,aS,-⟩:=cls (HB.ext (h.trans u));obtain⟨-,-,-,-,-,-,-,-,-,-,-,-,-,-,-,-,-,-,b9,a0,a1,a2,-⟩:=cls (HC.ext (h.trans u)))|(go_at_call 36;(with_reducible refine(O.out _ (HX.out)).mono ?_);rintro _ w2 ⟨rfl,h⟩;obtain⟨-,-,-,-,-,-,e6,e7,e8,e9,c5,c6,c7,c8,c9,df,dp,ds,b7,an,ax,aS,-⟩:=cls (HB.ext (h));obtain⟨-,-,-,-,-,-,f6,f7,f8,f9,f10,dw,f12,dx,d0,d1,d2,d3,b9,a0,a1,a2,-⟩:=cls (HC.ext (h))))
  have j:=hid (((HX.trans h).trans u).trans J)
  replace HB:=hid (HB.ext ((h.trans u).trans J))
  replace HC:=hid (HC.ext ((h.trans u).trans J))
  clear h u J n1 n2 n3 n4 l1 l2 l3 l4 l5 p0 q0 p1 q1 p2 q2 p3 q3 p4 q4 p5 q5 p6 q6 p7 q7 p8 q8 p9 q9 d4 eN d5 eU d6 eX d7 e0 d8 e1 d9 e2 ee e3 el e4 es e5 et fa eA fe eL fl O H2 H3
  go_loopw [5] (fun iv wr=> ∃(k:Nat),k≤a.vals.n∧iv= i4 k∧STo sameL s.vals t.vals k∧Ext w4 wr) (fun i _=>a.vals.n- (intOf i).toNat)
  case atStart=>exact⟨0,Nat.zero_le _,rfl,STo.zero _ _ _,Ext.refl w4⟩
  case round=>
   obtain⟨k,a9,rfl,hr,f⟩:=hrel
   have m:=hid f
   have C:=hid hr
   have Q:=(HB.ext f).cell 6
   have U:=(HC.ext f).cell 6
   simp only[g10,g11]at Q U
   by_cases Z:k<a.vals.n
   ·obtain⟨x,K⟩:=aC H.vals.1 Z
    obtain⟨y,L⟩:=aC I.vals.1 (show k<b.vals.n by have:=bo.out;omega)
    have i0:(0:Int)≤(k:Int):=by omega
    have i1:(k:Int)<(a.vals.n:Int):=by omega
    have i2:(k:Int)<(b.vals.n:Int):=by have:=bo.out;omega
    have HE:=hid K
    have p:=hid L
    obtain⟨eb,bn,Ai,ni,ci,V,q0,c0,cz⟩:=H.vals.2.2 k x K
    obtain⟨a8,ac,Aj,nj,cj,X,s0,c3,cH⟩:=I.vals.2.2 k y L
    rw[V]at Q
    rw[X]at U
    replace q0:=ai.keep ((j.trans f).keep q0)
    replace s0:=ai.keep ((j.trans f).keep s0)
    have a6:=ai.keep Q
    have a7:=ai.keep U
    have bx:=H.valn x (mem_of_getElem? K)
    have bY:=I.valn y (mem_of_getElem? L)
    have O:Hid (∀z:ai wr,Cl 37 #[.slice Ai ni ci,.slice Aj nj cj] z.now _):=fun z=>lL x y Ai Aj ni nj ci cj z.now c0 c3 (by omega) (by omega) (cz.ext ((j.trans f).trans z.ext)) (cH.ext ((j.trans f).trans z.ext))
    clear K L f hr c0 c3 cz cH bx bY
    obtain⟨b0,o⟩:∃b,(sameL x y)=b:=⟨_,rfl⟩
    rw[o]at O
    cases b0
    ·have D:Hid (sameL x y=false):=by exact o
     have E:Hid (allS sameL s.vals t.vals=false):=bS HE p D
     go_wp2_with fail
     refine af (by kernel_rfl) (by kernel_rfl) ?_
     repeat (go_big_quiet_step ((go_at_call 37;with_reducible exact aq (O.out _))))
     refine wpQuiet_nil ?_
     intro w2 h
     have l:=am h
     clear h
     go_wp2_with fail
     go_ret
     exact⟨aa (by rw[←G.out,E.out];simp),j.trans (m.trans l)⟩
    ·have D:Hid (sameL x y=true):=by exact o
     go_wp2_with fail
     refine af (by kernel_rfl) (by kernel_rfl) ?_
     repeat (go_big_quiet_step ((go_at_call 37;with_reducible exact aq (O.out _))))
     refine wpQuiet_nil ?_
     intro w2 h
     have l:=am h
     clear h
     go_wp2_with fail
     go_roundw
     case rel=>exact⟨k+1,by omega,by go_num,C.succ HE p D,m.trans l⟩
     case measure=>simp[intOf];omega
   ·obtain Y:k=a.vals.n:=by omega
    subst Y
    have cd:Hid (allS sameL s.vals t.vals=true):=eV H.vals.1 (I.vals.1.trans bo.symm) C
    go_wp2_with fail
    go_loopw [6] (fun iv wr=> ∃(k:Nat),k≤a.sets.n∧iv= i4 k∧STo Asg.same s.sets t.sets k∧Ext w4 wr) (fun i _=>a.sets.n- (intOf i).toNat)
    case atStart=>exact⟨0,Nat.zero_le _,rfl,STo.zero _ _ _,m⟩
    case round=>
     obtain⟨k,a9,rfl,hr,f⟩:=hrel
     have m:=hid f
     have C:=hid hr
     have Q:=(HB.ext f).cell 7
     have U:=(HC.ext f).cell 7
     simp only[g10,g11]at Q U
     by_cases Z:k<a.sets.n
     ·obtain⟨x,K⟩:=aC H.sets.1 Z
      obtain⟨y,L⟩:=aC I.sets.1 (show k<b.sets.n by have:=bv.out;omega)
      have i0:(0:Int)≤(k:Int):=by omega
      have i1:(k:Int)<(a.sets.n:Int):=by omega
      have i2:(k:Int)<(b.sets.n:Int):=by have:=bv.out;omega
      have HE:=hid K
      have p:=hid L
      obtain⟨eb,bn,A1,a4,c1,V,q0,q1,q2,q3,q4,q5,q6,q7,q8,q9,a3⟩:=fV H.sets.2.2 K
      obtain⟨a8,ac,A2,a5,c2,X,s0,s1,s2,s3,s4,s5,s6,s7,s8,s9,F⟩:=fV I.sets.2.2 L
      rw[V]at Q
      rw[X]at U
      replace q0:=ai.keep ((j.trans f).keep q0)
      replace s0:=ai.keep ((j.trans f).keep s0)
      replace q1:=ai.keep ((j.trans f).keep q1)
      replace s1:=ai.keep ((j.trans f).keep s1)
      replace q2:=ai.keep ((j.trans f).keep q2)
      replace s2:=ai.keep ((j.trans f).keep s2)
      replace q3:=ai.keep ((j.trans f).keep q3)
      replace s3:=ai.keep ((j.trans f).keep s3)
      replace q4:=ai.keep ((j.trans f).keep q4)
      replace s4:=ai.keep ((j.trans f).keep s4)
      replace q5:=ai.keep ((j.trans f).keep q5)
      replace s5:=ai.keep ((j.trans f).keep s5)
      replace q6:=ai.keep ((j.trans f).keep q6)
      replace s6:=ai.keep ((j.trans f).keep s6)
      replace q7:=ai.keep ((j.trans f).keep q7)
      replace s7:=ai.keep ((j.trans f).keep s7)
      replace q8:=ai.keep ((j.trans f).keep q8)
      replace s8:=ai.keep ((j.trans f).keep s8)
      replace q9:=ai.keep ((j.trans f).keep q9)
      replace s9:=ai.keep ((j.trans f).keep s9)
      have a6:=ai.keep Q
      have a7:=ai.keep U
      have O:Hid (∀z:ai wr,Cl 19 #[x.ex.d.val A1 a4 c1,y.ex.d.val A2 a5 c2] z.now _):=fun z=>kT x.ex y.ex A1 A2 a4 a5 c1 c2 z.now (a3.ext ((j.trans f).trans z.ext)) (F.ext ((j.trans f).trans z.ext))
      unfold Nd.val at O
      clear K L f hr a3 F
      obtain⟨b0,o⟩:∃b,(x.cl.toList==y.cl.toList)=b:=⟨_,rfl⟩
      have nb:(x.cl.toList !=y.cl.toList)=!b0:=by rw[bne,o]
      cases b0
      ·have D:Hid (Asg.same x y=false):=by unfold Hid Asg.same;rw[mC x.cl];simp[←bz,o]
       have E:Hid (allS Asg.same s.sets t.sets=false):=bS HE p D
       go_wp2_with fail
       refine af (by kernel_rfl) (by kernel_rfl) ?_
       repeat (go_big_quiet_step ((go_at_call 19;with_reducible exact aq (O.out _))))
       refine wpQuiet_nil ?_
       intro w2 h
       have l:=am h
       clear h
       go_wp2_with fail
       go_ret
       exact⟨aa (by rw[←G.out,E.out];simp),j.trans (m.trans l)⟩
      ·obtain⟨b1,B⟩:∃b,(x.ex.same y.ex)=b:=⟨_,rfl⟩
       rw[B]at O
       cases b1
       ·have D:Hid (Asg.same x y=false):=by unfold Hid Asg.same;rw[mC x.cl];simp[←bz,o,B]
        have E:Hid (allS Asg.same s.sets t.sets=false):=bS HE p D
        go_wp2_with fail
        refine af (by kernel_rfl) (by kernel_rfl) ?_
        repeat (go_big_quiet_step ((go_at_call 19;with_reducible exact aq (O.out _))))
        refine wpQuiet_nil ?_
        intro w2 h
        have l:=am h
        clear h
        go_wp2_with fail
        go_ret
        exact⟨aa (by rw[←G.out,E.out];simp),j.trans (m.trans l)⟩
       ·have D:Hid (Asg.same x y=true):=by unfold Hid Asg.same;rw[mC x.cl];simp[←bz,o,B]
        go_wp2_with fail
        refine af (by kernel_rfl) (by kernel_rfl) ?_
        repeat (go_big_quiet_step ((go_at_call 19;with_reducible exact aq (O.out _))))
        refine wpQuiet_nil ?_
        intro w2 h
        have l:=am h
        clear h
        go_wp2_with fail
        go_roundw
        case rel=>exact⟨k+1,by omega,by go_num,C.succ HE p D,m.trans l⟩
        case measure=>simp[intOf];omega
     ·obtain Y:k=a.sets.n:=by omega
      subst Y
      have ck:Hid (allS Asg.same s.sets t.sets=true):=eV H.sets.1 (I.sets.1.trans bv.symm) C
      go_wp2_with fail
      go_loopw [7] (fun iv wr=> ∃(k:Nat),k≤a.itms.n∧iv= i4 k∧STo Itm.same s.itms t.itms k∧Ext w4 wr) (fun i _=>a.itms.n- (intOf i).toNat)
      case atStart=>exact⟨0,Nat.zero_le _,rfl,STo.zero _ _ _,m⟩
      case round=>
       obtain⟨k,a9,rfl,hr,f⟩:=hrel
       have m:=hid f
       have C:=hid hr
       have Q:=(HB.ext f).cell 8
       have U:=(HC.ext f).cell 8
       simp only[g10,g11]at Q U
       by_cases Z:k<a.itms.n
       ·obtain⟨x,K⟩:=aC H.itms.1 Z
        obtain⟨y,L⟩:=aC I.itms.1 (show k<b.itms.n by have:=bw.out;omega)
        have i0:(0:Int)≤(k:Int):=by omega
        have i1:(k:Int)<(a.itms.n:Int):=by omega
        have i2:(k:Int)<(b.itms.n:Int):=by have:=bw.out;omega
        have HE:=hid K
        have p:=hid L
        obtain⟨eb,bn,A1,a4,c1,V,q0,q1,q2,q3,q4,q5,q6,q7,q8,a3⟩:=fW H.itms.2.2 K
        obtain⟨a8,ac,A2,a5,c2,X,s0,s1,s2,s3,s4,s5,s6,s7,s8,F⟩:=fW I.itms.2.2 L
        rw[V]at Q
        rw[X]at U
        replace q0:=ai.keep ((j.trans f).keep q0)
        replace s0:=ai.keep ((j.trans f).keep s0)
        replace q1:=ai.keep ((j.trans f).keep q1)
        replace s1:=ai.keep ((j.trans f).keep s1)
        replace q2:=ai.keep ((j.trans f).keep q2)
        replace s2:=ai.keep ((j.trans f).keep s2)
        replace q3:=ai.keep ((j.trans f).keep q3)
        replace s3:=ai.keep ((j.trans f).keep s3)
        replace q4:=ai.keep ((j.trans f).keep q4)
        replace s4:=ai.keep ((j.trans f).keep s4)
        replace q5:=ai.keep ((j.trans f).keep q5)
        replace s5:=ai.keep ((j.trans f).keep s5)
        replace q6:=ai.keep ((j.trans f).keep q6)
        replace s6:=ai.keep ((j.trans f).keep s6)
        replace q7:=ai.keep ((j.trans f).keep q7)
        replace s7:=ai.keep ((j.trans f).keep s7)
        replace q8:=ai.keep ((j.trans f).keep q8)
        replace s8:=ai.keep ((j.trans f).keep s8)
        have a6:=ai.keep Q
        have a7:=ai.keep U
        have O:Hid (∀z:ai wr,Cl 19 #[x.ex.d.val A1 a4 c1,y.ex.d.val A2 a5 c2] z.now _):=fun z=>kT x.ex y.ex A1 A2 a4 a5 c1 c2 z.now (a3.ext ((j.trans f).trans z.ext)) (F.ext ((j.trans f).trans z.ext))
        unfold Nd.val at O
        clear K L f hr a3 F
        obtain⟨b0,o⟩:∃b,(x.ag==y.ag)=b:=⟨_,rfl⟩
        have nb:(x.ag !=y.ag)=!b0:=by rw[bne,o]
        cases b0
        ·have D:Hid (Itm.same x y=false):=by unfold Hid Itm.same;simp[←bz,o]
         have E:Hid (allS Itm.same s.itms t.itms=false):=bS HE p D
         go_wp2_with fail
         refine af (by kernel_rfl) (by kernel_rfl) ?_
         repeat (go_big_quiet_step ((go_at_call 19;with_reducible exact aq (O.out _))))
         refine wpQuiet_nil ?_
         intro w2 h
         have l:=am h
         clear h
         go_wp2_with fail
         go_ret
         exact⟨aa (by rw[←G.out,E.out];simp),j.trans (m.trans l)⟩
        ·obtain⟨b1,B⟩:∃b,(x.ex.same y.ex)=b:=⟨_,rfl⟩
         rw[B]at O
         cases b1
         ·have D:Hid (Itm.same x y=false):=by unfold Hid Itm.same;simp[←bz,o,B]
          have E:Hid (allS Itm.same s.itms t.itms=false):=bS HE p D
          go_wp2_with fail
          refine af (by kernel_rfl) (by kernel_rfl) ?_
          repeat (go_big_quiet_step ((go_at_call 19;with_reducible exact aq (O.out _))))
          refine wpQuiet_nil ?_
          intro w2 h
          have l:=am h
          clear h
          go_wp2_with fail
          go_ret
          exact⟨aa (by rw[←G.out,E.out];simp),j.trans (m.trans l)⟩
         ·have D:Hid (Itm.same x y=true):=by unfold Hid Itm.same;simp[←bz,o,B]
          go_wp2_with fail
          refine af (by kernel_rfl) (by kernel_rfl) ?_
          repeat (go_big_quiet_step ((go_at_call 19;with_reducible exact aq (O.out _))))
          refine wpQuiet_nil ?_
          intro w2 h
          have l:=am h
          clear h
          go_wp2_with fail
          go_roundw
          case rel=>exact⟨k+1,by omega,by go_num,C.succ HE p D,m.trans l⟩
          case measure=>simp[intOf];omega
       ·obtain Y:k=a.itms.n:=by omega
        subst Y
        have cp:Hid (allS Itm.same s.itms t.itms=true):=eV H.itms.1 (I.itms.1.trans bw.symm) C
        go_wp2_with fail
        go_loopw [8] (fun iv wr=> ∃(k:Nat),k≤a.frm.n∧iv= i4 k∧STo Src.same s.frm t.frm k∧Ext w4 wr) (fun i _=>a.frm.n- (intOf i).toNat)
        case atStart=>exact⟨0,Nat.zero_le _,rfl,STo.zero _ _ _,m⟩
        case round=>
         obtain⟨k,a9,rfl,hr,f⟩:=hrel
         have m:=hid f
         have C:=hid hr
         have Q:=(HB.ext f).cell 9
         have U:=(HC.ext f).cell 9
         simp only[g10,g11]at Q U
         by_cases Z:k<a.frm.n
         ·obtain⟨x,K⟩:=aC H.frm.1 Z
          obtain⟨y,L⟩:=aC I.frm.1 (show k<b.frm.n by have:=bN.out;omega)
          have i0:(0:Int)≤(k:Int):=by omega
          have i1:(k:Int)<(a.frm.n:Int):=by omega
          have i2:(k:Int)<(b.frm.n:Int):=by have:=bN.out;omega
          have HE:=hid K
          have p:=hid L
          obtain⟨_,eb,bn,V,q0,q1⟩:=H.frm.2.2 k x K
          obtain⟨_,a8,ac,X,s0,s1⟩:=I.frm.2.2 k y L
          rw[V]at Q
          rw[X]at U
          replace q0:=ai.keep ((j.trans f).keep q0)
          replace s0:=ai.keep ((j.trans f).keep s0)
          replace q1:=ai.keep ((j.trans f).keep q1)
          replace s1:=ai.keep ((j.trans f).keep s1)
          have a6:=ai.keep Q
          have a7:=ai.keep U
          clear K L f hr
          obtain⟨x0,x1⟩:=x
          obtain⟨y0,y1⟩:=y
          simp only at*
          obtain⟨b0,o⟩:∃b,(x0.toList==y0.toList)=b:=⟨_,rfl⟩
          cases b0
          ·have D:Hid (Src.same ⟨x0,x1⟩ ⟨y0,y1⟩=false):=by unfold Hid Src.same sN;simp[←bz,o]
           have E:Hid (allS Src.same s.frm t.frm=false):=bS HE p D
           go_wp2_with fail
           refine af (by kernel_rfl) (by kernel_rfl) ?_
           repeat (go_big_quiet_step (fail))
           refine wpQuiet_nil ?_
           intro w2 h
           have l:=am h
           clear h
           go_wp2_with fail
           go_ret
           exact⟨aa (by rw[←G.out,E.out];simp),j.trans (m.trans l)⟩
          ·obtain⟨b1,B⟩:∃b,(x1.toList==y1.toList)=b:=⟨_,rfl⟩
           cases b1
           ·have D:Hid (Src.same ⟨x0,x1⟩ ⟨y0,y1⟩=false):=by unfold Hid Src.same sN;simp[←bz,o,B]
            have E:Hid (allS Src.same s.frm t.frm=false):=bS HE p D
            go_wp2_with fail
            refine af (by kernel_rfl) (by kernel_rfl) ?_
            repeat (go_big_quiet_step (fail))
            refine wpQuiet_nil ?_
            intro w2 h
            have l:=am h
            clear h
            go_wp2_with fail
            go_ret
            exact⟨aa (by rw[←G.out,E.out];simp),j.trans (m.trans l)⟩
           ·have D:Hid (Src.same ⟨x0,x1⟩ ⟨y0,y1⟩=true):=by unfold Hid Src.same sN;simp[←bz,o,B]
            go_wp2_with fail
            refine af (by kernel_rfl) (by kernel_rfl) ?_
            repeat (go_big_quiet_step (fail))
            refine wpQuiet_nil ?_
            intro w2 h
            have l:=am h
            clear h
            go_wp2_with fail
            go_roundw
            case rel=>exact⟨k+1,by omega,by go_num,C.succ HE p D,m.trans l⟩
            case measure=>simp[intOf];omega
         ·obtain Y:k=a.frm.n:=by omega
          subst Y
          have ct:Hid (allS Src.same s.frm t.frm=true):=eV H.frm.1 (I.frm.1.trans bN.symm) C
          go_wp2_with fail
          go_loopw [9] (fun iv wr=> ∃(k:Nat),k≤a.ord.n∧iv= i4 k∧STo Ord'.same s.ord t.ord k∧Ext w4 wr) (fun i _=>a.ord.n- (intOf i).toNat)
          case atStart=>exact⟨0,Nat.zero_le _,rfl,STo.zero _ _ _,m⟩
          case round=>
           obtain⟨k,a9,rfl,hr,f⟩:=hrel
           have m:=hid f
           have C:=hid hr
           have Q:=(HB.ext f).cell 19
           have U:=(HC.ext f).cell 19
           simp only[g10,g11]at Q U
           by_cases Z:k<a.ord.n
           ·obtain⟨x,K⟩:=aC H.ord.1 Z
            obtain⟨y,L⟩:=aC I.ord.1 (show k<b.ord.n by have:=b6.out;omega)
            have i0:(0:Int)≤(k:Int):=by omega
            have i1:(k:Int)<(a.ord.n:Int):=by omega
            have i2:(k:Int)<(b.ord.n:Int):=by have:=b6.out;omega
            have HE:=hid K
            have p:=hid L
            obtain⟨_,eb,bn,V,q0,q1⟩:=H.ord.2.2 k x K
            obtain⟨_,a8,ac,X,s0,s1⟩:=I.ord.2.2 k y L
            rw[V]at Q
            rw[X]at U
            replace q0:=ai.keep ((j.trans f).keep q0)
            replace s0:=ai.keep ((j.trans f).keep s0)
            replace q1:=ai.keep ((j.trans f).keep q1)
            replace s1:=ai.keep ((j.trans f).keep s1)
            have a6:=ai.keep Q
            have a7:=ai.keep U
            clear K L f hr
            obtain⟨x0,x1⟩:=x
            obtain⟨y0,y1⟩:=y
            simp only at*
            obtain⟨b0,o⟩:∃b,(x0==y0)=b:=⟨_,rfl⟩
            cases b0
            ·have D:Hid (Ord'.same ⟨x0,x1⟩ ⟨y0,y1⟩=false):=by unfold Hid Ord'.same;simp[←bz,o]
             have E:Hid (allS Ord'.same s.ord t.ord=false):=bS HE p D
             go_wp2_with fail
             refine af (by kernel_rfl) (by kernel_rfl) ?_
             repeat (go_big_quiet_step (fail))
             refine wpQuiet_nil ?_
             intro w2 h
             have l:=am h
             clear h
             go_wp2_with fail
             go_ret
             exact⟨aa (by rw[←G.out,E.out];simp),j.trans (m.trans l)⟩
            ·obtain⟨b1,B⟩:∃b,(x1==y1)=b:=⟨_,rfl⟩
             cases b1
             ·have D:Hid (Ord'.same ⟨x0,x1⟩ ⟨y0,y1⟩=false):=by unfold Hid Ord'.same;simp[←bz,o,B]
              have E:Hid (allS Ord'.same s.ord t.ord=false):=bS HE p D
              go_wp2_with fail
              refine af (by kernel_rfl) (by kernel_rfl) ?_
              repeat (go_big_quiet_step (fail))
              refine wpQuiet_nil ?_
              intro w2 h
              have l:=am h
              clear h
              go_wp2_with fail
              go_ret
              exact⟨aa (by rw[←G.out,E.out];simp),j.trans (m.trans l)⟩
             ·have D:Hid (Ord'.same ⟨x0,x1⟩ ⟨y0,y1⟩=true):=by unfold Hid Ord'.same;simp[←bz,o,B]
              go_wp2_with fail
              refine af (by kernel_rfl) (by kernel_rfl) ?_
              repeat (go_big_quiet_step (fail))
              refine wpQuiet_nil ?_
              intro w2 h
              have l:=am h
              clear h
              go_wp2_with fail
              go_roundw
              case rel=>exact⟨k+1,by omega,by go_num,C.succ HE p D,m.trans l⟩
              case measure=>simp[intOf];omega
           ·obtain Y:k=a.ord.n:=by omega
            subst Y
            have cv:Hid (allS Ord'.same s.ord t.ord=true):=eV H.ord.1 (I.ord.1.trans b6.symm) C
            go_wp2_with fail
            go_ret
            exact⟨aa (by rw[←G.out,cd.out,ck.out,cp.out,ct.out,cv.out];rfl),j.trans m⟩
 all_goals
  simp only[Bool.not_true,Bool.not_false]at n1 n2 n3 n4
  go_wp2_with (first|(go_at_call 37;(with_reducible refine(H3.out _ ((HX.out.trans h).trans u)).mono ?_);rintro _ w4 ⟨rfl,J⟩;obtain⟨-,-,-,-,-,-,-,-,-,-,-,-,-,-,-,-,-,-,-,an,ax,aS,-⟩:=cls (HB.ext ((h.trans u).trans J));obtain⟨-,-,-,-,-,-,-,-,-,-,-,-,-,-,-,-,-,-,-,a0,a1,a2,-⟩:=cls (HC.ext ((h.trans u).trans J)))|(go_at_call 19;(with_reducible refine(H2.out _ (HX.out.trans h)).mono ?_);rintro _ w3 ⟨rfl,u⟩;obtain⟨-,-,-,-,-,-,-,-,-,-,-,-,-,-,-,-,-,-,b7,an,ax,aS,-⟩:=cls (HB.ext (h.trans u));obtain⟨-,-,-,-,-,-,-,-,-,-,-,-,-,-,-,-,-,-,b9,a0,a1,a2,-⟩:=cls (HC.ext (h.trans u)))|(go_at_call 36;(with_reducible refine(O.out _ (HX.out)).mono ?_);rintro _ w2 ⟨rfl,h⟩;obtain⟨-,-,-,-,-,-,e6,e7,e8,e9,c5,c6,c7,c8,c9,df,dp,ds,b7,an,ax,aS,-⟩:=cls (HB.ext (h));obtain⟨-,-,-,-,-,-,f6,f7,f8,f9,f10,dw,f12,dx,d0,d1,d2,d3,b9,a0,a1,a2,-⟩:=cls (HC.ext (h))))
  go_ret
  refine⟨aa ?_,?_⟩
  ·first|(rw[HL.out];done)|(rw[HL.out];simp)
  ·first|exact((HX.trans h).trans u).trans J|exact(HX.trans h).trans u|exact HX.trans h|exact HX
end Go.Proofs.YtjigcpfjhfoheaaGreatDoor
