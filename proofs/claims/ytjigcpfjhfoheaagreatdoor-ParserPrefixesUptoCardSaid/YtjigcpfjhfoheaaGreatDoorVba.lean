/- Walks: the reference's text of a statement; The reference's test of a statement is the program's; no program in sight; Walks: the reference's well-formed queries; Walks: the reference's test of a statement; Walks: Valid and Format. -/
import Derived.Test.YtjigcpfjhfoheaaGreatDoorVaj
import Derived.Deep.RegionHeldLaw
namespace Go.Proofs.YtjigcpfjhfoheaaGreatDoor
open Go.RowKit List Go.Proofs.Tryz
set_option maxHeartbeats 4000000
set_option maxRecDepth 100000
set_option linter.unusedVariables false
set_option linter.unusedSimpArgs false
theorem rt (s:St) (a:SA) (w:World) (hv:StV w s a) (hf:s.formed=true) (hF:s.Fits) (hb:s.bulk≤1048576):
  Cl 49 #[s.val a] w (Rt (.string s.body) w):=by
 obtain⟨i0,hi,bd,be,bf⟩:=info_parts gN
 have J:=cu hf
 have a3:=gO s hb
 have a9:=dS s hb
 have p:=hid (Blk.of_new w 40 (s.cells a))
 have H:=hid (x10 w (.cells (s.cells a).toArray 40))
 have z1:s.tb.size≤1048576:=a3.1
 have z2:s.nm.size≤1048576:=a3.2.1
 have z3:=jT s (gM hf) hF.whr
 have P:=hid (fun W (o:Ext w W)=>pQ s a W (hv.whr.ext o) (gM hf) hF.whr)
 have a7:s.kd=2∨s.kd=3∨s.kd=5∨s.kd=6∨s.kd=7∨s.kd=8∨s.kd=9∨s.kd=10∨s.kd=11∨s.kd=1∨s.kd=4:=by have:=J.1;omega
 have a8:=a7
 rcases a8 with hk|hk|hk|hk|hk|hk|hk|hk|hk|hk|hk
 all_goals
  first|have e1:(s.kd==1)=false:=by simp[hk]|have e1:(s.kd==1)=true:=by simp[hk]
  first|have e2:(s.kd==2)=false:=by simp[hk]|have e2:(s.kd==2)=true:=by simp[hk]
  first|have e3:(s.kd==3)=false:=by simp[hk]|have e3:(s.kd==3)=true:=by simp[hk]
  first|have e4:(s.kd==4)=false:=by simp[hk]|have e4:(s.kd==4)=true:=by simp[hk]
  first|have e5:(s.kd==5)=false:=by simp[hk]|have e5:(s.kd==5)=true:=by simp[hk]
  first|have e6:(s.kd==6)=false:=by simp[hk]|have e6:(s.kd==6)=true:=by simp[hk]
  first|have e7:(s.kd==7)=false:=by simp[hk]|have e7:(s.kd==7)=true:=by simp[hk]
  first|have e8:(s.kd==8)=false:=by simp[hk]|have e8:(s.kd==8)=true:=by simp[hk]
  first|have e9:(s.kd==9)=false:=by simp[hk]|have e9:(s.kd==9)=true:=by simp[hk]
  first|have bn:(s.kd==10)=false:=by simp[hk]|have bn:(s.kd==10)=true:=by simp[hk]
 have m:s.body=⟨#[73,78,83,69,82,84,32,73,78,84,79,32]⟩++s.tb++⟨#[32,86,65,76,85,69,83,32]⟩++cma (s.vals.map dV):=by unfold St.body;simp[hk]
 rw[m]
 have K:=J.2.2.2.1 hk
 have a2:∀x∈s.vals,x.all Ex.formed=true:=fun x u=>by have:=List.all_eq_true.1 K x u;unfold rowOk at this;simp only[Bool.and_eq_true]at this;exact this.2
 have y:=Nat.le_trans (bb dV bkR 100 s.vals fun x u=>pJ (a2 x u)) (show _≤104857600 by omega)
 have z4:(cma (s.vals.map dV)).size≤104857600:=Nat.le_trans (aW _) y
 have V:=hid hv.vals
 have O:=hid a2
 have F:=hid hF.vals
 have bv:a.vals.n≤1048576:=by have:=hv.vals.1;omega
 have HZ:Hid (bX (s.vals.map dV)≤1000000000):=by unfold Hid;omega
 clear K a2 y P
 obtain⟨TE,D⟩:∃TE,cma (s.vals.map dV)=TE:=⟨_,rfl⟩
 rw[D]at z4 ⊢
 have ax:=hid D
 clear D
 rotate_left
 have m:s.body=⟨#[85,80,68,65,84,69,32]⟩++s.tb++⟨#[32,83,69,84,32]⟩++cma (s.sets.map Asg.tx)++s.whT:=by unfold St.body;simp[hk]
 rw[m]
 have K:=J.2.2.2.2.2.1 hk
 have y:=Nat.le_trans (bb Asg.tx bkA 100 s.sets fun x u=>pK (List.all_eq_true.1 K x u)) (show _≤104857600 by omega)
 have z4:(cma (s.sets.map Asg.tx)).size≤104857600:=Nat.le_trans (aW _) y
 have V:=hid hv.sets
 have O:=hid K
 have F:=hid hF.sets
 have bv:a.sets.n≤1048576:=by have:=hv.sets.1;omega
 have HZ:Hid (bX (s.sets.map Asg.tx)≤1000000000):=by unfold Hid;omega
 clear K y
 generalize s.whT=TW at*
 obtain⟨TE,D⟩:∃TE,cma (s.sets.map Asg.tx)=TE:=⟨_,rfl⟩
 rw[D]at z4 ⊢
 have ax:=hid D
 clear D
 rotate_left
 have m:s.body=s.sel:=by unfold St.body;simp[hk]
 rw[m]
 have HE:=hid (fun W (o:Ext w W)=>rsel_any s a W (hv.ext o) (J.2.2.2.2.2.2.2.1 hk) (gM hf) hF hb)
 clear P z3
 generalize s.sel=TE at*
 rotate_left
 have m:s.body=⟨#[66,69,71,73,78]⟩:=by unfold St.body;simp[hk]
 rw[m]
 clear P z3
 rotate_left
 have m:s.body=⟨#[67,79,77,77,73,84]⟩:=by unfold St.body;simp[hk]
 rw[m]
 clear P z3
 rotate_left
 have m:s.body=⟨#[82,79,76,76,66,65,67,75]⟩:=by unfold St.body;simp[hk]
 rw[m]
 clear P z3
 rotate_left
 have m:s.body=⟨#[83,65,86,69,80,79,73,78,84,32]⟩++s.nm:=by unfold St.body;simp[hk]
 rw[m]
 clear P z3
 rotate_left
 have m:s.body=⟨#[82,79,76,76,66,65,67,75,32,84,79,32]⟩++s.nm:=by unfold St.body;simp[hk]
 rw[m]
 clear P z3
 rotate_left
 have m:s.body=⟨#[82,69,76,69,65,83,69,32]⟩++s.nm:=by unfold St.body;simp[hk]
 rw[m]
 clear P z3
 rotate_left
 have m:s.body=⟨#[67,82,69,65,84,69,32,84,65,66,76,69,32]⟩++s.tb++⟨#[32,40]⟩++cma s.elts++⟨#[41]⟩:=by unfold St.body;simp[hk]
 rw[m]
 have hd:=J.2.1 hk
 have y:=Nat.le_trans (nK hd) (show _≤104857600 by omega)
 have z4:(cma s.elts).size≤104857600:=Nat.le_trans (aW _) y
 have HE:=hid (fun W (o:Ext w W)=>qQ s a W (hv.ext o) hd a9.1 (by omega) hF.chk)
 clear hd y P
 generalize cma s.elts=TE at*
 rotate_left
 have m:s.body=fX++s.tb++s.whT:=by unfold St.body;simp[hk]
 rw[m]
 generalize s.whT=TW at*
 unfold fX
 rotate_left
 all_goals
  clear hv hk hf hF hb J a3 a9 m a7
  unfold St.val at*
  unfold St.cells Sl.v at*
  go_enter func49,ntmps49
  go_upto_region 1 with fail
  generalize w.alloc (.cells _ 40)=R at*
  generalize w.heap.size=g at*
  have ag:=hid (fF R 9 1 0 0 0 R.heap.size #[] (Nat.le_refl _) rfl (by decide))
  have I:=hid (x10 R (.cells #[] 9))
  go_upto_region 2 with fail
  obtain⟨Z,a5⟩:∃Z,R.heap.size=Z:=⟨_,rfl⟩
  rw[a5]at ag ⊢
  have a4:Hid (Z≤R.heap.size):=by unfold Hid;omega
  have ac:Hid (R.heap.size≤Z):=by unfold Hid;omega
  clear a5
  generalize R.alloc (.cells #[] 9)=w1 at*
 ·have p0:=(p.ext I).cell 0
  simp only[g10,g11]at p0
  go_wp2_with fail
  clear p0
  go_loopw [3,4] (fun nv iv wr=> ∃(k:Nat),k≤a.vals.n∧iv= i4 k∧wr.ownsRow Z 9 1 nv k (fH ((s.vals.take k).map dV))∧Ext R wr) (fun _ i _=>a.vals.n- (intOf i).toNat)
  case atStart=>exact⟨0,Nat.zero_le _,rfl,ag,I⟩
  case round=>
   obtain⟨k,bo,rfl,A,l⟩:=hrel
   have L:=hid A
   have f:=hid l
   clear A
   have cb:=((p).ext l).cell 6
   simp only[g10,g11]at cb
   by_cases a1:k<a.vals.n
   ·obtain⟨x,u⟩:=aC V.1 a1
    obtain⟨b,e,Ai,ni,ci,hA,q0,h1,h2⟩:=(V.2.2.ext (H.trans l)) k x u
    rw[hA]at cb
    have HT:Hid ((s.vals.take (k+1)).map dV=(s.vals.take k).map dV++ [dV x]):=by unfold Hid;rw[ez u,map_append];rfl
    have aS:=O x (mem_of_getElem? u)
    have ba:=F x (mem_of_getElem? u)
    have HE:=hid (pO x Ai ni ci wr h1 h2 aS ba)
    have bx:(exsT x).size≤100000:=Nat.le_trans (aW _) (Nat.le_trans (gL aS) (by omega))
    have Q:dV x=⟨#[40]⟩++exsT x++⟨#[41]⟩:=rfl
    rw[Q]at HT
    clear u l hA h1 h2 aS ba Q
    generalize exsT x=T1 at*
    go_wp2_with (first|(go_at_call 86;(with_reducible refine HE.out.mono ?_);rintro _ w2 ⟨rfl,h⟩)|(at_builtin;generalize ⟨#[40]⟩++T1++⟨#[41]⟩=TB at*;refine wpList_append_any _ rfl (.tmp 29) (.tmp 38) 101 rfl Z 9 i0 _ 1 16 underlying101 hi bd be bf rfl (by decide) _ k _ rfl ((ownN_ext L.out h).alloc _) _ _ 1 1 [.string TB] rfl (reads_new1 w2 _ _) (by simp[Value.oneCell']) (by unfold maxLen;omega) (by omega) (Nat.le_trans a4.out (Nat.le_trans (f.out.trans h).size (by simp))) ?_;intro v1 w5 j t E;have an:=hid j;have ad:=hid t;clear j t E))
    go_roundw
    case rel=>
     have a0:=bg L
     refine⟨k+1,by omega,by go_num,?_,((f.trans h).alloc _).grown ad fun q hq=>Nat.le_trans ac (a0 q hq)⟩
     rw[HT.out,bh]
     exact an
    case measure=>simp[intOf];omega
   ·obtain rfl:k=a.vals.n:=by omega
    rw[take_of_length_le (Nat.le_of_eq V.1)]at L
    go_wp2_with fail
    replace p:=hid (p.ext f)
    have HC:=hid (fun W (o:Ext wr W)=>eu _ _ _ _ W (ownN_ext L o) HZ)
    clear cb l V O F HZ L
    rw[ax.out]at HC
    have K1:Hid (∀z:ai wr,Cl 87 _ z.now _):=fun z=>HC z.now z.ext
    have l1:=ai.keep (p.cell_some (i:=1) rfl)
    refine af (by kernel_rfl) (by kernel_rfl) ?_
    repeat (first|(refine cT rfl 40 (.tmp 1) rfl g rfl 40 _ _ (gk p) underlying40 rfl (by kernel_rfl) ?_;go_simp)|go_big_quiet_step (first|(go_at_call 87;with_reducible exact aq (K1.out _))))
    refine wpQuiet_nil ?_
    first|(intro wb B;have C:=am B;clear B)|(intro U;have C:=U.ext;generalize U.now=wb at*;clear U)
    go_wp2_with fail
    go_ret
    exact⟨rfl,H.trans (f.trans C)⟩
 ·have p0:=(p.ext I).cell 0
  simp only[g10,g11]at p0
  go_wp2_with fail
  clear p0
  go_loopw [3,5] (fun nv iv wr=> ∃(k:Nat),k≤a.sets.n∧iv= i4 k∧wr.ownsRow Z 9 1 nv k (fH ((s.sets.take k).map Asg.tx))∧Ext R wr) (fun _ i _=>a.sets.n- (intOf i).toNat)
  case atStart=>exact⟨0,Nat.zero_le _,rfl,ag,I⟩
  case round=>
   obtain⟨k,bo,rfl,A,l⟩:=hrel
   have L:=hid A
   have f:=hid l
   clear A
   have cb:=((p).ext l).cell 7
   simp only[g10,g11]at cb
   by_cases a1:k<a.sets.n
   ·obtain⟨x,u⟩:=aC V.1 a1
    have a6:=V.2.2.ext H
    have X:=p.cell 7
    simp only[g10,g11]at X
    obtain⟨b,e,Ai,ni,ci,hA,q0,q1,q2,q3,q4,q5,q6,q7,q8,q9,h1⟩:=fV a6 u
    rw[hA]at cb X
    have HT:Hid ((s.sets.take (k+1)).map Asg.tx=(s.sets.take k).map Asg.tx++ [x.tx]):=by unfold Hid;rw[ez u,map_append];rfl
    have Y:=asg_nm (List.all_eq_true.1 O x (mem_of_getElem? u))
    have HE:=hid (fun W (o:Ext R W)=>fq x.ex 1 Ai ni ci W (h1.ext o) Y.2 (F x (mem_of_getElem? u)))
    have bx:(x.ex.tx 1).size≤100000:=by have:=cK x.ex 1 Y.2;have:=F x (mem_of_getElem? u);omega
    have Q:x.tx=x.cl++⟨#[32,61,32]⟩++x.ex.tx 1:=rfl
    rw[Q]at HT
    have bN:=Y.1
    clear u hA h1 Y Q a6 q1
    unfold Nd.val at HE
    generalize x.ex.tx 1=T1 at*
    generalize x.ex.d=d at*
    generalize x.cl=cl at*
    obtain⟨op,tb,nm,ix,vk,vi,vt⟩:=d
    simp only at*
    have bY:(0:Int)≤(k:Int):=by omega
    have b0:(k:Int)<(a.sets.n:Int):=by omega
    have G:Hid (∀W,Ext R W→W.cell? ⟨g,7,none⟩=some (.slice (some ⟨b,e,none⟩) a.sets.n a.sets.c)∧W.cell? ⟨b,e+k*10,none⟩=some (.string cl)∧W.cell? ⟨b,e+k*10+2,none⟩=some (i4 op)∧W.cell? ⟨b,e+k*10+3,none⟩=some (.string tb)∧W.cell? ⟨b,e+k*10+4,none⟩=some (.string nm)∧W.cell? ⟨b,e+k*10+5,none⟩=some (i4 ix)∧W.cell? ⟨b,e+k*10+6,none⟩=some (i4 vk)∧W.cell? ⟨b,e+k*10+7,none⟩=some (i4 vi)∧W.cell? ⟨b,e+k*10+8,none⟩=some (.string vt)∧W.cell? ⟨b,e+k*10+9,none⟩=some (.slice Ai ni ci)):=fun W o=>⟨o.keep X,o.keep q0,o.keep q2,o.keep q3,o.keep q4,o.keep q5,o.keep q6,o.keep q7,o.keep q8,o.keep q9⟩
    obtain⟨d7,d0,d2,d3,d4,d5,d6,bm,d8,d9⟩:=G _ l
    clear l q0 q2 q3 q4 q5 q6 q7 q8 q9 X
    go_wp2_with fail
    go_region_held_law (fun w'=>w'.cell? ⟨g,7,none⟩=some (.slice (some ⟨b,e,none⟩) a.sets.n a.sets.c)∧w'.cell? ⟨b,e+k*10,none⟩=some (.string cl)∧w'.cell? ⟨b,e+k*10+2,none⟩=some (i4 op)∧w'.cell? ⟨b,e+k*10+3,none⟩=some (.string tb)∧w'.cell? ⟨b,e+k*10+4,none⟩=some (.string nm)∧w'.cell? ⟨b,e+k*10+5,none⟩=some (i4 ix)∧w'.cell? ⟨b,e+k*10+6,none⟩=some (i4 vk)∧w'.cell? ⟨b,e+k*10+7,none⟩=some (i4 vi)∧w'.cell? ⟨b,e+k*10+8,none⟩=some (.string vt)∧w'.cell? ⟨b,e+k*10+9,none⟩=some (.slice Ai ni ci))
     (first|go_keep|exact G _ f.drew|exact G _ f.out|exact G _ (f.trans h)|exact G _ ((f.trans h).alloc _)|exact G _ (((f.trans h).alloc _).grown t fun q hq=>Nat.le_trans ac (bg L q hq)))
     (first
      |(go_at_call 50;(with_reducible refine(HE.out _ f.out.drew).mono ?_);rintro _ w2 ⟨rfl,h⟩;replace h:Ext wr w2:=(Ext.refl wr).drew.trans h)
      |(generalize cl++⟨#[32,61,32]⟩++T1=TB at*;refine fJ _ rfl (.tmp 56) (.tmp 72) 101 rfl Z 9 i0 _ 1 16 underlying101 hi bd be bf rfl (by decide) _ k _ rfl ((ownN_ext L h).alloc _) _ _ 1 1 [.string TB] rfl (reads_new1 w2 _ _) (by simp[Value.oneCell']) (by unfold maxLen;omega) (by omega) (Nat.le_trans a4 (Nat.le_trans (f.trans h).size (by simp))) ?_;intro v1 w5 j t E))
    all_goals
     have an:=hid j
     have ad:=hid t
     rename_i hHeld
     clear hHeld j t E d7 d0 d2 d3 d4 d5 d6 bm d8 d9
     go_wp2_with fail
     go_roundw
     case rel=>
      have a0:=bg L
      refine⟨k+1,by omega,by go_num,?_,((f.trans h).alloc _).grown ad fun q hq=>Nat.le_trans ac (a0 q hq)⟩
      rw[HT.out,bh]
      exact an
     case measure=>simp[intOf];omega
   ·obtain rfl:k=a.sets.n:=by omega
    rw[take_of_length_le (Nat.le_of_eq V.1)]at L
    go_wp2_with fail
    replace p:=hid (p.ext f)
    have HC:=hid (fun W (o:Ext wr W)=>eu _ _ _ _ W (ownN_ext L o) HZ)
    clear cb l V O F HZ L
    rw[ax.out]at HC
    have K1:Hid (∀z:ai wr,Cl 87 _ z.now _):=fun z=>HC z.now z.ext
    have K2:Hid (∀z:ai wr,Cl 88 _ z.now _):=fun z=>P z.now (H.trans (f.trans z.ext))
    have l1:=ai.keep (p.cell_some (i:=1) rfl)
    refine af (by kernel_rfl) (by kernel_rfl) ?_
    repeat (first|(refine cT rfl 40 (.tmp 1) rfl g rfl 40 _ _ (gk p) underlying40 rfl (by kernel_rfl) ?_;go_simp)|go_big_quiet_step (first|(go_at_call 87;with_reducible exact aq (K1.out _))|(go_at_call 88;with_reducible exact aq (K2.out _))))
    refine wpQuiet_nil ?_
    first|(intro wb B;have C:=am B;clear B)|(intro U;have C:=U.ext;generalize U.now=wb at*;clear U)
    go_wp2_with fail
    go_ret
    exact⟨rfl,H.trans (f.trans C)⟩
 all_goals
  replace p:=hid (p.ext I)
  replace H:=hid (H.trans I)
  obtain⟨p0,-,-,-,-,-,-,-,-,-,-,-,-,-,-,-,-,-,-,-,-,b1,-⟩:=cls (p)
 ·go_wp2_with (first|(refine aw rfl 40 (.tmp 1) rfl g rfl 40 _ _ p underlying40 rfl (by kernel_rfl) ?_)|(go_at_call 89;(with_reducible refine(HE.out _ H.out).mono ?_);rintro _ w5 ⟨rfl,bw⟩))
  go_ret
  exact⟨rfl,H.trans bw⟩
 iterate 6 (go_wp2_with fail;go_ret;exact⟨rfl,H⟩)
 go_wp2_with fail
 have K1:Hid (∀z:ai w1,Cl 85 _ z.now _):=fun z=>HE z.now (H.trans z.ext)
 obtain⟨-,l1,l2,l3,l4,l5,-⟩:=lks p
 rotate_left
 go_wp2_with fail
 have K2:Hid (∀z:ai w1,Cl 88 _ z.now _):=fun z=>P z.now (H.trans z.ext)
 have l1:=ai.keep (p.cell_some (i:=1) rfl)
 rotate_left
 all_goals
  refine af (by kernel_rfl) (by kernel_rfl) ?_
  repeat (first|(refine cT rfl 40 (.tmp 1) rfl g rfl 40 _ _ (gk p) underlying40 rfl (by kernel_rfl) ?_;go_simp)|go_big_quiet_step (first|(with_reducible exact aq (K1.out _))|(with_reducible exact aq (K2.out _))))
  refine wpQuiet_nil ?_
  first|(intro wb B;have C:=am B;clear B)|(intro U;have C:=U.ext;generalize U.now=wb at*;clear U)
  go_wp2_with fail
  go_ret
  exact⟨rfl,H.trans C⟩
def St.rformed (s:St):Bool:=
 let tabled:=decide (1≤s.kd) &&decide (s.kd≤4)
 let named:=decide (9≤s.kd) &&decide (s.kd≤11)
 !((s.kd !=1&&!s.noDef)||(s.kd !=2&&decide (0<s.vals.length))||(s.kd !=3&&decide (0<s.sets.length))) &&
  !(s.kd !=5&& (decide (0<s.itms.length+s.frm.length+s.grp.length+s.ord.length)||s.lim !=0)) &&
  !((tabled&&!nameB s.tb)||(!tabled&&!s.tb.toList.isEmpty)||(named&&!nameB s.nm)||(!named&&!s.nm.toList.isEmpty)) &&
  !(!s.whr.absent&& ((decide (s.kd<3)||decide (5<s.kd))||!s.whr.formed)) &&
  (if s.kd=1 then s.defOk else if s.kd=2 then decide (0<s.vals.length) &&s.vals.all rowOk else if s.kd=3 then decide (0<s.sets.length) &&s.sets.all Asg.ok else if s.kd=5 then s.qOk else s.kd==4||decide (6≤s.kd) &&decide (s.kd≤11))
theorem name_ne {s:BA} (h:nameB s=true):s.toList.isEmpty=false:=by
 rw[←eo]
 cases a:(s.size==0)
 ·rfl
 ·rw[kH (by simpa using a)]at h;cases h
theorem def_ne {s:St} (h:s.defOk=true):s.noDef=false:=by
 unfold St.defOk at h
 simp only[Bool.and_eq_true]at h
 simpa using h.1.1.1.1
theorem q_ne {s:St} (h:s.qOk=true):decide (0<s.frm.length)=true:=by
 unfold St.qOk at h
 simp only[Bool.and_eq_true]at h
 exact h.1.1.1.1.2
theorem wK (s:St):s.rformed=s.formed:=by
 have a:= @name_ne s.tb
 have e:= @name_ne s.nm
 have hd:= @def_ne s
 have l:= @q_ne s
 have y:∀b:Bool,decide (0<s.itms.length+s.frm.length+s.grp.length+s.ord.length)=(decide (0<s.frm.length)||!decide (s.itms.length+s.grp.length+s.ord.length=0)):=fun _=>by
  rw[Bool.eq_iff_iff,Bool.or_eq_true,Bool.not_eq_true',decide_eq_true_eq,decide_eq_true_eq,decide_eq_false_iff_not];omega
 unfold St.rformed St.formed
 dsimp only
 rw[y true]
 generalize s.defOk=n at*
 generalize s.noDef=k at*
 generalize s.qOk=r at*
 generalize nameB s.tb=j at*
 generalize nameB s.nm=i at*
 generalize s.tb.toList.isEmpty=u at*
 generalize s.nm.toList.isEmpty=ne at*
 generalize s.whr.absent=f at*
 generalize s.whr.formed=g at*
 generalize s.vals.all rowOk=o at*
 generalize s.sets.all Asg.ok=p at*
 generalize decide (0<s.frm.length)=f0 at*
 generalize decide (0<s.vals.length)=w at*
 generalize decide (0<s.sets.length)=t at*
 generalize decide (s.itms.length+s.grp.length+s.ord.length=0)=x at*
 have F:(s.lim !=0)=!(s.lim==0):=rfl
 rw[F]
 generalize (s.lim==0)=m at*
 have H:s.kd<1∨s.kd=1∨s.kd=2∨s.kd=3∨s.kd=4∨s.kd=5∨s.kd=6∨s.kd=7∨s.kd=8∨s.kd=9∨s.kd=10∨s.kd=11∨11<s.kd:=by omega
 generalize s.kd=K at*
 clear F y
 rcases H with h|h|h|h|h|h|h|h|h|h|h|h|h
 ·have z:¬K=1:=by omega
  have A:¬K=2:=by omega
  have B:¬K=3:=by omega
  have C:¬K=4:=by omega
  have D:¬K=5:=by omega
  have E:¬1≤K:=by omega
  have G:¬6≤K:=by omega
  simp[z,A,B,C,D,E,G]
 ·subst h
  clear l
  simp only[Int.reduceEq,↓reduceIte]
  clear o p r
  revert a e hd
  revert n k j i u ne f g f0 w t x m
  decide+kernel
 ·subst h
  clear hd l
  simp only[Int.reduceEq,↓reduceIte]
  clear n p r
  revert a e
  revert o k j i u ne f g f0 w t x m
  decide+kernel
 ·subst h
  clear hd l
  simp only[Int.reduceEq,↓reduceIte]
  clear n o r
  revert a e
  revert p k j i u ne f g f0 w t x m
  decide+kernel
 ·subst h
  clear hd l
  simp only[Int.reduceEq,↓reduceIte]
  clear n o p r
  revert a e
  revert k j i u ne f g f0 w t x m
  decide+kernel
 ·subst h
  clear hd
  simp only[Int.reduceEq,↓reduceIte]
  clear n o p
  revert a e l
  revert r k j i u ne f g f0 w t x m
  decide+kernel
 ·subst h
  clear hd l
  simp only[Int.reduceEq,↓reduceIte]
  clear n o p r
  revert a e
  revert k j i u ne f g f0 w t x m
  decide+kernel
 ·subst h
  clear hd l
  simp only[Int.reduceEq,↓reduceIte]
  clear n o p r
  revert a e
  revert k j i u ne f g f0 w t x m
  decide+kernel
 ·subst h
  clear hd l
  simp only[Int.reduceEq,↓reduceIte]
  clear n o p r
  revert a e
  revert k j i u ne f g f0 w t x m
  decide+kernel
 ·subst h
  clear hd l
  simp only[Int.reduceEq,↓reduceIte]
  clear n o p r
  revert a e
  revert k j i u ne f g f0 w t x m
  decide+kernel
 ·subst h
  clear hd l
  simp only[Int.reduceEq,↓reduceIte]
  clear n o p r
  revert a e
  revert k j i u ne f g f0 w t x m
  decide+kernel
 ·subst h
  clear hd l
  simp only[Int.reduceEq,↓reduceIte]
  clear n o p r
  revert a e
  revert k j i u ne f g f0 w t x m
  decide+kernel
 ·have z:¬K=1:=by omega
  have A:¬K=2:=by omega
  have B:¬K=3:=by omega
  have C:¬K=4:=by omega
  have D:¬K=5:=by omega
  have E:¬K≤11:=by omega
  simp[z,A,B,C,D,E]
theorem wL (s:St) (a:SA) (w:World) (hv:StV w s a):
  Cl 149 #[s.val a] w (Rt (.bool s.qOk) w):=by
 have E:=hid hv
 have a9:=hv.itms.2.1
 have ba:=hv.frm.2.1
 have bd:=hv.grp.2.1
 have be:=hv.ord.2.1
 obtain⟨R,hR⟩:∃R,s.qOk=R:=⟨_,rfl⟩
 rw[hR]
 have an:=hid hR
 have F:Hid (s.qOk=R):=hR
 clear hv hR
 have a5:Hid (s.qOk=(s.itms.all Itm.ok&&decide (0<s.frm.length) &&s.frm.all Src.ok&&s.grp.all gJ&&s.ord.all Ord'.ok&&inB 0 2147483648 s.lim)):=rfl
 replace F:Hid ((s.itms.all Itm.ok&&decide (0<s.frm.length) &&s.frm.all Src.ok&&s.grp.all gJ&&s.ord.all Ord'.ok&&inB 0 2147483648 s.lim)=R):=a5.symm.trans F
 have HB:=hid (Blk.of_new w 40 (s.cells a))
 have y:=hid (x10 w (.cells (s.cells a).toArray 40))
 unfold St.val
 unfold St.cells Sl.v at*
 go_enter func149,ntmps149
 go_wp2_with fail
 generalize w.alloc (.cells _ 40)=w1 at*
 go_loopw [3] (fun iv wr=> ∃(k:Nat),k≤a.itms.n∧iv= i4 k∧(s.itms.take k).all Itm.ok=true∧Ext w1 wr) (fun i _=>a.itms.n- (intOf i).toNat)
 case atStart=>exact⟨0,Nat.zero_le _,rfl,rfl,Ext.refl _⟩
 case round=>
  obtain⟨k,ac,rfl,B,l⟩:=hrel
  have j:=hid l
  have m:=hid B
  have z:=(HB.ext l).cell 8
  simp only[g10,g11]at z
  by_cases A:k<a.itms.n
  ·obtain⟨x,C⟩:=aC E.itms.1 A
   have a0:=E.itms.2.2.ext (y.trans l)
   obtain⟨b,L,Ai,ni,ci,J,q0,q1,q2,q3,q4,q5,q6,q7,q8,U⟩:=fW a0 C
   rw[J]at z
   have G:=hid (fun W (hW:Ext wr W)=>oy x.ex Ai ni ci W (U.ext hW))
   have H:=hid (fun W (hW:Ext wr W)=>dM x.ex Ai ni ci W (U.ext hW))
   have t:=hid C
   have f:Hid (Itm.ok x=if (x.ag==1)=true then x.ex.absent else !decide (x.ag<0) &&!decide (5<x.ag) &&x.ex.formed):=by
    unfold Hid Itm.ok
    have d1:decide (0≤x.ag)=!decide (x.ag<0):=by rw[Bool.eq_iff_iff];simp
    have d2:decide (x.ag≤5)=!decide (5<x.ag):=by rw[Bool.eq_iff_iff];simp
    rw[d1,d2]
   have I:Hid ((x.ag !=1)=!(x.ag==1)):=rfl
   have I1:Hid (x.ag<0→(x.ag==1)=false):=fun h=>by simp;omega
   have I2:Hid (5<x.ag→(x.ag==1)=false):=fun h=>by simp;omega
   unfold Nd.val at H G
   clear C l B U a0 J
   cases K:decide (x.ag<0)
   ·cases Z:decide (5<x.ag)
    ·cases p:(x.ag==1)
     ·have d3:(x.ag !=1)=true:=by rw[I.out,p];rfl
      cases o:x.ex.formed
      ·have e:Hid (s.itms.all Itm.ok=false):=bR t (by rw[f.out,p,o];simp)
       rw[o]at H
       clear o
       go_wp2_with (go_at_call 84;(with_reducible refine(H.out _ (x10 wr _)).mono ?_);rintro _ V ⟨rfl,g⟩)
       go_ret
       exact⟨aa (by rw[←F.out,e.out];simp),y.trans (j.trans ((x10 wr _).trans g))⟩
      ·have e:Hid ((s.itms.take (k+1)).all Itm.ok=true):=bQ t m (by rw[f.out,p,o,K,Z];simp)
       rw[o]at H
       clear o
       go_wp2_with (go_at_call 84;(with_reducible refine(H.out _ (x10 wr _)).mono ?_);rintro _ V ⟨rfl,g⟩)
       go_roundw
       case rel=>exact⟨k+1,by omega,by go_num,e,j.trans ((x10 wr _).trans g)⟩
       case measure=>simp[intOf];omega
     ·have d3:(x.ag !=1)=false:=by rw[I.out,p];rfl
      cases o:x.ex.absent
      ·have e:Hid (s.itms.all Itm.ok=false):=bR t (by rw[f.out,p,o];simp)
       rw[o]at G
       clear o
       go_wp2_with (go_at_call 145;(with_reducible refine(G.out _ (x10 wr _)).mono ?_);rintro _ V ⟨rfl,g⟩)
       go_ret
       exact⟨aa (by rw[←F.out,e.out];simp),y.trans (j.trans ((x10 wr _).trans g))⟩
      ·have e:Hid ((s.itms.take (k+1)).all Itm.ok=true):=bQ t m (by rw[f.out,p,o];simp)
       rw[o]at G
       clear o
       have a1:=hid (Blk.of_new wr 84 [i4 x.ag,i4 x.ex.d.op,.string x.ex.d.tb,.string x.ex.d.nm,i4 x.ex.d.ix,i4 x.ex.d.vk,i4 x.ex.d.vi,.string x.ex.d.vt,.slice Ai ni ci])
       go_wp2_with (go_at_call 145;(with_reducible refine(G.out _ (x10 wr _)).mono ?_);rintro _ V ⟨rfl,g⟩;have e0:=(a1.ext g).cell 0;simp only[getElem?_cons_zero]at e0)
       go_roundw
       case rel=>exact⟨k+1,by omega,by go_num,e,j.trans ((x10 wr _).trans g)⟩
       case measure=>simp[intOf];omega
    ·have p:=I2 (by simpa using Z)
     have e:Hid (s.itms.all Itm.ok=false):=bR t (by rw[f.out,p,Z];simp)
     go_wp2_with fail
     go_ret
     exact⟨aa (by rw[←F.out,e.out];simp),y.trans (j.trans (x10 wr _))⟩
   ·have p:=I1 (by simpa using K)
    have e:Hid (s.itms.all Itm.ok=false):=bR t (by rw[f.out,p,K];simp)
    go_wp2_with fail
    go_ret
    exact⟨aa (by rw[←F.out,e.out];simp),y.trans (j.trans (x10 wr _))⟩
  ·obtain rfl:k=a.itms.n:=by omega
   have O:Hid (s.itms.all Itm.ok=true):=dm E.itms.1 m
   clear B
   have a4:=O
   go_wp2_with fail
   clear O z l m
   go_loopw [5] (fun iv wr=> ∃(k:Nat),k≤a.frm.n∧iv= i4 k∧(s.frm.take k).all Src.ok=true∧Ext w1 wr) (fun i _=>a.frm.n- (intOf i).toNat)
   case atStart=>exact⟨0,Nat.zero_le _,rfl,rfl,j⟩
   case round=>
    obtain⟨k,ac,rfl,B,l⟩:=hrel
    have j:=hid l
    have m:=hid B
    have z:=(HB.ext l).cell 9
    simp only[g10,g11]at z
    by_cases A:k<a.frm.n
    ·obtain⟨x,C⟩:=aC E.frm.1 A
     obtain⟨hc,b,L,J,q0,q1⟩:=(E.frm.2.2.ext (y.trans l)) k x C
     rw[J]at z
     have D:=hid (fun W=>bP x.tb W hc.1)
     have P:=hid (fun W=>bP x.al W hc.2)
     have t:=hid C
     have Q:Hid (∀W,Ext wr W→W.cell? ⟨w.heap.size,9,none⟩=some (.slice (some ⟨b,L,none⟩) a.frm.n a.frm.c)∧W.cell? ⟨b,L+k*2+1,none⟩=some (.string x.al)):=fun W hW=>⟨hW.keep z,hW.keep q1⟩
     have f:Hid (Src.ok x=(nameB x.tb&& (x.al.toList.isEmpty||nameB x.al))):=rfl
     clear C l B J hc q1
     cases o:nameB x.tb
     ·have e:Hid (s.frm.all Src.ok=false):=bR t (by rw[f.out,o];rfl)
      rw[o]at D
      clear o
      go_wp2_with (go_at_call 144;(with_reducible refine(D.out _).mono ?_);rintro _ V ⟨rfl,g⟩)
      go_ret
      exact⟨aa (by rw[←F.out,e.out];simp),y.trans (j.trans g)⟩
     ·rw[o]at D
      by_cases Y:x.al.size=0
      ·have aS:x.al.toList.isEmpty=true:=by rw[←eo];simpa using Y
       have e:Hid ((s.frm.take (k+1)).all Src.ok=true):=bQ t m (by rw[f.out,o,aS];rfl)
       have ax:=bF Y
       rw[ax]at Q
       clear o Y aS ax
       go_wp2_with (go_at_call 144;(with_reducible refine(D.out _).mono ?_);rintro _ V ⟨rfl,g⟩;obtain⟨e0,e1⟩:=Q _ g)
       go_roundw
       case rel=>exact⟨k+1,by omega,by go_num,e,j.trans g⟩
       case measure=>simp[intOf];omega
      ·have v1:=bV Y
       have v2:=bH Y
       cases hq:nameB x.al
       ·have e:Hid (s.frm.all Src.ok=false):=bR t (by rw[f.out,hq,v2];simp)
        rw[hq]at P
        clear o Y hq
        go_wp2_with (first|(go_at_call 144;(with_reducible refine(P.out _).mono ?_);rintro _ w3 ⟨rfl,ad⟩;have a6:=g)|(go_at_call 144;(with_reducible refine(D.out _).mono ?_);rintro _ V ⟨rfl,g⟩;obtain⟨e0,e1⟩:=Q _ g))
        go_ret
        exact⟨aa (by rw[←F.out,e.out];simp),y.trans (j.trans (g.trans ad))⟩
       ·have e:Hid ((s.frm.take (k+1)).all Src.ok=true):=bQ t m (by rw[f.out,o,hq];simp)
        rw[hq]at P
        clear o Y hq
        go_wp2_with (first|(go_at_call 144;(with_reducible refine(P.out _).mono ?_);rintro _ w3 ⟨rfl,ad⟩;have a6:=g)|(go_at_call 144;(with_reducible refine(D.out _).mono ?_);rintro _ V ⟨rfl,g⟩;obtain⟨e0,e1⟩:=Q _ g))
        go_roundw
        case rel=>exact⟨k+1,by omega,by go_num,e,j.trans (g.trans ad)⟩
        case measure=>simp[intOf];omega
    ·obtain rfl:k=a.frm.n:=by omega
     have O:Hid (s.frm.all Src.ok=true):=dm E.frm.1 m
     clear B
     have a2:=O
     go_wp2_with fail
     clear O z l m
     go_loopw [6] (fun iv wr=> ∃(k:Nat),k≤a.grp.n∧iv= i4 k∧(s.grp.take k).all gJ=true∧Ext w1 wr) (fun i _=>a.grp.n- (intOf i).toNat)
     case atStart=>exact⟨0,Nat.zero_le _,rfl,rfl,j⟩
     case round=>
      obtain⟨k,ac,rfl,B,l⟩:=hrel
      have j:=hid l
      have m:=hid B
      have z:=(HB.ext l).cell 18
      simp only[g10,g11]at z
      by_cases A:k<a.grp.n
      ·obtain⟨x,C⟩:=aC E.grp.1 A
       obtain⟨b,L,Ai,ni,ci,J,q0,q1,q2,q3,q4,q5,q6,q7,U⟩:=(E.grp.2.2.ext (y.trans l)).get C
       rw[J]at z
       have H:=hid (dM x Ai ni ci wr U)
       have t:=hid C
       have f:Hid (gJ x=(x.d.op==2&&x.formed)):=rfl
       have I:Hid ((x.d.op !=2)=!(x.d.op==2)):=rfl
       unfold Nd.val at H
       clear C l B U J
       cases ho:(x.d.op==2)
       ·have e:Hid (s.grp.all gJ=false):=bR t (by rw[f.out,ho];rfl)
        have d3:(x.d.op !=2)=true:=by rw[I.out,ho];rfl
        go_wp2_with fail
        go_ret
        exact⟨aa (by rw[←F.out,e.out];simp),y.trans (j.trans (Ext.refl wr))⟩
       ·have d3:(x.d.op !=2)=false:=by rw[I.out,ho];rfl
        cases o:x.formed
        ·have e:Hid (s.grp.all gJ=false):=bR t (by rw[f.out,o];simp)
         rw[o]at H
         clear o
         go_wp2_with (go_at_call 84;(with_reducible refine H.out.mono ?_);rintro _ V ⟨rfl,g⟩)
         go_ret
         exact⟨aa (by rw[←F.out,e.out];simp),y.trans (j.trans g)⟩
        ·have e:Hid ((s.grp.take (k+1)).all gJ=true):=bQ t m (by rw[f.out,ho,o];rfl)
         rw[o]at H
         clear o
         go_wp2_with (go_at_call 84;(with_reducible refine H.out.mono ?_);rintro _ V ⟨rfl,g⟩)
         go_roundw
         case rel=>exact⟨k+1,by omega,by go_num,e,j.trans g⟩
         case measure=>simp[intOf];omega
      ·obtain rfl:k=a.grp.n:=by omega
       have O:Hid (s.grp.all gJ=true):=dm E.grp.1 m
       clear B
       have a3:=O
       go_wp2_with fail
       clear O z l m
       go_loopw [7] (fun iv wr=> ∃(k:Nat),k≤a.ord.n∧iv= i4 k∧(s.ord.take k).all Ord'.ok=true∧Ext w1 wr) (fun i _=>a.ord.n- (intOf i).toNat)
       case atStart=>exact⟨0,Nat.zero_le _,rfl,rfl,j⟩
       case round=>
        obtain⟨k,ac,rfl,B,l⟩:=hrel
        have j:=hid l
        have m:=hid B
        have z:=(HB.ext l).cell 19
        simp only[g10,g11]at z
        by_cases A:k<a.ord.n
        ·obtain⟨x,C⟩:=aC E.ord.1 A
         obtain⟨hc,b,L,J,q0,q1⟩:=(E.ord.2.2.ext (y.trans l)) k x C
         rw[J]at z
         have X:=hid (fun W=>ik x.it W)
         have t:=hid C
         have f:Hid (Ord'.ok x=(!decide (x.it<1) && (decide (0≤x.it) &&decide (x.it≤2147483648)))):=by
          unfold Hid Ord'.ok inB
          rw[Bool.eq_iff_iff]
          simp
          omega
         clear C l B J hc
         cases U:decide (x.it<1)
         ·cases hu:(decide (0≤x.it) &&decide (x.it≤2147483648))
          ·have e:Hid (s.ord.all Ord'.ok=false):=bR t (by rw[f.out,hu];simp)
           rw[hu]at X
           clear hu
           go_wp2_with (go_at_call 219;(with_reducible refine(X.out _).mono ?_);rintro _ _ ⟨rfl,rfl⟩)
           go_ret
           exact⟨aa (by rw[←F.out,e.out];simp),y.trans (j.trans (Ext.refl wr))⟩
          ·have e:Hid ((s.ord.take (k+1)).all Ord'.ok=true):=bQ t m (by rw[f.out,hu,U];rfl)
           rw[hu]at X
           clear hu
           go_wp2_with (go_at_call 219;(with_reducible refine(X.out _).mono ?_);rintro _ _ ⟨rfl,rfl⟩)
           go_roundw
           case rel=>exact⟨k+1,by omega,by go_num,e,j.trans (Ext.refl wr)⟩
           case measure=>simp[intOf];omega
         ·have e:Hid (s.ord.all Ord'.ok=false):=bR t (by rw[f.out,U];rfl)
          go_wp2_with fail
          go_ret
          exact⟨aa (by rw[←F.out,e.out];simp),y.trans (j.trans (Ext.refl wr))⟩
        ·obtain rfl:k=a.ord.n:=by omega
         have O:Hid (s.ord.all Ord'.ok=true):=dm E.ord.1 m
         clear B
         obtain⟨-,-,-,-,-,-,-,-,-,a8,-,-,-,-,-,-,-,-,-,-,a7,-⟩:=cls (HB.ext l)
         clear l
         have X:=hid (fun W=>ik s.lim W)
         have Q:Hid (s.qOk=(decide ((0:Int)<(a.frm.n:Int)) && (decide (0≤s.lim) &&decide (s.lim≤2147483648)))):=by
          unfold Hid St.qOk inB
          rw[a4.out,a2.out,a3.out,O.out,E.out.frm.1]
          simp
         generalize (decide (0≤s.lim) &&decide (s.lim≤2147483648))=u at*
         by_cases hf:0<a.frm.n
         ·have hd:decide ((0:Int)<(a.frm.n:Int))=true:=by simpa using hf
          rw[hd]at Q
          cases u
          all_goals
           go_wp2_with (go_at_call 219;(with_reducible refine(X.out _).mono ?_);rintro _ _ ⟨rfl,rfl⟩)
           go_ret
           exact⟨aa (by rw[←an.out,Q.out];rfl),y.trans j⟩
         ·have hd:decide ((0:Int)<(a.frm.n:Int))=false:=by simpa using hf
          rw[hd]at Q
          go_wp2_with (go_at_call 219;(with_reducible refine(X.out _).mono ?_);rintro _ _ ⟨rfl,rfl⟩)
          go_ret
          exact⟨aa (by rw[←an.out,Q.out];rfl),y.trans j⟩
theorem wM (s:St) (a:SA) (w:World) (e:StV w s a) (hb:s.cols.length+s.keys.length+s.frs.length+s.chk.length≤1048576) (a9:s.itms.length+s.frm.length+s.grp.length+s.ord.length≤1048576):
  Cl 75 #[s.val a] w (Rt (.bool s.formed) w):=by
 rw[←wK]
 have H1:=hid (fun W=>bP s.tb W e.tb)
 have H2:=hid (fun W=>bP s.nm W e.nm)
 have H3:=hid (fun W (l:Ext w W)=>oy s.whr a.whr.A a.whr.n a.whr.c W (e.whr.ext l))
 have H4:=hid (fun W (l:Ext w W)=>dM s.whr a.whr.A a.whr.n a.whr.c W (e.whr.ext l))
 have H6:=hid (fun W (l:Ext w W)=>wI s a W (e.ext l) hb)
 have H7:=hid (fun W (l:Ext w W)=>uN s.vals a.vals.A a.vals.n a.vals.c W e.vals.1 e.vals.2.1 (e.vals.2.2.ext l) e.valn)
 have H8:=hid (fun W (l:Ext w W)=>rsets_any s.sets a.sets.A a.sets.n a.sets.c W e.sets.1 e.sets.2.1 (e.sets.2.2.ext l))
 have H9:=hid (fun W (l:Ext w W)=>wL s a W (e.ext l))
 have E:=hid (Blk.of_new w 40 (s.cells a))
 have HX:=hid (x10 w (.cells (s.cells a).toArray 40))
 obtain⟨R,U⟩:∃R,s.rformed=R:=⟨_,rfl⟩
 rw[U]
 unfold St.rformed at U
 dsimp only at U
 have a1:s.noDef=decide (a.cols.n+a.keys.n+a.frs.n+a.chk.n=0):=by unfold St.noDef;rw[e.cols.1,e.keys.1,e.frs.1,e.chk.1]
 rw[e.vals.1,e.sets.1,e.frm.1,e.itms.1,e.grp.1,e.ord.1]at U
 rw[e.itms.1,e.frm.1,e.grp.1,e.ord.1]at a9
 rw[e.cols.1,e.keys.1,e.frs.1,e.chk.1]at hb
 simp only[←beq_iff_eq (a:=s.kd)]at U
 clear e
 unfold St.val at*
 unfold St.cells Sl.v at*
 unfold Nd.val at H3 H4
 generalize s.whr.absent=ba at*
 generalize s.whr.formed=bf at*
 generalize nameB s.tb=bn at*
 generalize nameB s.nm=bm at*
 generalize s.noDef=e0 at*
 generalize s.defOk=q1 at*
 generalize s.vals.all rowOk=q2 at*
 generalize s.sets.all Asg.ok=q3 at*
 generalize s.qOk=q5 at*
 obtain⟨te,bw⟩:∃b,s.tb.toList.isEmpty=b:=⟨_,rfl⟩
 obtain⟨ne,bo⟩:∃b,s.nm.toList.isEmpty=b:=⟨_,rfl⟩
 obtain⟨k1,j⟩:∃b,(s.kd==1)=b:=⟨_,rfl⟩
 obtain⟨k2,o⟩:∃b,(s.kd==2)=b:=⟨_,rfl⟩
 obtain⟨k3,F⟩:∃b,(s.kd==3)=b:=⟨_,rfl⟩
 obtain⟨k4,bd⟩:∃b,(s.kd==4)=b:=⟨_,rfl⟩
 obtain⟨k5,J⟩:∃b,(s.kd==5)=b:=⟨_,rfl⟩
 obtain⟨ad,a3⟩:∃b,(decide (1≤s.kd))=b:=⟨_,rfl⟩
 obtain⟨l4,a5⟩:∃b,(decide (s.kd≤4))=b:=⟨_,rfl⟩
 obtain⟨l9,a8⟩:∃b,(decide (9≤s.kd))=b:=⟨_,rfl⟩
 obtain⟨K,a0⟩:∃b,(decide (s.kd≤11))=b:=⟨_,rfl⟩
 obtain⟨l3,a4⟩:∃b,(decide (s.kd<3))=b:=⟨_,rfl⟩
 obtain⟨l5,a6⟩:∃b,(decide (5<s.kd))=b:=⟨_,rfl⟩
 obtain⟨l6,a7⟩:∃b,(decide (6≤s.kd))=b:=⟨_,rfl⟩
 obtain⟨v0,ac⟩:∃b,decide (0<a.vals.n)=b:=⟨_,rfl⟩
 obtain⟨s0,Z⟩:∃b,decide (0<a.sets.n)=b:=⟨_,rfl⟩
 obtain⟨z0,a2⟩:∃b,decide (0<a.itms.n+a.frm.n+a.grp.n+a.ord.n)=b:=⟨_,rfl⟩
 obtain⟨lz,be⟩:∃b,(s.lim==0)=b:=⟨_,rfl⟩
 have n1:(s.kd !=1)=!k1:=by rw[bne,j]
 have n2:(s.kd !=2)=!k2:=by rw[bne,o]
 have n3:(s.kd !=3)=!k3:=by rw[bne,F]
 have n5:(s.kd !=5)=!k5:=by rw[bne,J]
 have nl:(s.lim !=0)=!lz:=by rw[bne,be]
 rw[n1,n2,n3,n5,nl,bw,bo,j,o,F,bd,J,a3,a5,a8,a0,a4,a6,a7,ac,Z,a2]at U
 have H:=hid U
 clear U
 go_enter func75,ntmps75
 go_upto_region 1 with fail
 generalize w.alloc (.cells _ 40)=w1 at*
 generalize w.heap.size=g at*
 obtain⟨p0,p1,p2,p3,p4,p5,p6,p7,p8,p9,t,u,x,y,z,B,C,D,L,O,P,G,-⟩:=cls (E)
 go_upto_region 3 with fail
 have m:=hid (Blk.of_new w1 29 [.slice a.cols.A a.cols.n a.cols.c,.slice a.keys.A a.keys.n a.keys.c,.slice a.frs.A a.frs.n a.frs.c,.slice a.chk.A a.chk.n a.chk.c])
 have V:=hid (x10 w1 (.cells #[.slice a.cols.A a.cols.n a.cols.c,.slice a.keys.A a.keys.n a.keys.c,.slice a.frs.A a.frs.n a.frs.c,.slice a.chk.A a.chk.n a.chk.c] 29))
 replace E:=hid (E.ext V)
 generalize w1.alloc (.cells _ 29)=w2 at*
 generalize w1.heap.size=g2 at*
 clear p0 p1 p2 p3 p4 p5 p6 p7 p8 p9 t u x y z B C D L O P G
 obtain⟨p0,p1,p2,p3,p4,p5,p6,p7,p8,p9,t,u,x,y,z,B,C,D,L,O,P,G,-⟩:=cls (E)
 obtain⟨ag,an,ax,aS,-⟩:=cls (m)
 have X:=hid (HX.trans V)
 clear V HX
 have b9:decide ((0:Int)<(a.cols.n:Int)+(a.keys.n:Int)+(a.frs.n:Int)+(a.chk.n:Int))=!e0:=by rw[a1,Bool.eq_iff_iff];simp;omega
 have cb:decide ((0:Int)<(a.itms.n:Int)+(a.frm.n:Int)+(a.grp.n:Int)+(a.ord.n:Int))=z0:=by rw[←a2,Bool.eq_iff_iff];simp;omega
 have f1:(IntKind.i64.wrap ((a.cols.n:Int)+(a.keys.n:Int)))=(a.cols.n:Int)+(a.keys.n:Int):=IntWalk.i64_in _ (by omega)
 clear a1
 go_cut [50] from 11 to 50 (fun Y Q=>Y= .bool ((!k1&&!e0)||(!k2&&v0)||(!k3&&s0))∧w2=Q)
 case first=>
  by_cases bx:0<a.vals.n<;>by_cases bv:0<a.sets.n<;>cases k1<;>cases e0<;>cases k2<;>cases k3
  all_goals
   go_wp2_with fail
   go_meet
   exact⟨by rw[←ac,←Z];simp[bx,bv],rfl⟩
 case rest=>
  obtain⟨rfl,rfl⟩:=hcut
  generalize ((!k1&&!e0)||(!k2&&v0)||(!k3&&s0))=C1 at*
  cases C1
  ·go_upto_region 5 with fail
   go_cut [75] from 51 to 75 (fun Y Q=>Y= .bool (!k5&& (z0||!lz))∧w2=Q)
   case first=>
    cases k5<;>cases z0<;>cases lz
    all_goals
     go_wp2_with fail
     go_meet
     exact⟨rfl,rfl⟩
   case rest=>
    obtain⟨rfl,rfl⟩:=hcut
    generalize (!k5&& (z0||!lz))=C2 at*
    cases C2
    ·go_upto_region 7 with fail
     go_cut [5,6] from 76 to 87 (fun tv nv Q=>tv= .bool (ad&&l4)∧nv= .bool (l9&&K)∧w2=Q)
     case first=>
      cases ad<;>cases l4<;>cases l9<;>cases K
      all_goals
       go_wp2_with fail
       go_meet
       exact⟨rfl,rfl,rfl⟩
     case rest=>
      obtain⟨rfl,rfl,rfl⟩:=hcut
      generalize (ad&&l4)=td at*
      generalize (l9&&K)=nd at*
      go_upto_region 8 with fail
      have HQ:Hid (∀W,Ext w2 W→W.cell? ⟨g,1,none⟩=some (.string s.tb)∧W.cell? ⟨g,21,none⟩=some (.string s.nm)):=fun W l=>⟨l.keep p1,l.keep G⟩
      go_cut [121] from 88 to 121 (fun Y Q=>Y= .bool ((td&&!bn)||(!td&&!te)||(nd&&!bm)||(!nd&&!ne))∧Ext w2 Q)
      case first=>
       cases td<;>cases bn<;>cases te<;>cases nd<;>cases bm<;>cases ne
       all_goals
        go_wp2_with (first|(go_at_call 144;(with_reducible refine(H1.out _).mono ?_);rintro _ w3 ⟨rfl,h⟩;obtain⟨e1,b7⟩:=HQ _ h)|(go_at_call 144;(with_reducible refine(H2.out _).mono ?_);rintro _ w4 ⟨rfl,p⟩;obtain⟨d1,bN⟩:=(HQ _ (by first|exact h.trans p|exact p):_∧_)))
        go_meet
        first|exact⟨rfl,h.trans p⟩|exact⟨rfl,h⟩|exact⟨rfl,p⟩|exact⟨rfl,Ext.refl _⟩
      case rest=>
       obtain⟨rfl,i⟩:=hcut
       generalize wc=wa at*
       have I:=hid (X.trans i)
       replace E:=hid (E.ext i)
       replace m:=hid (m.ext i)
       clear i H1 H2 HQ p0 p1 p2 p3 p4 p5 p6 p7 p8 p9 t u x y z B C D L O P G ag an ax aS
       generalize ((td&&!bn)||(!td&&!te)||(nd&&!bm)||(!nd&&!ne))=C3 at*
       cases C3
       ·obtain⟨p0,-,-,-,-,-,-,-,-,-,t,u,x,y,z,B,C,D,-⟩:=cls (E)
        go_upto_region 10 with fail
        go_cut [139] from 122 to 139 (fun Y Q=>Y= .bool (!ba&& ((l3||l5)||!bf))∧Ext wa Q)
        case first=>
         cases ba<;>cases l3<;>cases l5
         all_goals
          go_wp2_with (first|(go_at_call 145;(with_reducible refine(H3.out _ I.out).mono ?_);rintro _ w3 ⟨rfl,h⟩;obtain⟨-,-,-,-,-,-,-,-,-,-,bY,b0,b1,b2,b3,b4,b5,b6,-⟩:=cls (E.ext h))|(go_at_call 84;(with_reducible refine(H4.out _ (I.out.trans h)).mono ?_);rintro _ w4 ⟨rfl,p⟩))
          go_meet
          first|exact⟨rfl,h.trans p⟩|exact⟨rfl,h⟩
        case rest=>
         obtain⟨rfl,i⟩:=hcut
         generalize wc=wb at*
         have f:=hid (I.trans i)
         replace E:=hid (E.ext i)
         replace m:=hid (m.ext i)
         clear i H3 H4 p0 t u x y z B C D
         generalize (!ba&& ((l3||l5)||!bf))=C4 at*
         cases C4
         ·obtain⟨p0,p1,p2,p3,p4,p5,p6,p7,p8,p9,t,u,x,y,z,B,C,D,L,O,P,G,-⟩:=cls (E)
          obtain⟨ag,an,ax,aS,-⟩:=cls (m)
          cases k1
          ·cases k2
           ·cases k3
            ·cases k5
             ·cases k4<;>cases l6<;>cases K
              all_goals
               go_wp2_with fail
               go_ret
               exact⟨aa (by rw[←H.out];simp[j,o,F,J]),f⟩
             ·go_wp2_with (first|(refine aw rfl 40 (.tmp 1) rfl g rfl 40 _ _ E underlying40 rfl (by kernel_rfl) ?_)|(go_at_call 149;(with_reducible refine(H9.out _ f.out).mono ?_);rintro _ w5 ⟨rfl,k⟩))
              go_ret
              exact⟨aa (by rw[←H.out];simp[j,o,F,J]),f.trans k⟩
            ·go_wp2_with ((go_at_call 148;(with_reducible refine(H8.out _ f.out).mono ?_);rintro _ w5 ⟨rfl,k⟩))
             go_ret
             exact⟨aa (by rw[←H.out,←Z];simp[j,o,F]),f.trans k⟩
           ·go_wp2_with ((go_at_call 147;(with_reducible refine(H7.out _ f.out).mono ?_);rintro _ w5 ⟨rfl,k⟩))
            go_ret
            exact⟨aa (by rw[←H.out,←ac];simp[j,o]),f.trans k⟩
          ·go_wp2_with ((go_at_call 146;(with_reducible refine(H6.out _ f.out).mono ?_);rintro _ w5 ⟨rfl,k⟩))
           go_ret
           exact⟨aa (by rw[←H.out];simp[j]),f.trans k⟩
         ·go_wp2_with fail
          go_ret
          exact⟨aa (by rw[←H.out];simp),f⟩
       ·go_wp2_with fail
        go_ret
        exact⟨aa (by rw[←H.out];simp),I⟩
    ·go_wp2_with fail
     go_ret
     exact⟨aa (by rw[←H.out];simp),X⟩
  ·go_wp2_with fail
   go_ret
   exact⟨aa (by rw[←H.out];simp),X⟩
def validS (s:St):Int:=if largeB s.all=true then 3 else if s.formed=false then 1 else if 16384<s.body.size then 3 else 0
theorem lE (s:St):largeB s.rall=largeB s.all:=by
 unfold largeB
 have i:nodesL s.rall=nodesL s.all:=by unfold St.rall St.all;simp only[dc];omega
 have j:∀p:Ex→Bool,s.rall.any p=s.all.any p:=fun p=>by
  unfold St.rall St.all
  simp only[any_append]
  generalize s.chk.any p=a
  generalize s.vals.flatten.any p=b
  generalize s.grp.any p=e
  generalize (s.sets.map Asg.ex).any p=f
  generalize (s.itms.map Itm.ex).any p=g
  generalize [s.whr].any p=h
  cases a<;>cases b<;>cases e<;>cases f<;>cases g<;>cases h<;>rfl
 rw[i,j]
theorem im {s:St} (h:largeB s.all=false):nodesL s.all≤400:=by
 unfold largeB at h
 simp only[Bool.or_eq_false_iff,decide_eq_false_iff_not]at h
 omega
theorem flat_len (l:List (List Ex)):l.flatten.length≤sumB bkR l:=by
 have b:∀l:List Ex,l.length≤sizeL l:=fun l=>by rw[←jf];exact bW (fun a=>dX a) l
 induction l with
 |nil=>simp[sumB]
 |cons a l ih=>rw[flatten_cons,length_append,sumB];unfold bkR at*;have:=b a;omega
theorem all_len (s:St) (h:s.bulk≤1048576):s.all.length≤100000000:=by
 have a:=dS s h
 have b:=flat_len s.vals
 have e:=(gO s h).2.2.2.1
 unfold St.all
 simp only[length_append,length_map,length_singleton]
 omega
theorem ru (s:St) (p:s.formed=true) (o:s.Fits) (r:s.bulk≤1048576):s.body.size≤1000000000:=by
 have a:=cu p
 have m:=gO s r
 have D:=jT s (gM p) o.whr
 unfold St.body
 by_cases e:s.kd=1
 ·rw[if_pos e]
  have:=aW s.elts
  have:=nK (a.2.1 e)
  simp only[ByteArray.size_append]
  show 13+_+2+_+1≤_
  omega
 rw[if_neg e]
 by_cases f:s.kd=2
 ·rw[if_pos f]
  have l:∀x∈s.vals,x.all Ex.formed=true:=fun x b=>by have:=List.all_eq_true.1 (a.2.2.2.1 f) x b;unfold rowOk at this;simp only[Bool.and_eq_true]at this;exact this.2
  have:=aW (s.vals.map dV)
  have:=bb dV bkR 100 s.vals fun x b=>pJ (l x b)
  simp only[ByteArray.size_append]
  show 12+_+8+_≤_
  omega
 rw[if_neg f]
 by_cases g:s.kd=3
 ·rw[if_pos g]
  have:=aW (s.sets.map Asg.tx)
  have:=bb Asg.tx bkA 100 s.sets fun x b=>pK (List.all_eq_true.1 (a.2.2.2.2.2.1 g) x b)
  simp only[ByteArray.size_append]
  show 7+_+5+_+_≤_
  omega
 rw[if_neg g]
 by_cases n:s.kd=4
 ·rw[if_pos n]
  simp only[ByteArray.size_append]
  show 12+_+_≤_
  omega
 rw[if_neg n]
 by_cases h:s.kd=5
 ·rw[if_pos h]
  obtain⟨i,t,j,k,u,w⟩:=sY (a.2.2.2.2.2.2.2.1 h)
  have B:=pP s i m.2.2.2.2.2.1
  have C:(cma (s.frm.map Src.tx)).size≤104857600:=Nat.le_trans (aW _) (Nat.le_trans (bb Src.tx bkF 100 s.frm fun x b=>jR x) (by omega))
  have E:(exsT s.grp).size≤100000:=Nat.le_trans (aW _) (Nat.le_trans (gL j) (by have:=o.grp;omega))
  have F:(cma (s.ord.map Ord'.tx)).size≤104857600:=Nat.le_trans (aW _) (Nat.le_trans (bb Ord'.tx bkO 100 s.ord fun x b=>jS (List.all_eq_true.1 k x b)) (by omega))
  have G:=bE s.lim (by omega) (by omega)
  have y:s.sel0.size≤300000000:=by unfold St.sel0;simp only[ByteArray.size_append];show 7+_+6+_+_≤_;omega
  have z:s.sel1.size≤300100100:=by unfold St.sel1;refine aO _ _ _ _ (by omega) ?_;simp only[ByteArray.size_append];show _+(10+_)≤_;omega
  have A:s.sel2.size≤500000000:=by unfold St.sel2;refine aO _ _ _ _ (by omega) ?_;simp only[ByteArray.size_append];show _+(10+_)≤_;omega
  unfold St.sel
  refine aO _ _ _ _ ?_ (by omega)
  simp only[ByteArray.size_append]
  show _+(7+_)≤_
  omega
 rw[if_neg h]
 refine aO _ _ _ _ (show 5≤_ by omega) (aO _ _ _ _ (show 6≤_ by omega) (aO _ _ _ _ (show 8≤_ by omega) (aO _ _ _ _ ?_ (aO _ _ _ _ ?_ ?_))))
 ·rw[ByteArray.size_append];show 10+_≤_;omega
 ·rw[ByteArray.size_append];show 12+_≤_;omega
 ·rw[ByteArray.size_append];show 8+_≤_;omega
theorem wN (s:St) (a:SA) (w:World) (P:Gd w) (I:StV w s a) (B:nG w a.keys.A a.keys.n) (C:nH w a.frs.A a.frs.n) (z:s.bulk≤1048576):
  Cl 31 #[s.val a] w (Rt (i4 (validS s)) w):=by
 have D:=dS s z
 have E:=hid (fun W (k:Ext w W)=>all_any s a W (I.ext k) (all_len s z))
 have u:=hid (fun (W:World) (A:OA) (c:Nat) (Z:KidsAt W A s.all)=>nD s.all A s.all.length c W rfl (by have:=all_len s z;omega) Z)
 have x:=hid (fun W (k:Ext w W)=>qP s a W (P.ext k).sh (I.ext k) D.1 (by omega))
 have F:=hid (fun W (k:Ext w W) (Y:s.formed=true) (m:s.Fits)=>form_any s a W (P.ext k) (I.ext k) (B.ext k) (C.ext k) Y m z)
 have h:Hid (validS s=if largeB s.all=true then 3 else if s.formed=false then 1 else if 16384<s.body.size then 3 else 0):=rfl
 have G:Hid (largeB s.all=false→s.formed=true→s.Fits):=fun L O=>sW O (im L)
 have H:Hid (s.formed=true→s.Fits→s.body.size≤1000000000):=fun L O=>ru s L O z
 have l:=hid (Blk.of_new w 40 (s.cells a))
 have j:=hid (x10 w (.cells (s.cells a).toArray 40))
 clear P I B C z D
 unfold St.val at*
 unfold St.cells Sl.v at*
 generalize validS s=V at*
 go_enter func31,ntmps31
 go_upto_region 1 with fail
 generalize w.alloc (.cells _ 40)=w1 at*
 generalize w.heap.size=g at*
 cases y:largeB s.all
 ·rw[y]at u h
  simp only[Bool.false_eq_true,if_false]at h
  cases m:s.formed
  ·rw[m]at x h
   simp only[if_true]at h
   have p:=h.out
   subst p
   clear F H h G y m
   go_wp2_with (first|(refine aw rfl 40 (.tmp 1) rfl g rfl 40 _ _ l underlying40 rfl (by kernel_rfl) ?_)|(refine aw rfl 40 (.tmp 1) rfl g rfl 40 _ _ (l.ext (b.trans e)) underlying40 rfl (by kernel_rfl) ?_)|(go_at_call 63;(with_reducible refine(E.out _ j.out).mono ?_);rintro _ Q ⟨J,c1,rfl,i,b⟩)|(go_at_call 62;(with_reducible refine(u.out _ _ _ i).mono ?_);rintro _ R ⟨rfl,e⟩)|(go_at_call 64;(with_reducible refine(x.out _ (j.out.trans (b.trans e))).mono ?_);rintro _ X ⟨rfl,f⟩))
   go_ret
   exact⟨rfl,j.trans ((b.trans e).trans f)⟩
  ·have o:=G y m
   have hz:=H m o
   have U:=hid (fun W (k:Ext w W)=>F W k m o)
   rw[m]at x h
   simp only[Bool.true_eq_false,if_false]at h
   clear F H G y m o
   generalize s.body=K at*
   by_cases hs:16384<K.size
   ·rw[if_pos hs]at h
    have p:=h.out
    subst p
    have hd:decide ((16384:Int)<(K.size:Int))=true:=by simp;omega
    clear h
    go_wp2_with (first|(refine aw rfl 40 (.tmp 1) rfl g rfl 40 _ _ l underlying40 rfl (by kernel_rfl) ?_)|(refine aw rfl 40 (.tmp 1) rfl g rfl 40 _ _ (l.ext (b.trans e)) underlying40 rfl (by kernel_rfl) ?_)|(refine aw rfl 40 (.tmp 1) rfl g rfl 40 _ _ (l.ext ((b.trans e).trans f)) underlying40 rfl (by kernel_rfl) ?_)|(go_at_call 63;(with_reducible refine(E.out _ j.out).mono ?_);rintro _ Q ⟨J,c1,rfl,i,b⟩)|(go_at_call 62;(with_reducible refine(u.out _ _ _ i).mono ?_);rintro _ R ⟨rfl,e⟩)|(go_at_call 64;(with_reducible refine(x.out _ (j.out.trans (b.trans e))).mono ?_);rintro _ X ⟨rfl,f⟩)|(go_at_call 65;(with_reducible refine(U.out _ (j.out.trans ((b.trans e).trans f))).mono ?_);rintro _ w5 ⟨rfl,t⟩))
    go_ret
    exact⟨rfl,j.trans (((b.trans e).trans f).trans t)⟩
   ·rw[if_neg hs]at h
    have p:=h.out
    subst p
    have hd:decide ((16384:Int)<(K.size:Int))=false:=by simp;omega
    clear h
    go_wp2_with (first|(refine aw rfl 40 (.tmp 1) rfl g rfl 40 _ _ l underlying40 rfl (by kernel_rfl) ?_)|(refine aw rfl 40 (.tmp 1) rfl g rfl 40 _ _ (l.ext (b.trans e)) underlying40 rfl (by kernel_rfl) ?_)|(refine aw rfl 40 (.tmp 1) rfl g rfl 40 _ _ (l.ext ((b.trans e).trans f)) underlying40 rfl (by kernel_rfl) ?_)|(go_at_call 63;(with_reducible refine(E.out _ j.out).mono ?_);rintro _ Q ⟨J,c1,rfl,i,b⟩)|(go_at_call 62;(with_reducible refine(u.out _ _ _ i).mono ?_);rintro _ R ⟨rfl,e⟩)|(go_at_call 64;(with_reducible refine(x.out _ (j.out.trans (b.trans e))).mono ?_);rintro _ X ⟨rfl,f⟩)|(go_at_call 65;(with_reducible refine(U.out _ (j.out.trans ((b.trans e).trans f))).mono ?_);rintro _ w5 ⟨rfl,t⟩))
    go_ret
    exact⟨rfl,j.trans (((b.trans e).trans f).trans t)⟩
 ·rw[y]at u h
  simp only[if_true]at h
  have p:=h.out
  subst p
  clear x F H h G y
  go_wp2_with (first|(refine aw rfl 40 (.tmp 1) rfl g rfl 40 _ _ l underlying40 rfl (by kernel_rfl) ?_)|(go_at_call 63;(with_reducible refine(E.out _ j.out).mono ?_);rintro _ Q ⟨J,c1,rfl,i,b⟩)|(go_at_call 62;(with_reducible refine(u.out _ _ _ i).mono ?_);rintro _ R ⟨rfl,e⟩))
  go_ret
  exact⟨rfl,j.trans (b.trans e)⟩
def minL:List Ex→Nat
 | []=>0
 |e::es=>min e.nodes 401+minL es
theorem uO (a b:List Ex):minL (a++b)=minL a+minL b:=by
 induction a with
 |nil=>simp[minL]
 |cons e a ih=>rw[cons_append,minL,minL,ih];omega
theorem minL_le (l:List Ex):minL l≤nodesL l:=by
 induction l with
 |nil=>exact Nat.le_refl _
 |cons e l ih=>rw[minL,nodesL];omega
theorem minL_eq {l:List Ex} (h:minL l≤400):minL l=nodesL l:=by
 induction l with
 |nil=>rfl
 |cons e l ih=>rw[minL]at h ⊢;rw[nodesL];have:=ih (by omega);omega
theorem minL_take {l:List Ex} {k:Nat} {e:Ex} (h:l[k]? =some e):minL (l.take (k+1))=minL (l.take k)+min e.nodes 401:=by
 rw[ez h,uO,minL,minL,Nat.add_zero]
theorem minL_part (l:List Ex) (k:Nat):minL (l.take k)≤minL l:=by
 conv=>rhs;rw[←take_append_drop k l,uO]
 omega
theorem sZ {l:List Ex} {k:Nat} (h:400<minL (l.take k)):largeB l=true:=by
 have:=minL_part l k
 have:=minL_le l
 unfold largeB
 rw[decide_eq_true (show 400<nodesL l by omega)]
 rfl
theorem qR {l:List Ex} {k:Nat} {e:Ex} (h:l[k]? =some e) (hd:50<e.depth):largeB l=true:=by
 unfold largeB
 have:(l.any fun e=>decide (50<e.depth))=true:=List.any_eq_true.2 ⟨e,mem_of_getElem? h,by simpa using hd⟩
 rw[this,Bool.or_true]
theorem large_no {l:List Ex} (h:minL l≤400) (hd:(l.any fun e=>decide (50<e.depth))=false):largeB l=false:=by
 unfold largeB
 rw[hd,←minL_eq h,decide_eq_false (by omega)]
 rfl
theorem oz (s:St) (a:SA) (w:World) (hv:StV w s a) (t:s.rall.length≤100000000) (Y:largeB s.rall=false→s.bulk≤1048576):
  Cl 35 #[s.val a] w (Rt (i4 (validS s)) w):=by
 have H1:=hid (fun W (J:Ext w W)=>uH s a W (hv.ext J) t)
 have E:=hid (fun (U:largeB s.rall=false) W (J:Ext w W)=>wM s a W (hv.ext J) (dS s (Y U)).1 (dS s (Y U)).2.2.2)
 have P:=hid (fun (U:largeB s.rall=false) W (J:Ext w W) (hf:s.formed=true) (B:s.Fits)=>rt s a W (hv.ext J) hf B (Y U))
 have h:Hid (validS s=if largeB s.rall=true then 3 else if s.formed=false then 1 else if 16384<s.body.size then 3 else 0):=by unfold Hid;rw[lE];rfl
 have X:Hid (largeB s.rall=false→s.formed=true→s.Fits):=fun A h2=>sW h2 (im (by rw[←lE];exact A))
 have R:Hid (largeB s.rall=false→s.formed=true→s.Fits→s.body.size≤1000000000):=fun U A h2=>ru s A h2 (Y U)
 have y:=hid (Blk.of_new w 40 (s.cells a))
 have n:=hid (x10 w (.cells (s.cells a).toArray 40))
 clear hv Y
 unfold St.val at*
 unfold St.cells Sl.v at*
 generalize validS s=V at*
 go_enter func35,ntmps35
 go_upto_region 1 with fail
 generalize w.alloc (.cells _ 40)=w1 at*
 generalize w.heap.size=g at*
 go_wp2_with (first|(refine aw rfl 40 (.tmp 1) rfl g rfl 40 _ _ y underlying40 rfl (by kernel_rfl) ?_)|(go_at_call 46;(with_reducible refine(H1.out _ n.out).mono ?_);rintro _ w2 ⟨A1,c1,rfl,Z,K⟩))
 replace y:=hid (y.ext K)
 replace n:=hid (n.trans K)
 have HK:=hid Z
 clear Z K H1
 obtain⟨l,hl⟩:∃l,s.rall=l:=⟨_,rfl⟩
 rw[hl]at t h X HK E P R ⊢
 clear hl
 obtain⟨L,hL⟩:∃L,l.length=L:=⟨_,rfl⟩
 rw[hL]at t ⊢
 have HL:=hid hL
 clear hL
 go_loopw [4,5] (fun nv iv wr=> ∃(k:Nat),k≤L∧iv= i4 k∧nv= i4 ((minL (l.take k):Nat):Int)∧minL (l.take k)≤801∧Ext w2 wr) (fun _ i _=>L- (intOf i).toNat)
 case atStart=>exact⟨0,Nat.zero_le _,rfl,rfl,by simp[minL],Ext.refl _⟩
 case round=>
  obtain⟨k,a4,rfl,rfl,hm,D⟩:=hrel
  have H:=hid D
  by_cases ag:minL (l.take k)≤400
  ·have an:decide (((minL (l.take k):Nat):Int)≤400)=true:=by simp;omega
   have F:decide ((400:Int)<((minL (l.take k):Nat):Int))=false:=by simp;omega
   by_cases ac:k<L
   ·obtain⟨x,G⟩:=aC HL ac
    obtain⟨b,a1,Ai,ni,ci,rfl,q0,q1,q2,q3,q4,q5,q6,q7,A⟩:=(HK.ext D).get G
    have Q:Hid (Cl 73 #[x.d.val Ai ni ci,i4 400] wr (Rt (i4 ((min x.nodes 401:Nat):Int)) wr)):=uy x Ai ni ci 400 wr A (by omega)
    have HT:=hid (minL_take G)
    have aS:minL (l.take k)+min x.nodes 401≤801:=by omega
    clear G D A
    unfold Nd.val at Q
    generalize minL (l.take k)=m at*
    generalize min x.nodes 401=mx at*
    go_wp2_with (go_at_call 73;(with_reducible refine Q.out.mono ?_);rintro _ w3 ⟨rfl,u⟩)
    go_roundw
    case rel=>exact⟨k+1,by omega,by go_num,by rw[HT.out];go_num,by rw[HT.out];exact aS,H.trans u⟩
    case measure=>simp[intOf];omega
   ·obtain rfl:k=L:=by omega
    rw[take_of_length_le (Nat.le_of_eq HL)]at ag an F hm ⊢
    have HM:=hid ag
    clear hm
    go_wp2_with fail
    clear D
    go_loopw [6] (fun iv wr=> ∃(j:Nat),j≤k∧iv= i4 j∧(l.take j).any (fun e=>decide (50<e.depth))=false∧Ext w2 wr) (fun i _=>k- (intOf i).toNat)
    case atStart=>exact⟨0,Nat.zero_le _,rfl,rfl,H⟩
    case round=>
     obtain⟨j,a3,rfl,hd,C⟩:=hrel
     have z:=hid C
     have HD:=hid hd
     clear hd
     by_cases ad:j<k
     ·obtain⟨x,G⟩:=aC HL ad
      obtain⟨b,a1,Ai,ni,ci,rfl,q0,q1,q2,q3,q4,q5,q6,q7,A⟩:=(HK.ext C).get G
      have ax:x.nodes≤400:=by have:=pM (mem_of_getElem? G);rw[←minL_eq HM.out]at this;omega
      have Q:=hid (pt x Ai ni ci wr A (by omega))
      have HE:=hid G
      have a2:x.depth≤400:=Nat.le_trans ((fh [x]).2 x (by simp)) ax
      clear G C A ax
      unfold Nd.val at Q
      by_cases hd:50<x.depth
      ·have a0:decide ((50:Int)<(x.depth:Int))=true:=by simp;omega
       have p:=h.out
       rw[qR HE.out hd,if_pos rfl]at p
       subst p
       clear hd
       generalize x.depth=dx at*
       go_wp2_with (go_at_call 74;(with_reducible refine Q.out.mono ?_);rintro _ w3 ⟨rfl,u⟩)
       go_ret
       exact⟨rfl,n.trans (z.trans u)⟩
      ·have a0:decide ((50:Int)<(x.depth:Int))=false:=by simp;omega
       have HP:Hid ((l.take (j+1)).any (fun e=>decide (50<e.depth))=false):=by unfold Hid;rw[ez HE.out,any_append,HD.out];simpa using hd
       clear hd
       generalize x.depth=dx at*
       go_wp2_with (go_at_call 74;(with_reducible refine Q.out.mono ?_);rintro _ w3 ⟨rfl,u⟩)
       go_roundw
       case rel=>exact⟨j+1,by omega,by go_num,HP,z.trans u⟩
       case measure=>simp[intOf];omega
     ·obtain rfl:j=k:=by omega
      rw[take_of_length_le (Nat.le_of_eq HL)]at HD
      have o:=large_no HM HD
      replace E:=hid (E o)
      replace P:=hid (P o)
      replace R:=hid (R o)
      rw[o]at h
      simp only[Bool.false_eq_true,if_false]at h
      replace y:=hid (y.ext z)
      replace n:=hid (n.trans z)
      clear C
      cases B:s.formed
      ·rw[B]at E h
       simp only[if_true]at h
       have p:=h.out
       subst p
       clear P R h X o B
       go_wp2_with (first|(refine aw rfl 40 (.tmp 1) rfl g rfl 40 _ _ y underlying40 rfl (by kernel_rfl) ?_)|(go_at_call 75;(with_reducible refine(E.out _ n.out).mono ?_);rintro _ w4 ⟨rfl,f⟩))
       go_ret
       exact⟨rfl,n.trans f⟩
      ·have I:=X o B
       have hz:=R B I
       have H5:=hid (fun W (J:Ext w W)=>P W J B I)
       rw[B]at E h
       simp only[Bool.true_eq_false,if_false]at h
       clear P R X o B I
       generalize s.body=TB at*
       by_cases hs:16384<TB.size
       ·rw[if_pos hs]at h
        have p:=h.out
        subst p
        have hd:decide ((16384:Int)<(TB.size:Int))=true:=by simp;omega
        clear h
        go_wp2_with (first|(refine aw rfl 40 (.tmp 1) rfl g rfl 40 _ _ y underlying40 rfl (by kernel_rfl) ?_)|(refine aw rfl 40 (.tmp 1) rfl g rfl 40 _ _ (y.ext f) underlying40 rfl (by kernel_rfl) ?_)|(go_at_call 75;(with_reducible refine(E.out _ n.out).mono ?_);rintro _ w4 ⟨rfl,f⟩)|(go_at_call 49;(with_reducible refine(H5.out _ (n.out.trans f)).mono ?_);rintro _ w5 ⟨rfl,O⟩))
        go_ret
        exact⟨rfl,n.trans (f.trans O)⟩
       ·rw[if_neg hs]at h
        have p:=h.out
        subst p
        have hd:decide ((16384:Int)<(TB.size:Int))=false:=by simp;omega
        clear h
        go_wp2_with (first|(refine aw rfl 40 (.tmp 1) rfl g rfl 40 _ _ y underlying40 rfl (by kernel_rfl) ?_)|(refine aw rfl 40 (.tmp 1) rfl g rfl 40 _ _ (y.ext f) underlying40 rfl (by kernel_rfl) ?_)|(go_at_call 75;(with_reducible refine(E.out _ n.out).mono ?_);rintro _ w4 ⟨rfl,f⟩)|(go_at_call 49;(with_reducible refine(H5.out _ (n.out.trans f)).mono ?_);rintro _ w5 ⟨rfl,O⟩))
        go_ret
        exact⟨rfl,n.trans (f.trans O)⟩
  ·have an:decide (((minL (l.take k):Nat):Int)≤400)=false:=by simp;omega
   have F:decide ((400:Int)<((minL (l.take k):Nat):Int))=true:=by simp;omega
   have p:=h.out
   rw[sZ (k:=k) (by omega),if_pos rfl]at p
   subst p
   generalize minL (l.take k)=m at*
   clear h X
   by_cases ac:k<L
   all_goals
    go_wp2_with fail
    go_ret
    exact⟨rfl,n.trans H⟩
end Go.Proofs.YtjigcpfjhfoheaaGreatDoor
