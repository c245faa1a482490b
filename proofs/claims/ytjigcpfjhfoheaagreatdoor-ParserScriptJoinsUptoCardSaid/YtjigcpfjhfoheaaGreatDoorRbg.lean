/- Walks: the reference's text of a statement; The reference's test of a statement is the program's; no program in sight; Walks: the reference's well-formed queries; Walks: the reference's test of a statement. -/
import Derived.Test.YtjigcpfjhfoheaaGreatDoorRbf
import Derived.Deep.RegionHeldLaw
import Derived.Test.YtjigcpfjhfoheaaGreatDoorRbe
import Derived.Test.YtjigcpfjhfoheaaGreatDoorRae
namespace Go.Proofs.YtjigcpfjhfoheaaGreatDoor
open Go.RowKit
set_option maxHeartbeats 4000000
set_option maxRecDepth 100000
set_option linter.unusedVariables false
set_option linter.unusedSimpArgs false
theorem nq (s:St) (a:SA) (w:World) (O:StV w s a) (Z:s.formed=true) (Q:s.Fits) (hb:s.bulk≤1048576):
  Calls Tryz.prog 49 #[s.val a] w fun r w'=>r= .returned (.string s.body)∧Ext w w':=by
 obtain⟨i0,hi,bm,bn,bw⟩:=info_parts bX
 have u:=bC Z
 have A:=ev s hb
 have D:=cZ s hb
 have m:=hid (Blk.of_new w 40 (s.cells a))
 have p:=hid ((Ext.refl w).alloc (.cells (s.cells a).toArray 40))
 have z1:s.tb.size≤1048576:=A.1
 have z2:s.nm.size≤1048576:=A.2.1
 have z3:=gn s (et Z) Q.whr
 have HW:=hid (fun W (J:Ext w W)=>lX s a W (O.whr.ext J) (et Z) Q.whr)
 have C:s.kd=1∨s.kd=2∨s.kd=3∨s.kd=4∨s.kd=5∨s.kd=6∨s.kd=7∨s.kd=8∨s.kd=9∨s.kd=10∨s.kd=11:=by have:=u.1;omega
 have be:=C
 rcases be with hk|hk|hk|hk|hk|hk|hk|hk|hk|hk|hk
 ·have y:s.body=⟨#[67,82,69,65,84,69,32,84,65,66,76,69,32]⟩++s.tb++⟨#[32,40]⟩++cma s.elts++⟨#[41]⟩:=by unfold St.body;simp[hk]
  rw[y]
  have hd:=u.2.1 hk
  have R:=Nat.le_trans (jW hd) (show _≤104857600 by omega)
  have z4:(cma s.elts).size≤104857600:=Nat.le_trans (aK _) R
  have HE:=hid (fun W (J:Ext w W)=>mH s a W (O.ext J) hd D.1 (by omega) Q.chk)
  clear hd R HW
  generalize cma s.elts=TE at*
  have e1:(s.kd==1)=true:=by simp[hk]
  have e2:(s.kd==2)=false:=by simp[hk]
  have e3:(s.kd==3)=false:=by simp[hk]
  have e4:(s.kd==4)=false:=by simp[hk]
  have e5:(s.kd==5)=false:=by simp[hk]
  have e6:(s.kd==6)=false:=by simp[hk]
  have e7:(s.kd==7)=false:=by simp[hk]
  have e8:(s.kd==8)=false:=by simp[hk]
  have e9:(s.kd==9)=false:=by simp[hk]
  have K:(s.kd==10)=false:=by simp[hk]
  clear O hk Z Q hb u A D y C
  unfold St.val at*
  unfold St.cells Sl.v at*
  go_enter Tryz.func49,Tryz.ntmps49
  go_upto_region 1 with fail
  generalize w.alloc (.cells _ 40)=e at*
  generalize w.heap.size=g at*
  have l:=hid (bl e 9 1 0 0 0 e.heap.size #[] (Nat.le_refl _) rfl (by decide))
  replace m:=hid (m.ext ((Ext.refl e).alloc (.cells #[] 9)))
  have h:=hid ((Ext.refl e).alloc (.cells #[] 9))
  replace p:=hid (p.trans h)
  go_upto_region 2 with fail
  obtain⟨j,f⟩:∃j,e.heap.size=j:=⟨_,rfl⟩
  rw[f]at l ⊢
  have B:Hid (j≤(e.alloc (.cells #[] 9)).heap.size):=by unfold Hid;rw[←f];simp
  clear f h
  generalize e.alloc (.cells #[] 9)=w1 at*
  obtain⟨p0,-,-,-,-,-,-,-,-,-,-,-,-,-,-,-,-,-,-,-,-,V,-⟩:=cls (m)
  go_wp2_with fail
  have K1:Hid (∀z:ae w1,Calls Tryz.prog 85 _ z.now _):=fun z=>HE z.now (p.trans z.ext)
  obtain⟨-,l1,l2,l3,l4,l5,-⟩:=lks m
  refine ab (by kernel_rfl) (by kernel_rfl) ?_
  repeat (first|(refine aW rfl 40 (.tmp 1) rfl g rfl 40 _ _ (ce m) Tryz.underlying40 rfl (by kernel_rfl) ?_;go_simp)|go_big_quiet_step (first|(go_at_call 85;with_reducible exact ak (K1.out _))))
  refine wpQuiet_nil ?_
  first|(intro wb G;have H:=ah G;clear G)|(intro xb;have H:=xb.ext;generalize xb.now=wb at*;clear xb)
  go_wp2_with fail
  go_ret
  exact⟨rfl,p.trans H⟩
 ·have y:s.body=⟨#[73,78,83,69,82,84,32,73,78,84,79,32]⟩++s.tb++⟨#[32,86,65,76,85,69,83,32]⟩++cma (s.vals.map cM):=by unfold St.body;simp[hk]
  rw[y]
  have ag:=u.2.2.2.1 hk
  have ba:∀x∈s.vals,x.all Ex.formed=true:=fun x P=>by have:=List.all_eq_true.1 ag x P;unfold rowOk at this;simp only[Bool.and_eq_true]at this;exact this.2
  have R:=Nat.le_trans (aP cM bkR 100 s.vals fun x P=>lP (ba x P)) (show _≤104857600 by omega)
  have z4:(cma (s.vals.map cM)).size≤104857600:=Nat.le_trans (aK _) R
  have HV:=hid O.vals
  have an:=hid ba
  have ac:=hid Q.vals
  have bY:a.vals.n≤1048576:=by have:=O.vals.1;omega
  have HZ:Hid (bA (s.vals.map cM)≤1000000000):=by unfold Hid;omega
  clear ag ba R HW
  obtain⟨TE,X⟩:∃TE,cma (s.vals.map cM)=TE:=⟨_,rfl⟩
  rw[X]at z4 ⊢
  have a6:=hid X
  clear X
  have e1:(s.kd==1)=false:=by simp[hk]
  have e2:(s.kd==2)=true:=by simp[hk]
  have e3:(s.kd==3)=false:=by simp[hk]
  have e4:(s.kd==4)=false:=by simp[hk]
  have e5:(s.kd==5)=false:=by simp[hk]
  have e6:(s.kd==6)=false:=by simp[hk]
  have e7:(s.kd==7)=false:=by simp[hk]
  have e8:(s.kd==8)=false:=by simp[hk]
  have e9:(s.kd==9)=false:=by simp[hk]
  have K:(s.kd==10)=false:=by simp[hk]
  clear O hk Z Q hb u A D y C
  unfold St.val at*
  unfold St.cells Sl.v at*
  go_enter Tryz.func49,Tryz.ntmps49
  go_upto_region 1 with fail
  generalize w.alloc (.cells _ 40)=e at*
  generalize w.heap.size=g at*
  have l:=hid (bl e 9 1 0 0 0 e.heap.size #[] (Nat.le_refl _) rfl (by decide))
  have ax:=hid ((Ext.refl e).alloc (.cells #[] 9))
  go_upto_region 2 with fail
  obtain⟨j,f⟩:∃j,e.heap.size=j:=⟨_,rfl⟩
  rw[f]at l ⊢
  have B:Hid (j≤e.heap.size):=by unfold Hid;omega
  have a1:Hid (e.heap.size≤j):=by unfold Hid;omega
  clear f
  generalize e.alloc (.cells #[] 9)=w1 at*
  have p0:=(m.ext ax).cell 0
  simp only[List.getElem?_cons_succ,List.getElem?_cons_zero]at p0
  go_wp2_with fail
  clear p0
  go_loopw [3,4] (fun nv iv wr=> ∃(k:Nat),k≤a.vals.n∧iv= .int .i64 k∧wr.ownsRow j 9 1 nv k (cn ((s.vals.take k).map cM))∧Ext e wr) (fun _ i _=>a.vals.n- (intOf i).toNat)
  case atStart=>exact⟨0,Nat.zero_le _,rfl,l,ax⟩
  case round=>
   obtain⟨k,bN,rfl,U,I⟩:=hrel
   have HO:=hid U
   have t:=hid I
   clear U
   have cb:=((m).ext I).cell 6
   simp only[List.getElem?_cons_succ,List.getElem?_cons_zero]at cb
   by_cases a9:k<a.vals.n
   ·obtain⟨x,P⟩:=aq HV.1 a9
    obtain⟨b,o,Ai,ni,ci,hA,q0,h1,h2⟩:=(HV.2.2.ext (p.trans I)) k x P
    rw[hA]at cb
    have HT:Hid ((s.vals.take (k+1)).map cM=(s.vals.take k).map cM++ [cM x]):=by unfold Hid;rw[bW P,List.map_append];rfl
    have a7:=an x (List.mem_of_getElem? P)
    have bf:=ac x (List.mem_of_getElem? P)
    have HE:=hid (lV x Ai ni ci wr h1 h2 a7 bf)
    have b1:(exsT x).size≤100000:=Nat.le_trans (aK _) (Nat.le_trans (eq a7) (by omega))
    have a0:cM x=⟨#[40]⟩++exsT x++⟨#[41]⟩:=rfl
    rw[a0]at HT
    clear P I hA h1 h2 a7 bf a0
    generalize exsT x=T1 at*
    go_wp2_with (first|(go_at_call 86;(with_reducible refine HE.out.mono ?_);rintro _ w2 ⟨rfl,E⟩)|(at_builtin;generalize ⟨#[40]⟩++T1++⟨#[41]⟩=TB at*;refine wpList_append_any _ rfl (.tmp 29) (.tmp 38) 101 rfl j 9 i0 _ 1 16 Tryz.underlying101 hi bm bn bw rfl (by decide) _ k _ rfl ((ownN_ext HO.out E).alloc _) _ _ 1 1 [.string TB] rfl (reads_new1 w2 _ _) (by simp[Value.oneCell']) (by unfold maxLen;omega) (by omega) (Nat.le_trans B.out (Nat.le_trans (t.out.trans E).size (by simp))) ?_;intro v1 w5 F L Y;have a5:=hid F;have a4:=hid L;clear F L Y))
    go_roundw
    case rel=>
     have a8:=aI HO
     refine⟨k+1,by omega,by go_num,?_,((t.trans E).alloc _).grown a4 fun q hq=>Nat.le_trans a1 (a8 q hq)⟩
     rw[HT.out,aT]
     exact a5
    case measure=>simp[intOf];omega
   ·obtain rfl:k=a.vals.n:=by omega
    rw[List.take_of_length_le (Nat.le_of_eq HV.1)]at HO
    go_wp2_with fail
    replace m:=hid (m.ext t)
    have HC:=hid (fun W (J:Ext wr W)=>cX _ _ _ _ W (ownN_ext HO J) HZ)
    clear cb I HV an ac HZ HO
    rw[a6.out]at HC
    have K1:Hid (∀z:ae wr,Calls Tryz.prog 87 _ z.now _):=fun z=>HC z.now z.ext
    have l1:=ae.keep (m.cell_some (i:=1) rfl)
    refine ab (by kernel_rfl) (by kernel_rfl) ?_
    repeat (first|(refine aW rfl 40 (.tmp 1) rfl g rfl 40 _ _ (ce m) Tryz.underlying40 rfl (by kernel_rfl) ?_;go_simp)|go_big_quiet_step (first|(go_at_call 87;with_reducible exact ak (K1.out _))))
    refine wpQuiet_nil ?_
    first|(intro wb G;have H:=ah G;clear G)|(intro xb;have H:=xb.ext;generalize xb.now=wb at*;clear xb)
    go_wp2_with fail
    go_ret
    exact⟨rfl,p.trans (t.trans H)⟩
 ·have y:s.body=⟨#[85,80,68,65,84,69,32]⟩++s.tb++⟨#[32,83,69,84,32]⟩++cma (s.sets.map Asg.tx)++s.whT:=by unfold St.body;simp[hk]
  rw[y]
  have ag:=u.2.2.2.2.2.1 hk
  have R:=Nat.le_trans (aP Asg.tx bkA 100 s.sets fun x P=>lQ (List.all_eq_true.1 ag x P)) (show _≤104857600 by omega)
  have z4:(cma (s.sets.map Asg.tx)).size≤104857600:=Nat.le_trans (aK _) R
  have HV:=hid O.sets
  have an:=hid ag
  have ac:=hid Q.sets
  have bY:a.sets.n≤1048576:=by have:=O.sets.1;omega
  have HZ:Hid (bA (s.sets.map Asg.tx)≤1000000000):=by unfold Hid;omega
  clear ag R
  generalize s.whT=TW at*
  obtain⟨TE,X⟩:∃TE,cma (s.sets.map Asg.tx)=TE:=⟨_,rfl⟩
  rw[X]at z4 ⊢
  have a6:=hid X
  clear X
  have e1:(s.kd==1)=false:=by simp[hk]
  have e2:(s.kd==2)=false:=by simp[hk]
  have e3:(s.kd==3)=true:=by simp[hk]
  have e4:(s.kd==4)=false:=by simp[hk]
  have e5:(s.kd==5)=false:=by simp[hk]
  have e6:(s.kd==6)=false:=by simp[hk]
  have e7:(s.kd==7)=false:=by simp[hk]
  have e8:(s.kd==8)=false:=by simp[hk]
  have e9:(s.kd==9)=false:=by simp[hk]
  have K:(s.kd==10)=false:=by simp[hk]
  clear O hk Z Q hb u A D y C
  unfold St.val at*
  unfold St.cells Sl.v at*
  go_enter Tryz.func49,Tryz.ntmps49
  go_upto_region 1 with fail
  generalize w.alloc (.cells _ 40)=e at*
  generalize w.heap.size=g at*
  have l:=hid (bl e 9 1 0 0 0 e.heap.size #[] (Nat.le_refl _) rfl (by decide))
  have ax:=hid ((Ext.refl e).alloc (.cells #[] 9))
  go_upto_region 2 with fail
  obtain⟨j,f⟩:∃j,e.heap.size=j:=⟨_,rfl⟩
  rw[f]at l ⊢
  have B:Hid (j≤e.heap.size):=by unfold Hid;omega
  have a1:Hid (e.heap.size≤j):=by unfold Hid;omega
  clear f
  generalize e.alloc (.cells #[] 9)=w1 at*
  have p0:=(m.ext ax).cell 0
  simp only[List.getElem?_cons_succ,List.getElem?_cons_zero]at p0
  go_wp2_with fail
  clear p0
  go_loopw [3,5] (fun nv iv wr=> ∃(k:Nat),k≤a.sets.n∧iv= .int .i64 k∧wr.ownsRow j 9 1 nv k (cn ((s.sets.take k).map Asg.tx))∧Ext e wr) (fun _ i _=>a.sets.n- (intOf i).toNat)
  case atStart=>exact⟨0,Nat.zero_le _,rfl,l,ax⟩
  case round=>
   obtain⟨k,bN,rfl,U,I⟩:=hrel
   have HO:=hid U
   have t:=hid I
   clear U
   have cb:=((m).ext I).cell 7
   simp only[List.getElem?_cons_succ,List.getElem?_cons_zero]at cb
   by_cases a9:k<a.sets.n
   ·obtain⟨x,P⟩:=aq HV.1 a9
    have bd:=HV.2.2.ext p
    have a2:=m.cell 7
    simp only[List.getElem?_cons_succ,List.getElem?_cons_zero]at a2
    obtain⟨b,o,Ai,ni,ci,hA,q0,q1,q2,q3,q4,q5,q6,q7,q8,q9,h1⟩:=eL bd P
    rw[hA]at cb a2
    have HT:Hid ((s.sets.take (k+1)).map Asg.tx=(s.sets.take k).map Asg.tx++ [x.tx]):=by unfold Hid;rw[bW P,List.map_append];rfl
    have a3:=asg_nm (List.all_eq_true.1 an x (List.mem_of_getElem? P))
    have HE:=hid (fun W (J:Ext e W)=>dB x.ex 1 Ai ni ci W (h1.ext J) a3.2 (ac x (List.mem_of_getElem? P)))
    have b1:(x.ex.tx 1).size≤100000:=by have:=bJ x.ex 1 a3.2;have:=ac x (List.mem_of_getElem? P);omega
    have a0:x.tx=x.cl++⟨#[32,61,32]⟩++x.ex.tx 1:=rfl
    rw[a0]at HT
    have b2:=a3.1
    clear P hA h1 a3 a0 bd q1
    unfold Nd.val at HE
    generalize x.ex.tx 1=T1 at*
    generalize x.ex.d=d at*
    generalize x.cl=cl at*
    obtain⟨op,tb,nm,ix,vk,vi,vt⟩:=d
    simp only at*
    have b3:(0:Int)≤(k:Int):=by omega
    have b4:(k:Int)<(a.sets.n:Int):=by omega
    have ad:Hid (∀W,Ext e W→W.cell? ⟨g,7,none⟩=some (.slice (some ⟨b,o,none⟩) a.sets.n a.sets.c)∧W.cell? ⟨b,o+k*10,none⟩=some (.string cl)∧W.cell? ⟨b,o+k*10+2,none⟩=some (.int .i64 op)∧W.cell? ⟨b,o+k*10+3,none⟩=some (.string tb)∧W.cell? ⟨b,o+k*10+4,none⟩=some (.string nm)∧W.cell? ⟨b,o+k*10+5,none⟩=some (.int .i64 ix)∧W.cell? ⟨b,o+k*10+6,none⟩=some (.int .i64 vk)∧W.cell? ⟨b,o+k*10+7,none⟩=some (.int .i64 vi)∧W.cell? ⟨b,o+k*10+8,none⟩=some (.string vt)∧W.cell? ⟨b,o+k*10+9,none⟩=some (.slice Ai ni ci)):=fun W J=>⟨J.keep a2,J.keep q0,J.keep q2,J.keep q3,J.keep q4,J.keep q5,J.keep q6,J.keep q7,J.keep q8,J.keep q9⟩
    obtain⟨d7,d0,d2,d3,d4,d5,d6,bx,d8,d9⟩:=ad _ I
    clear I q0 q2 q3 q4 q5 q6 q7 q8 q9 a2
    go_wp2_with fail
    go_region_held_law (fun w'=>w'.cell? ⟨g,7,none⟩=some (.slice (some ⟨b,o,none⟩) a.sets.n a.sets.c)∧w'.cell? ⟨b,o+k*10,none⟩=some (.string cl)∧w'.cell? ⟨b,o+k*10+2,none⟩=some (.int .i64 op)∧w'.cell? ⟨b,o+k*10+3,none⟩=some (.string tb)∧w'.cell? ⟨b,o+k*10+4,none⟩=some (.string nm)∧w'.cell? ⟨b,o+k*10+5,none⟩=some (.int .i64 ix)∧w'.cell? ⟨b,o+k*10+6,none⟩=some (.int .i64 vk)∧w'.cell? ⟨b,o+k*10+7,none⟩=some (.int .i64 vi)∧w'.cell? ⟨b,o+k*10+8,none⟩=some (.string vt)∧w'.cell? ⟨b,o+k*10+9,none⟩=some (.slice Ai ni ci))
     (first|go_keep|exact ad _ t.drew|exact ad _ t.out|exact ad _ (t.trans E)|exact ad _ ((t.trans E).alloc _)|exact ad _ (((t.trans E).alloc _).grown L fun q hq=>Nat.le_trans a1 (aI HO q hq)))
     (first
      |(go_at_call 50;(with_reducible refine(HE.out _ t.out.drew).mono ?_);rintro _ w2 ⟨rfl,E⟩;replace E:Ext wr w2:=(Ext.refl wr).drew.trans E)
      |(generalize cl++⟨#[32,61,32]⟩++T1=TB at*;refine dK _ rfl (.tmp 56) (.tmp 72) 101 rfl j 9 i0 _ 1 16 Tryz.underlying101 hi bm bn bw rfl (by decide) _ k _ rfl ((ownN_ext HO E).alloc _) _ _ 1 1 [.string TB] rfl (reads_new1 w2 _ _) (by simp[Value.oneCell']) (by unfold maxLen;omega) (by omega) (Nat.le_trans B (Nat.le_trans (t.trans E).size (by simp))) ?_;intro v1 w5 F L Y))
    all_goals
     have a5:=hid F
     have a4:=hid L
     rename_i hHeld
     clear hHeld F L Y d7 d0 d2 d3 d4 d5 d6 bx d8 d9
     go_wp2_with fail
     go_roundw
     case rel=>
      have a8:=aI HO
      refine⟨k+1,by omega,by go_num,?_,((t.trans E).alloc _).grown a4 fun q hq=>Nat.le_trans a1 (a8 q hq)⟩
      rw[HT.out,aT]
      exact a5
     case measure=>simp[intOf];omega
   ·obtain rfl:k=a.sets.n:=by omega
    rw[List.take_of_length_le (Nat.le_of_eq HV.1)]at HO
    go_wp2_with fail
    replace m:=hid (m.ext t)
    have HC:=hid (fun W (J:Ext wr W)=>cX _ _ _ _ W (ownN_ext HO J) HZ)
    clear cb I HV an ac HZ HO
    rw[a6.out]at HC
    have K1:Hid (∀z:ae wr,Calls Tryz.prog 87 _ z.now _):=fun z=>HC z.now z.ext
    have K2:Hid (∀z:ae wr,Calls Tryz.prog 88 _ z.now _):=fun z=>HW z.now (p.trans (t.trans z.ext))
    have l1:=ae.keep (m.cell_some (i:=1) rfl)
    refine ab (by kernel_rfl) (by kernel_rfl) ?_
    repeat (first|(refine aW rfl 40 (.tmp 1) rfl g rfl 40 _ _ (ce m) Tryz.underlying40 rfl (by kernel_rfl) ?_;go_simp)|go_big_quiet_step (first|(go_at_call 87;with_reducible exact ak (K1.out _))|(go_at_call 88;with_reducible exact ak (K2.out _))))
    refine wpQuiet_nil ?_
    first|(intro wb G;have H:=ah G;clear G)|(intro xb;have H:=xb.ext;generalize xb.now=wb at*;clear xb)
    go_wp2_with fail
    go_ret
    exact⟨rfl,p.trans (t.trans H)⟩
 ·have y:s.body=fD++s.tb++s.whT:=by unfold St.body;simp[hk]
  rw[y]
  generalize s.whT=TW at*
  unfold fD
  have e1:(s.kd==1)=false:=by simp[hk]
  have e2:(s.kd==2)=false:=by simp[hk]
  have e3:(s.kd==3)=false:=by simp[hk]
  have e4:(s.kd==4)=true:=by simp[hk]
  have e5:(s.kd==5)=false:=by simp[hk]
  have e6:(s.kd==6)=false:=by simp[hk]
  have e7:(s.kd==7)=false:=by simp[hk]
  have e8:(s.kd==8)=false:=by simp[hk]
  have e9:(s.kd==9)=false:=by simp[hk]
  have K:(s.kd==10)=false:=by simp[hk]
  clear O hk Z Q hb u A D y C
  unfold St.val at*
  unfold St.cells Sl.v at*
  go_enter Tryz.func49,Tryz.ntmps49
  go_upto_region 1 with fail
  generalize w.alloc (.cells _ 40)=e at*
  generalize w.heap.size=g at*
  have l:=hid (bl e 9 1 0 0 0 e.heap.size #[] (Nat.le_refl _) rfl (by decide))
  replace m:=hid (m.ext ((Ext.refl e).alloc (.cells #[] 9)))
  have h:=hid ((Ext.refl e).alloc (.cells #[] 9))
  replace p:=hid (p.trans h)
  go_upto_region 2 with fail
  obtain⟨j,f⟩:∃j,e.heap.size=j:=⟨_,rfl⟩
  rw[f]at l ⊢
  have B:Hid (j≤(e.alloc (.cells #[] 9)).heap.size):=by unfold Hid;rw[←f];simp
  clear f h
  generalize e.alloc (.cells #[] 9)=w1 at*
  obtain⟨p0,-,-,-,-,-,-,-,-,-,-,-,-,-,-,-,-,-,-,-,-,V,-⟩:=cls (m)
  go_wp2_with fail
  have K2:Hid (∀z:ae w1,Calls Tryz.prog 88 _ z.now _):=fun z=>HW z.now (p.trans z.ext)
  have l1:=ae.keep (m.cell_some (i:=1) rfl)
  refine ab (by kernel_rfl) (by kernel_rfl) ?_
  repeat (first|(refine aW rfl 40 (.tmp 1) rfl g rfl 40 _ _ (ce m) Tryz.underlying40 rfl (by kernel_rfl) ?_;go_simp)|go_big_quiet_step (first|(go_at_call 88;with_reducible exact ak (K2.out _))))
  refine wpQuiet_nil ?_
  first|(intro wb G;have H:=ah G;clear G)|(intro xb;have H:=xb.ext;generalize xb.now=wb at*;clear xb)
  go_wp2_with fail
  go_ret
  exact⟨rfl,p.trans H⟩
 ·have y:s.body=s.sel:=by unfold St.body;simp[hk]
  rw[y]
  have HE:=hid (fun W (J:Ext w W)=>rsel_any s a W (O.ext J) (u.2.2.2.2.2.2.2.1 hk) (et Z) Q hb)
  clear HW z3
  generalize s.sel=TE at*
  have e1:(s.kd==1)=false:=by simp[hk]
  have e2:(s.kd==2)=false:=by simp[hk]
  have e3:(s.kd==3)=false:=by simp[hk]
  have e4:(s.kd==4)=false:=by simp[hk]
  have e5:(s.kd==5)=true:=by simp[hk]
  have e6:(s.kd==6)=false:=by simp[hk]
  have e7:(s.kd==7)=false:=by simp[hk]
  have e8:(s.kd==8)=false:=by simp[hk]
  have e9:(s.kd==9)=false:=by simp[hk]
  have K:(s.kd==10)=false:=by simp[hk]
  clear O hk Z Q hb u A D y C
  unfold St.val at*
  unfold St.cells Sl.v at*
  go_enter Tryz.func49,Tryz.ntmps49
  go_upto_region 1 with fail
  generalize w.alloc (.cells _ 40)=e at*
  generalize w.heap.size=g at*
  have l:=hid (bl e 9 1 0 0 0 e.heap.size #[] (Nat.le_refl _) rfl (by decide))
  replace m:=hid (m.ext ((Ext.refl e).alloc (.cells #[] 9)))
  have h:=hid ((Ext.refl e).alloc (.cells #[] 9))
  replace p:=hid (p.trans h)
  go_upto_region 2 with fail
  obtain⟨j,f⟩:∃j,e.heap.size=j:=⟨_,rfl⟩
  rw[f]at l ⊢
  have B:Hid (j≤(e.alloc (.cells #[] 9)).heap.size):=by unfold Hid;rw[←f];simp
  clear f h
  generalize e.alloc (.cells #[] 9)=w1 at*
  obtain⟨p0,-,-,-,-,-,-,-,-,-,-,-,-,-,-,-,-,-,-,-,-,V,-⟩:=cls (m)
  go_wp2_with (first|(refine am rfl 40 (.tmp 1) rfl g rfl 40 _ _ m Tryz.underlying40 rfl (by kernel_rfl) ?_)|(go_at_call 89;(with_reducible refine(HE.out _ p.out).mono ?_);rintro _ w5 ⟨rfl,b0⟩))
  go_ret
  exact⟨rfl,p.trans b0⟩
 ·have y:s.body=⟨#[66,69,71,73,78]⟩:=by unfold St.body;simp[hk]
  rw[y]
  clear HW z3
  have e1:(s.kd==1)=false:=by simp[hk]
  have e2:(s.kd==2)=false:=by simp[hk]
  have e3:(s.kd==3)=false:=by simp[hk]
  have e4:(s.kd==4)=false:=by simp[hk]
  have e5:(s.kd==5)=false:=by simp[hk]
  have e6:(s.kd==6)=true:=by simp[hk]
  have e7:(s.kd==7)=false:=by simp[hk]
  have e8:(s.kd==8)=false:=by simp[hk]
  have e9:(s.kd==9)=false:=by simp[hk]
  have K:(s.kd==10)=false:=by simp[hk]
  clear O hk Z Q hb u A D y C
  unfold St.val at*
  unfold St.cells Sl.v at*
  go_enter Tryz.func49,Tryz.ntmps49
  go_upto_region 1 with fail
  generalize w.alloc (.cells _ 40)=e at*
  generalize w.heap.size=g at*
  have l:=hid (bl e 9 1 0 0 0 e.heap.size #[] (Nat.le_refl _) rfl (by decide))
  replace m:=hid (m.ext ((Ext.refl e).alloc (.cells #[] 9)))
  have h:=hid ((Ext.refl e).alloc (.cells #[] 9))
  replace p:=hid (p.trans h)
  go_upto_region 2 with fail
  obtain⟨j,f⟩:∃j,e.heap.size=j:=⟨_,rfl⟩
  rw[f]at l ⊢
  have B:Hid (j≤(e.alloc (.cells #[] 9)).heap.size):=by unfold Hid;rw[←f];simp
  clear f h
  generalize e.alloc (.cells #[] 9)=w1 at*
  obtain⟨p0,-,-,-,-,-,-,-,-,-,-,-,-,-,-,-,-,-,-,-,-,V,-⟩:=cls (m)
  go_wp2_with fail
  go_ret
  exact⟨rfl,p⟩
 ·have y:s.body=⟨#[67,79,77,77,73,84]⟩:=by unfold St.body;simp[hk]
  rw[y]
  clear HW z3
  have e1:(s.kd==1)=false:=by simp[hk]
  have e2:(s.kd==2)=false:=by simp[hk]
  have e3:(s.kd==3)=false:=by simp[hk]
  have e4:(s.kd==4)=false:=by simp[hk]
  have e5:(s.kd==5)=false:=by simp[hk]
  have e6:(s.kd==6)=false:=by simp[hk]
  have e7:(s.kd==7)=true:=by simp[hk]
  have e8:(s.kd==8)=false:=by simp[hk]
  have e9:(s.kd==9)=false:=by simp[hk]
  have K:(s.kd==10)=false:=by simp[hk]
  clear O hk Z Q hb u A D y C
  unfold St.val at*
  unfold St.cells Sl.v at*
  go_enter Tryz.func49,Tryz.ntmps49
  go_upto_region 1 with fail
  generalize w.alloc (.cells _ 40)=e at*
  generalize w.heap.size=g at*
  have l:=hid (bl e 9 1 0 0 0 e.heap.size #[] (Nat.le_refl _) rfl (by decide))
  replace m:=hid (m.ext ((Ext.refl e).alloc (.cells #[] 9)))
  have h:=hid ((Ext.refl e).alloc (.cells #[] 9))
  replace p:=hid (p.trans h)
  go_upto_region 2 with fail
  obtain⟨j,f⟩:∃j,e.heap.size=j:=⟨_,rfl⟩
  rw[f]at l ⊢
  have B:Hid (j≤(e.alloc (.cells #[] 9)).heap.size):=by unfold Hid;rw[←f];simp
  clear f h
  generalize e.alloc (.cells #[] 9)=w1 at*
  obtain⟨p0,-,-,-,-,-,-,-,-,-,-,-,-,-,-,-,-,-,-,-,-,V,-⟩:=cls (m)
  go_wp2_with fail
  go_ret
  exact⟨rfl,p⟩
 ·have y:s.body=⟨#[82,79,76,76,66,65,67,75]⟩:=by unfold St.body;simp[hk]
  rw[y]
  clear HW z3
  have e1:(s.kd==1)=false:=by simp[hk]
  have e2:(s.kd==2)=false:=by simp[hk]
  have e3:(s.kd==3)=false:=by simp[hk]
  have e4:(s.kd==4)=false:=by simp[hk]
  have e5:(s.kd==5)=false:=by simp[hk]
  have e6:(s.kd==6)=false:=by simp[hk]
  have e7:(s.kd==7)=false:=by simp[hk]
  have e8:(s.kd==8)=true:=by simp[hk]
  have e9:(s.kd==9)=false:=by simp[hk]
  have K:(s.kd==10)=false:=by simp[hk]
  clear O hk Z Q hb u A D y C
  unfold St.val at*
  unfold St.cells Sl.v at*
  go_enter Tryz.func49,Tryz.ntmps49
  go_upto_region 1 with fail
  generalize w.alloc (.cells _ 40)=e at*
  generalize w.heap.size=g at*
  have l:=hid (bl e 9 1 0 0 0 e.heap.size #[] (Nat.le_refl _) rfl (by decide))
  replace m:=hid (m.ext ((Ext.refl e).alloc (.cells #[] 9)))
  have h:=hid ((Ext.refl e).alloc (.cells #[] 9))
  replace p:=hid (p.trans h)
  go_upto_region 2 with fail
  obtain⟨j,f⟩:∃j,e.heap.size=j:=⟨_,rfl⟩
  rw[f]at l ⊢
  have B:Hid (j≤(e.alloc (.cells #[] 9)).heap.size):=by unfold Hid;rw[←f];simp
  clear f h
  generalize e.alloc (.cells #[] 9)=w1 at*
  obtain⟨p0,-,-,-,-,-,-,-,-,-,-,-,-,-,-,-,-,-,-,-,-,V,-⟩:=cls (m)
  go_wp2_with fail
  go_ret
  exact⟨rfl,p⟩
 ·have y:s.body=⟨#[83,65,86,69,80,79,73,78,84,32]⟩++s.nm:=by unfold St.body;simp[hk]
  rw[y]
  clear HW z3
  have e1:(s.kd==1)=false:=by simp[hk]
  have e2:(s.kd==2)=false:=by simp[hk]
  have e3:(s.kd==3)=false:=by simp[hk]
  have e4:(s.kd==4)=false:=by simp[hk]
  have e5:(s.kd==5)=false:=by simp[hk]
  have e6:(s.kd==6)=false:=by simp[hk]
  have e7:(s.kd==7)=false:=by simp[hk]
  have e8:(s.kd==8)=false:=by simp[hk]
  have e9:(s.kd==9)=true:=by simp[hk]
  have K:(s.kd==10)=false:=by simp[hk]
  clear O hk Z Q hb u A D y C
  unfold St.val at*
  unfold St.cells Sl.v at*
  go_enter Tryz.func49,Tryz.ntmps49
  go_upto_region 1 with fail
  generalize w.alloc (.cells _ 40)=e at*
  generalize w.heap.size=g at*
  have l:=hid (bl e 9 1 0 0 0 e.heap.size #[] (Nat.le_refl _) rfl (by decide))
  replace m:=hid (m.ext ((Ext.refl e).alloc (.cells #[] 9)))
  have h:=hid ((Ext.refl e).alloc (.cells #[] 9))
  replace p:=hid (p.trans h)
  go_upto_region 2 with fail
  obtain⟨j,f⟩:∃j,e.heap.size=j:=⟨_,rfl⟩
  rw[f]at l ⊢
  have B:Hid (j≤(e.alloc (.cells #[] 9)).heap.size):=by unfold Hid;rw[←f];simp
  clear f h
  generalize e.alloc (.cells #[] 9)=w1 at*
  obtain⟨p0,-,-,-,-,-,-,-,-,-,-,-,-,-,-,-,-,-,-,-,-,V,-⟩:=cls (m)
  go_wp2_with fail
  go_ret
  exact⟨rfl,p⟩
 ·have y:s.body=⟨#[82,79,76,76,66,65,67,75,32,84,79,32]⟩++s.nm:=by unfold St.body;simp[hk]
  rw[y]
  clear HW z3
  have e1:(s.kd==1)=false:=by simp[hk]
  have e2:(s.kd==2)=false:=by simp[hk]
  have e3:(s.kd==3)=false:=by simp[hk]
  have e4:(s.kd==4)=false:=by simp[hk]
  have e5:(s.kd==5)=false:=by simp[hk]
  have e6:(s.kd==6)=false:=by simp[hk]
  have e7:(s.kd==7)=false:=by simp[hk]
  have e8:(s.kd==8)=false:=by simp[hk]
  have e9:(s.kd==9)=false:=by simp[hk]
  have K:(s.kd==10)=true:=by simp[hk]
  clear O hk Z Q hb u A D y C
  unfold St.val at*
  unfold St.cells Sl.v at*
  go_enter Tryz.func49,Tryz.ntmps49
  go_upto_region 1 with fail
  generalize w.alloc (.cells _ 40)=e at*
  generalize w.heap.size=g at*
  have l:=hid (bl e 9 1 0 0 0 e.heap.size #[] (Nat.le_refl _) rfl (by decide))
  replace m:=hid (m.ext ((Ext.refl e).alloc (.cells #[] 9)))
  have h:=hid ((Ext.refl e).alloc (.cells #[] 9))
  replace p:=hid (p.trans h)
  go_upto_region 2 with fail
  obtain⟨j,f⟩:∃j,e.heap.size=j:=⟨_,rfl⟩
  rw[f]at l ⊢
  have B:Hid (j≤(e.alloc (.cells #[] 9)).heap.size):=by unfold Hid;rw[←f];simp
  clear f h
  generalize e.alloc (.cells #[] 9)=w1 at*
  obtain⟨p0,-,-,-,-,-,-,-,-,-,-,-,-,-,-,-,-,-,-,-,-,V,-⟩:=cls (m)
  go_wp2_with fail
  go_ret
  exact⟨rfl,p⟩
 ·have y:s.body=⟨#[82,69,76,69,65,83,69,32]⟩++s.nm:=by unfold St.body;simp[hk]
  rw[y]
  clear HW z3
  have e1:(s.kd==1)=false:=by simp[hk]
  have e2:(s.kd==2)=false:=by simp[hk]
  have e3:(s.kd==3)=false:=by simp[hk]
  have e4:(s.kd==4)=false:=by simp[hk]
  have e5:(s.kd==5)=false:=by simp[hk]
  have e6:(s.kd==6)=false:=by simp[hk]
  have e7:(s.kd==7)=false:=by simp[hk]
  have e8:(s.kd==8)=false:=by simp[hk]
  have e9:(s.kd==9)=false:=by simp[hk]
  have K:(s.kd==10)=false:=by simp[hk]
  clear O hk Z Q hb u A D y C
  unfold St.val at*
  unfold St.cells Sl.v at*
  go_enter Tryz.func49,Tryz.ntmps49
  go_upto_region 1 with fail
  generalize w.alloc (.cells _ 40)=e at*
  generalize w.heap.size=g at*
  have l:=hid (bl e 9 1 0 0 0 e.heap.size #[] (Nat.le_refl _) rfl (by decide))
  replace m:=hid (m.ext ((Ext.refl e).alloc (.cells #[] 9)))
  have h:=hid ((Ext.refl e).alloc (.cells #[] 9))
  replace p:=hid (p.trans h)
  go_upto_region 2 with fail
  obtain⟨j,f⟩:∃j,e.heap.size=j:=⟨_,rfl⟩
  rw[f]at l ⊢
  have B:Hid (j≤(e.alloc (.cells #[] 9)).heap.size):=by unfold Hid;rw[←f];simp
  clear f h
  generalize e.alloc (.cells #[] 9)=w1 at*
  obtain⟨p0,-,-,-,-,-,-,-,-,-,-,-,-,-,-,-,-,-,-,-,-,V,-⟩:=cls (m)
  go_wp2_with fail
  go_ret
  exact⟨rfl,p⟩
def St.rformed (s:St):Bool:=
 let tabled:=decide (1≤s.kd) &&decide (s.kd≤4)
 let named:=decide (9≤s.kd) &&decide (s.kd≤11)
 !((s.kd !=1&&!s.noDef)||(s.kd !=2&&decide (0<s.vals.length))||(s.kd !=3&&decide (0<s.sets.length))) &&
  !(s.kd !=5&& (decide (0<s.itms.length+s.frm.length+s.grp.length+s.ord.length)||s.lim !=0)) &&
  !((tabled&&!nameB s.tb)||(!tabled&&!s.tb.toList.isEmpty)||(named&&!nameB s.nm)||(!named&&!s.nm.toList.isEmpty)) &&
  !(!s.whr.absent&& ((decide (s.kd<3)||decide (5<s.kd))||!s.whr.formed)) &&
  (if s.kd=1 then s.defOk else if s.kd=2 then decide (0<s.vals.length) &&s.vals.all rowOk else if s.kd=3 then decide (0<s.sets.length) &&s.sets.all Asg.ok else if s.kd=5 then s.qOk else s.kd==4||decide (6≤s.kd) &&decide (s.kd≤11))
theorem name_ne {s:ByteArray} (h:nameB s=true):s.toList.isEmpty=false:=by
 rw[←cV]
 cases a:(s.size==0)
 ·rfl
 ·rw[gP (by simpa using a)]at h;cases h
theorem def_ne {s:St} (h:s.defOk=true):s.noDef=false:=by
 unfold St.defOk at h
 simp only[Bool.and_eq_true]at h
 simpa using h.1.1.1.1
theorem q_ne {s:St} (h:s.qOk=true):decide (0<s.frm.length)=true:=by
 unfold St.qOk at h
 simp only[Bool.and_eq_true]at h
 exact h.1.1.1.1.2
theorem qH (s:St):s.rformed=s.formed:=by
 have a:= @name_ne s.tb
 have e:= @name_ne s.nm
 have hd:= @def_ne s
 have l:= @q_ne s
 have y:∀b:Bool,decide (0<s.itms.length+s.frm.length+s.grp.length+s.ord.length)=(decide (0<s.frm.length)||!decide (s.itms.length+s.grp.length+s.ord.length=0)):=fun _=>by
  rw[Bool.eq_iff_iff,Bool.or_eq_true,Bool.not_eq_true',decide_eq_true_eq,decide_eq_true_eq,decide_eq_false_iff_not];omega
 unfold St.rformed St.formed
 dsimp only
 rw[y true]
 generalize s.defOk=n at*
 generalize s.noDef=k at*
 generalize s.qOk=r at*
 generalize nameB s.tb=j at*
 generalize nameB s.nm=i at*
 generalize s.tb.toList.isEmpty=u at*
 generalize s.nm.toList.isEmpty=ne at*
 generalize s.whr.absent=f at*
 generalize s.whr.formed=g at*
 generalize s.vals.all rowOk=o at*
 generalize s.sets.all Asg.ok=p at*
 generalize decide (0<s.frm.length)=f0 at*
 generalize decide (0<s.vals.length)=w at*
 generalize decide (0<s.sets.length)=t at*
 generalize decide (s.itms.length+s.grp.length+s.ord.length=0)=x at*
 have F:(s.lim !=0)=!(s.lim==0):=rfl
 rw[F]
 generalize (s.lim==0)=m at*
 have H:s.kd<1∨s.kd=1∨s.kd=2∨s.kd=3∨s.kd=4∨s.kd=5∨s.kd=6∨s.kd=7∨s.kd=8∨s.kd=9∨s.kd=10∨s.kd=11∨11<s.kd:=by omega
 generalize s.kd=K at*
 clear F y
 rcases H with h|h|h|h|h|h|h|h|h|h|h|h|h
 ·have z:¬K=1:=by omega
  have A:¬K=2:=by omega
  have B:¬K=3:=by omega
  have C:¬K=4:=by omega
  have D:¬K=5:=by omega
  have E:¬1≤K:=by omega
  have G:¬6≤K:=by omega
  simp[z,A,B,C,D,E,G]
 ·subst h
  clear l
  simp only[Int.reduceEq,↓reduceIte]
  clear o p r
  revert a e hd
  revert n k j i u ne f g f0 w t x m
  decide+kernel
 ·subst h
  clear hd l
  simp only[Int.reduceEq,↓reduceIte]
  clear n p r
  revert a e
  revert o k j i u ne f g f0 w t x m
  decide+kernel
 ·subst h
  clear hd l
  simp only[Int.reduceEq,↓reduceIte]
  clear n o r
  revert a e
  revert p k j i u ne f g f0 w t x m
  decide+kernel
 ·subst h
  clear hd l
  simp only[Int.reduceEq,↓reduceIte]
  clear n o p r
  revert a e
  revert k j i u ne f g f0 w t x m
  decide+kernel
 ·subst h
  clear hd
  simp only[Int.reduceEq,↓reduceIte]
  clear n o p
  revert a e l
  revert r k j i u ne f g f0 w t x m
  decide+kernel
 ·subst h
  clear hd l
  simp only[Int.reduceEq,↓reduceIte]
  clear n o p r
  revert a e
  revert k j i u ne f g f0 w t x m
  decide+kernel
 ·subst h
  clear hd l
  simp only[Int.reduceEq,↓reduceIte]
  clear n o p r
  revert a e
  revert k j i u ne f g f0 w t x m
  decide+kernel
 ·subst h
  clear hd l
  simp only[Int.reduceEq,↓reduceIte]
  clear n o p r
  revert a e
  revert k j i u ne f g f0 w t x m
  decide+kernel
 ·subst h
  clear hd l
  simp only[Int.reduceEq,↓reduceIte]
  clear n o p r
  revert a e
  revert k j i u ne f g f0 w t x m
  decide+kernel
 ·subst h
  clear hd l
  simp only[Int.reduceEq,↓reduceIte]
  clear n o p r
  revert a e
  revert k j i u ne f g f0 w t x m
  decide+kernel
 ·subst h
  clear hd l
  simp only[Int.reduceEq,↓reduceIte]
  clear n o p r
  revert a e
  revert k j i u ne f g f0 w t x m
  decide+kernel
 ·have z:¬K=1:=by omega
  have A:¬K=2:=by omega
  have B:¬K=3:=by omega
  have C:¬K=4:=by omega
  have D:¬K=5:=by omega
  have E:¬K≤11:=by omega
  simp[z,A,B,C,D,E]
theorem qI (s:St) (a:SA) (w:World) (hv:StV w s a):
  Calls Tryz.prog 149 #[s.val a] w fun r w'=>r= .returned (.bool s.qOk)∧Ext w w':=by
 have E:=hid hv
 have ba:=hv.itms.2.1
 have bd:=hv.frm.2.1
 have be:=hv.grp.2.1
 have bf:=hv.ord.2.1
 obtain⟨R,hR⟩:∃R,s.qOk=R:=⟨_,rfl⟩
 rw[hR]
 have an:=hid hR
 have F:Hid (s.qOk=R):=hR
 clear hv hR
 have a6:Hid (s.qOk=(s.itms.all Itm.ok&&decide (0<s.frm.length) &&s.frm.all Src.ok&&s.grp.all eo&&s.ord.all Ord'.ok&&inB 0 2147483648 s.lim)):=rfl
 replace F:Hid ((s.itms.all Itm.ok&&decide (0<s.frm.length) &&s.frm.all Src.ok&&s.grp.all eo&&s.ord.all Ord'.ok&&inB 0 2147483648 s.lim)=R):=a6.symm.trans F
 have HB:=hid (Blk.of_new w 40 (s.cells a))
 have y:=hid ((Ext.refl w).alloc (.cells (s.cells a).toArray 40))
 unfold St.val
 unfold St.cells Sl.v at*
 go_enter Tryz.func149,Tryz.ntmps149
 go_wp2_with fail
 generalize w.alloc (.cells _ 40)=w1 at*
 go_loopw [3] (fun iv wr=> ∃(k:Nat),k≤a.itms.n∧iv= .int .i64 k∧(s.itms.take k).all Itm.ok=true∧Ext w1 wr) (fun i _=>a.itms.n- (intOf i).toNat)
 case atStart=>exact⟨0,Nat.zero_le _,rfl,rfl,Ext.refl _⟩
 case round=>
  obtain⟨k,ac,rfl,B,l⟩:=hrel
  have j:=hid l
  have m:=hid B
  have z:=(HB.ext l).cell 8
  simp only[List.getElem?_cons_succ,List.getElem?_cons_zero]at z
  by_cases A:k<a.itms.n
  ·obtain⟨x,C⟩:=aq E.itms.1 A
   have a1:=E.itms.2.2.ext (y.trans l)
   obtain⟨b,L,Ai,ni,ci,J,q0,q1,q2,q3,q4,q5,q6,q7,q8,U⟩:=eM a1 C
   rw[J]at z
   have G:=hid (fun W (hW:Ext wr W)=>kl x.ex Ai ni ci W (U.ext hW))
   have H:=hid (fun W (hW:Ext wr W)=>cC x.ex Ai ni ci W (U.ext hW))
   have t:=hid C
   have f:Hid (Itm.ok x=if (x.ag==1)=true then x.ex.absent else !decide (x.ag<0) &&!decide (5<x.ag) &&x.ex.formed):=by
    unfold Hid Itm.ok
    have d1:decide (0≤x.ag)=!decide (x.ag<0):=by rw[Bool.eq_iff_iff];simp
    have d2:decide (x.ag≤5)=!decide (5<x.ag):=by rw[Bool.eq_iff_iff];simp
    rw[d1,d2]
   have I:Hid ((x.ag !=1)=!(x.ag==1)):=rfl
   have I1:Hid (x.ag<0→(x.ag==1)=false):=fun h=>by simp;omega
   have I2:Hid (5<x.ag→(x.ag==1)=false):=fun h=>by simp;omega
   unfold Nd.val at H G
   clear C l B U a1 J
   cases K:decide (x.ag<0)
   ·cases Z:decide (5<x.ag)
    ·cases p:(x.ag==1)
     ·have d3:(x.ag !=1)=true:=by rw[I.out,p];rfl
      cases o:x.ex.formed
      ·have e:Hid (s.itms.all Itm.ok=false):=bu t (by rw[f.out,p,o];simp)
       rw[o]at H
       clear o
       go_wp2_with (go_at_call 84;(with_reducible refine(H.out _ ((Ext.refl wr).alloc _)).mono ?_);rintro _ V ⟨rfl,g⟩)
       go_ret
       exact⟨aa (by rw[←F.out,e.out];simp),y.trans (j.trans (((Ext.refl wr).alloc _).trans g))⟩
      ·have e:Hid ((s.itms.take (k+1)).all Itm.ok=true):=bt t m (by rw[f.out,p,o,K,Z];simp)
       rw[o]at H
       clear o
       go_wp2_with (go_at_call 84;(with_reducible refine(H.out _ ((Ext.refl wr).alloc _)).mono ?_);rintro _ V ⟨rfl,g⟩)
       go_roundw
       case rel=>exact⟨k+1,by omega,by go_num,e,j.trans (((Ext.refl wr).alloc _).trans g)⟩
       case measure=>simp[intOf];omega
     ·have d3:(x.ag !=1)=false:=by rw[I.out,p];rfl
      cases o:x.ex.absent
      ·have e:Hid (s.itms.all Itm.ok=false):=bu t (by rw[f.out,p,o];simp)
       rw[o]at G
       clear o
       go_wp2_with (go_at_call 145;(with_reducible refine(G.out _ ((Ext.refl wr).alloc _)).mono ?_);rintro _ V ⟨rfl,g⟩)
       go_ret
       exact⟨aa (by rw[←F.out,e.out];simp),y.trans (j.trans (((Ext.refl wr).alloc _).trans g))⟩
      ·have e:Hid ((s.itms.take (k+1)).all Itm.ok=true):=bt t m (by rw[f.out,p,o];simp)
       rw[o]at G
       clear o
       have a2:=hid (Blk.of_new wr 84 [.int .i64 x.ag,.int .i64 x.ex.d.op,.string x.ex.d.tb,.string x.ex.d.nm,.int .i64 x.ex.d.ix,.int .i64 x.ex.d.vk,.int .i64 x.ex.d.vi,.string x.ex.d.vt,.slice Ai ni ci])
       go_wp2_with (go_at_call 145;(with_reducible refine(G.out _ ((Ext.refl wr).alloc _)).mono ?_);rintro _ V ⟨rfl,g⟩;have e0:=(a2.ext g).cell 0;simp only[List.getElem?_cons_zero]at e0)
       go_roundw
       case rel=>exact⟨k+1,by omega,by go_num,e,j.trans (((Ext.refl wr).alloc _).trans g)⟩
       case measure=>simp[intOf];omega
    ·have p:=I2 (by simpa using Z)
     have e:Hid (s.itms.all Itm.ok=false):=bu t (by rw[f.out,p,Z];simp)
     go_wp2_with fail
     go_ret
     exact⟨aa (by rw[←F.out,e.out];simp),y.trans (j.trans ((Ext.refl wr).alloc _))⟩
   ·have p:=I1 (by simpa using K)
    have e:Hid (s.itms.all Itm.ok=false):=bu t (by rw[f.out,p,K];simp)
    go_wp2_with fail
    go_ret
    exact⟨aa (by rw[←F.out,e.out];simp),y.trans (j.trans ((Ext.refl wr).alloc _))⟩
  ·obtain rfl:k=a.itms.n:=by omega
   have O:Hid (s.itms.all Itm.ok=true):=bZ E.itms.1 m
   clear B
   have a5:=O
   go_wp2_with fail
   clear O z l m
   go_loopw [5] (fun iv wr=> ∃(k:Nat),k≤a.frm.n∧iv= .int .i64 k∧(s.frm.take k).all Src.ok=true∧Ext w1 wr) (fun i _=>a.frm.n- (intOf i).toNat)
   case atStart=>exact⟨0,Nat.zero_le _,rfl,rfl,j⟩
   case round=>
    obtain⟨k,ac,rfl,B,l⟩:=hrel
    have j:=hid l
    have m:=hid B
    have z:=(HB.ext l).cell 9
    simp only[List.getElem?_cons_succ,List.getElem?_cons_zero]at z
    by_cases A:k<a.frm.n
    ·obtain⟨x,C⟩:=aq E.frm.1 A
     obtain⟨hc,b,L,J,q0,q1⟩:=(E.frm.2.2.ext (y.trans l)) k x C
     rw[J]at z
     have D:=hid (fun W=>bq x.tb W hc.1)
     have P:=hid (fun W=>bq x.al W hc.2)
     have t:=hid C
     have Q:Hid (∀W,Ext wr W→W.cell? ⟨w.heap.size,9,none⟩=some (.slice (some ⟨b,L,none⟩) a.frm.n a.frm.c)∧W.cell? ⟨b,L+k*2+1,none⟩=some (.string x.al)):=fun W hW=>⟨hW.keep z,hW.keep q1⟩
     have f:Hid (Src.ok x=(nameB x.tb&& (x.al.toList.isEmpty||nameB x.al))):=rfl
     clear C l B J hc q1
     cases o:nameB x.tb
     ·have e:Hid (s.frm.all Src.ok=false):=bu t (by rw[f.out,o];rfl)
      rw[o]at D
      clear o
      go_wp2_with (go_at_call 144;(with_reducible refine(D.out _).mono ?_);rintro _ V ⟨rfl,g⟩)
      go_ret
      exact⟨aa (by rw[←F.out,e.out];simp),y.trans (j.trans g)⟩
     ·rw[o]at D
      by_cases Y:x.al.size=0
      ·have a0:x.al.toList.isEmpty=true:=by rw[←cV];simpa using Y
       have e:Hid ((s.frm.take (k+1)).all Src.ok=true):=bt t m (by rw[f.out,o,a0];rfl)
       have ax:=bi Y
       rw[ax]at Q
       clear o Y a0 ax
       go_wp2_with (go_at_call 144;(with_reducible refine(D.out _).mono ?_);rintro _ V ⟨rfl,g⟩;obtain⟨e0,e1⟩:=Q _ g)
       go_roundw
       case rel=>exact⟨k+1,by omega,by go_num,e,j.trans g⟩
       case measure=>simp[intOf];omega
      ·have v1:=bB Y
       have v2:=bo Y
       cases hq:nameB x.al
       ·have e:Hid (s.frm.all Src.ok=false):=bu t (by rw[f.out,hq,v2];simp)
        rw[hq]at P
        clear o Y hq
        go_wp2_with (first|(go_at_call 144;(with_reducible refine(P.out _).mono ?_);rintro _ w3 ⟨rfl,ad⟩;have a7:=g)|(go_at_call 144;(with_reducible refine(D.out _).mono ?_);rintro _ V ⟨rfl,g⟩;obtain⟨e0,e1⟩:=Q _ g))
        go_ret
        exact⟨aa (by rw[←F.out,e.out];simp),y.trans (j.trans (g.trans ad))⟩
       ·have e:Hid ((s.frm.take (k+1)).all Src.ok=true):=bt t m (by rw[f.out,o,hq];simp)
        rw[hq]at P
        clear o Y hq
        go_wp2_with (first|(go_at_call 144;(with_reducible refine(P.out _).mono ?_);rintro _ w3 ⟨rfl,ad⟩;have a7:=g)|(go_at_call 144;(with_reducible refine(D.out _).mono ?_);rintro _ V ⟨rfl,g⟩;obtain⟨e0,e1⟩:=Q _ g))
        go_roundw
        case rel=>exact⟨k+1,by omega,by go_num,e,j.trans (g.trans ad)⟩
        case measure=>simp[intOf];omega
    ·obtain rfl:k=a.frm.n:=by omega
     have O:Hid (s.frm.all Src.ok=true):=bZ E.frm.1 m
     clear B
     have a3:=O
     go_wp2_with fail
     clear O z l m
     go_loopw [6] (fun iv wr=> ∃(k:Nat),k≤a.grp.n∧iv= .int .i64 k∧(s.grp.take k).all eo=true∧Ext w1 wr) (fun i _=>a.grp.n- (intOf i).toNat)
     case atStart=>exact⟨0,Nat.zero_le _,rfl,rfl,j⟩
     case round=>
      obtain⟨k,ac,rfl,B,l⟩:=hrel
      have j:=hid l
      have m:=hid B
      have z:=(HB.ext l).cell 18
      simp only[List.getElem?_cons_succ,List.getElem?_cons_zero]at z
      by_cases A:k<a.grp.n
      ·obtain⟨x,C⟩:=aq E.grp.1 A
       obtain⟨b,L,Ai,ni,ci,J,q0,q1,q2,q3,q4,q5,q6,q7,U⟩:=(E.grp.2.2.ext (y.trans l)).get C
       rw[J]at z
       have H:=hid (cC x Ai ni ci wr U)
       have t:=hid C
       have f:Hid (eo x=(x.d.op==2&&x.formed)):=rfl
       have I:Hid ((x.d.op !=2)=!(x.d.op==2)):=rfl
       unfold Nd.val at H
       clear C l B U J
       cases ho:(x.d.op==2)
       ·have e:Hid (s.grp.all eo=false):=bu t (by rw[f.out,ho];rfl)
        have d3:(x.d.op !=2)=true:=by rw[I.out,ho];rfl
        go_wp2_with fail
        go_ret
        exact⟨aa (by rw[←F.out,e.out];simp),y.trans (j.trans (Ext.refl wr))⟩
       ·have d3:(x.d.op !=2)=false:=by rw[I.out,ho];rfl
        cases o:x.formed
        ·have e:Hid (s.grp.all eo=false):=bu t (by rw[f.out,o];simp)
         rw[o]at H
         clear o
         go_wp2_with (go_at_call 84;(with_reducible refine H.out.mono ?_);rintro _ V ⟨rfl,g⟩)
         go_ret
         exact⟨aa (by rw[←F.out,e.out];simp),y.trans (j.trans g)⟩
        ·have e:Hid ((s.grp.take (k+1)).all eo=true):=bt t m (by rw[f.out,ho,o];rfl)
         rw[o]at H
         clear o
         go_wp2_with (go_at_call 84;(with_reducible refine H.out.mono ?_);rintro _ V ⟨rfl,g⟩)
         go_roundw
         case rel=>exact⟨k+1,by omega,by go_num,e,j.trans g⟩
         case measure=>simp[intOf];omega
      ·obtain rfl:k=a.grp.n:=by omega
       have O:Hid (s.grp.all eo=true):=bZ E.grp.1 m
       clear B
       have a4:=O
       go_wp2_with fail
       clear O z l m
       go_loopw [7] (fun iv wr=> ∃(k:Nat),k≤a.ord.n∧iv= .int .i64 k∧(s.ord.take k).all Ord'.ok=true∧Ext w1 wr) (fun i _=>a.ord.n- (intOf i).toNat)
       case atStart=>exact⟨0,Nat.zero_le _,rfl,rfl,j⟩
       case round=>
        obtain⟨k,ac,rfl,B,l⟩:=hrel
        have j:=hid l
        have m:=hid B
        have z:=(HB.ext l).cell 19
        simp only[List.getElem?_cons_succ,List.getElem?_cons_zero]at z
        by_cases A:k<a.ord.n
        ·obtain⟨x,C⟩:=aq E.ord.1 A
         obtain⟨hc,b,L,J,q0,q1⟩:=(E.ord.2.2.ext (y.trans l)) k x C
         rw[J]at z
         have X:=hid (fun W=>eK x.it W)
         have t:=hid C
         have f:Hid (Ord'.ok x=(!decide (x.it<1) && (decide (0≤x.it) &&decide (x.it≤2147483648)))):=by
          unfold Hid Ord'.ok inB
          rw[Bool.eq_iff_iff]
          simp
          omega
         clear C l B J hc
         cases U:decide (x.it<1)
         ·cases hu:(decide (0≤x.it) &&decide (x.it≤2147483648))
          ·have e:Hid (s.ord.all Ord'.ok=false):=bu t (by rw[f.out,hu];simp)
           rw[hu]at X
           clear hu
           go_wp2_with (go_at_call 219;(with_reducible refine(X.out _).mono ?_);rintro _ _ ⟨rfl,rfl⟩)
           go_ret
           exact⟨aa (by rw[←F.out,e.out];simp),y.trans (j.trans (Ext.refl wr))⟩
          ·have e:Hid ((s.ord.take (k+1)).all Ord'.ok=true):=bt t m (by rw[f.out,hu,U];rfl)
           rw[hu]at X
           clear hu
           go_wp2_with (go_at_call 219;(with_reducible refine(X.out _).mono ?_);rintro _ _ ⟨rfl,rfl⟩)
           go_roundw
           case rel=>exact⟨k+1,by omega,by go_num,e,j.trans (Ext.refl wr)⟩
           case measure=>simp[intOf];omega
         ·have e:Hid (s.ord.all Ord'.ok=false):=bu t (by rw[f.out,U];rfl)
          go_wp2_with fail
          go_ret
          exact⟨aa (by rw[←F.out,e.out];simp),y.trans (j.trans (Ext.refl wr))⟩
        ·obtain rfl:k=a.ord.n:=by omega
         have O:Hid (s.ord.all Ord'.ok=true):=bZ E.ord.1 m
         clear B
         obtain⟨-,-,-,-,-,-,-,-,-,a9,-,-,-,-,-,-,-,-,-,-,a8,-⟩:=cls (HB.ext l)
         clear l
         have X:=hid (fun W=>eK s.lim W)
         have Q:Hid (s.qOk=(decide ((0:Int)<(a.frm.n:Int)) && (decide (0≤s.lim) &&decide (s.lim≤2147483648)))):=by
          unfold Hid St.qOk inB
          rw[a5.out,a3.out,a4.out,O.out,E.out.frm.1]
          simp
         generalize (decide (0≤s.lim) &&decide (s.lim≤2147483648))=u at*
         by_cases hf:0<a.frm.n
         ·have hd:decide ((0:Int)<(a.frm.n:Int))=true:=by simpa using hf
          rw[hd]at Q
          cases u
          all_goals
           go_wp2_with (go_at_call 219;(with_reducible refine(X.out _).mono ?_);rintro _ _ ⟨rfl,rfl⟩)
           go_ret
           exact⟨aa (by rw[←an.out,Q.out];rfl),y.trans j⟩
         ·have hd:decide ((0:Int)<(a.frm.n:Int))=false:=by simpa using hf
          rw[hd]at Q
          go_wp2_with (go_at_call 219;(with_reducible refine(X.out _).mono ?_);rintro _ _ ⟨rfl,rfl⟩)
          go_ret
          exact⟨aa (by rw[←an.out,Q.out];rfl),y.trans j⟩
theorem qJ (s:St) (a:SA) (w:World) (e:StV w s a) (hb:s.cols.length+s.keys.length+s.frs.length+s.chk.length≤1048576) (bd:s.itms.length+s.frm.length+s.grp.length+s.ord.length≤1048576):
  Calls Tryz.prog 75 #[s.val a] w fun r w'=>r= .returned (.bool s.formed)∧Ext w w':=by
 rw[←qH]
 have H1:=hid (fun W=>bq s.tb W e.tb)
 have H2:=hid (fun W=>bq s.nm W e.nm)
 have H3:=hid (fun W (l:Ext w W)=>kl s.whr a.whr.A a.whr.n a.whr.c W (e.whr.ext l))
 have H4:=hid (fun W (l:Ext w W)=>cC s.whr a.whr.A a.whr.n a.whr.c W (e.whr.ext l))
 have H6:=hid (fun W (l:Ext w W)=>qF s a W (e.ext l) hb)
 have H7:=hid (fun W (l:Ext w W)=>pA s.vals a.vals.A a.vals.n a.vals.c W e.vals.1 e.vals.2.1 (e.vals.2.2.ext l) e.valn)
 have H8:=hid (fun W (l:Ext w W)=>rsets_any s.sets a.sets.A a.sets.n a.sets.c W e.sets.1 e.sets.2.1 (e.sets.2.2.ext l))
 have H9:=hid (fun W (l:Ext w W)=>qI s a W (e.ext l))
 have E:=hid (Blk.of_new w 40 (s.cells a))
 have HX:=hid ((Ext.refl w).alloc (.cells (s.cells a).toArray 40))
 obtain⟨R,U⟩:∃R,s.rformed=R:=⟨_,rfl⟩
 rw[U]
 unfold St.rformed at U
 dsimp only at U
 have a2:s.noDef=decide (a.cols.n+a.keys.n+a.frs.n+a.chk.n=0):=by unfold St.noDef;rw[e.cols.1,e.keys.1,e.frs.1,e.chk.1]
 rw[e.vals.1,e.sets.1,e.frm.1,e.itms.1,e.grp.1,e.ord.1]at U
 rw[e.itms.1,e.frm.1,e.grp.1,e.ord.1]at bd
 rw[e.cols.1,e.keys.1,e.frs.1,e.chk.1]at hb
 simp only[←beq_iff_eq (a:=s.kd)]at U
 clear e
 unfold St.val at*
 unfold St.cells Sl.v at*
 unfold Nd.val at H3 H4
 generalize s.whr.absent=ba at*
 generalize s.whr.formed=bf at*
 generalize nameB s.tb=bn at*
 generalize nameB s.nm=bm at*
 generalize s.noDef=e0 at*
 generalize s.defOk=q1 at*
 generalize s.vals.all rowOk=q2 at*
 generalize s.sets.all Asg.ok=q3 at*
 generalize s.qOk=q5 at*
 obtain⟨te,bY⟩:∃b,s.tb.toList.isEmpty=b:=⟨_,rfl⟩
 obtain⟨ne,bx⟩:∃b,s.nm.toList.isEmpty=b:=⟨_,rfl⟩
 obtain⟨k1,j⟩:∃b,(s.kd==1)=b:=⟨_,rfl⟩
 obtain⟨k2,o⟩:∃b,(s.kd==2)=b:=⟨_,rfl⟩
 obtain⟨k3,F⟩:∃b,(s.kd==3)=b:=⟨_,rfl⟩
 obtain⟨k4,be⟩:∃b,(s.kd==4)=b:=⟨_,rfl⟩
 obtain⟨k5,J⟩:∃b,(s.kd==5)=b:=⟨_,rfl⟩
 obtain⟨ad,a4⟩:∃b,(decide (1≤s.kd))=b:=⟨_,rfl⟩
 obtain⟨l4,a6⟩:∃b,(decide (s.kd≤4))=b:=⟨_,rfl⟩
 obtain⟨l9,a9⟩:∃b,(decide (9≤s.kd))=b:=⟨_,rfl⟩
 obtain⟨K,a1⟩:∃b,(decide (s.kd≤11))=b:=⟨_,rfl⟩
 obtain⟨l3,a5⟩:∃b,(decide (s.kd<3))=b:=⟨_,rfl⟩
 obtain⟨l5,a7⟩:∃b,(decide (5<s.kd))=b:=⟨_,rfl⟩
 obtain⟨l6,a8⟩:∃b,(decide (6≤s.kd))=b:=⟨_,rfl⟩
 obtain⟨v0,ac⟩:∃b,decide (0<a.vals.n)=b:=⟨_,rfl⟩
 obtain⟨s0,Z⟩:∃b,decide (0<a.sets.n)=b:=⟨_,rfl⟩
 obtain⟨z0,a3⟩:∃b,decide (0<a.itms.n+a.frm.n+a.grp.n+a.ord.n)=b:=⟨_,rfl⟩
 obtain⟨lz,bw⟩:∃b,(s.lim==0)=b:=⟨_,rfl⟩
 have n1:(s.kd !=1)=!k1:=by rw[bne,j]
 have n2:(s.kd !=2)=!k2:=by rw[bne,o]
 have n3:(s.kd !=3)=!k3:=by rw[bne,F]
 have n5:(s.kd !=5)=!k5:=by rw[bne,J]
 have nl:(s.lim !=0)=!lz:=by rw[bne,bw]
 rw[n1,n2,n3,n5,nl,bY,bx,j,o,F,be,J,a4,a6,a9,a1,a5,a7,a8,ac,Z,a3]at U
 have H:=hid U
 clear U
 go_enter Tryz.func75,Tryz.ntmps75
 go_upto_region 1 with fail
 generalize w.alloc (.cells _ 40)=w1 at*
 generalize w.heap.size=g at*
 obtain⟨p0,p1,p2,p3,p4,p5,p6,p7,p8,p9,t,u,x,y,z,B,C,D,L,O,P,G,-⟩:=cls (E)
 go_upto_region 3 with fail
 have m:=hid (Blk.of_new w1 29 [.slice a.cols.A a.cols.n a.cols.c,.slice a.keys.A a.keys.n a.keys.c,.slice a.frs.A a.frs.n a.frs.c,.slice a.chk.A a.chk.n a.chk.c])
 have V:=hid ((Ext.refl w1).alloc (.cells #[.slice a.cols.A a.cols.n a.cols.c,.slice a.keys.A a.keys.n a.keys.c,.slice a.frs.A a.frs.n a.frs.c,.slice a.chk.A a.chk.n a.chk.c] 29))
 replace E:=hid (E.ext V)
 generalize w1.alloc (.cells _ 29)=w2 at*
 generalize w1.heap.size=g2 at*
 clear p0 p1 p2 p3 p4 p5 p6 p7 p8 p9 t u x y z B C D L O P G
 obtain⟨p0,p1,p2,p3,p4,p5,p6,p7,p8,p9,t,u,x,y,z,B,C,D,L,O,P,G,-⟩:=cls (E)
 obtain⟨ag,an,ax,a0,-⟩:=cls (m)
 have X:=hid (HX.trans V)
 clear V HX
 have cd:decide ((0:Int)<(a.cols.n:Int)+(a.keys.n:Int)+(a.frs.n:Int)+(a.chk.n:Int))=!e0:=by rw[a2,Bool.eq_iff_iff];simp;omega
 have ci:decide ((0:Int)<(a.itms.n:Int)+(a.frm.n:Int)+(a.grp.n:Int)+(a.ord.n:Int))=z0:=by rw[←a3,Bool.eq_iff_iff];simp;omega
 have f1:(IntKind.i64.wrap ((a.cols.n:Int)+(a.keys.n:Int)))=(a.cols.n:Int)+(a.keys.n:Int):=IntWalk.i64_in _ (by omega)
 clear a2
 go_cut [50] from 11 to 50 (fun Y Q=>Y= .bool ((!k1&&!e0)||(!k2&&v0)||(!k3&&s0))∧w2=Q)
 case first=>
  by_cases b0:0<a.vals.n<;>by_cases bN:0<a.sets.n<;>cases k1<;>cases e0<;>cases k2<;>cases k3
  all_goals
   go_wp2_with fail
   go_meet
   exact⟨by rw[←ac,←Z];simp[b0,bN],rfl⟩
 case rest=>
  obtain⟨rfl,rfl⟩:=hcut
  generalize ((!k1&&!e0)||(!k2&&v0)||(!k3&&s0))=C1 at*
  cases C1
  ·go_upto_region 5 with fail
   go_cut [75] from 51 to 75 (fun Y Q=>Y= .bool (!k5&& (z0||!lz))∧w2=Q)
   case first=>
    cases k5<;>cases z0<;>cases lz
    all_goals
     go_wp2_with fail
     go_meet
     exact⟨rfl,rfl⟩
   case rest=>
    obtain⟨rfl,rfl⟩:=hcut
    generalize (!k5&& (z0||!lz))=C2 at*
    cases C2
    ·go_upto_region 7 with fail
     go_cut [5,6] from 76 to 87 (fun tv nv Q=>tv= .bool (ad&&l4)∧nv= .bool (l9&&K)∧w2=Q)
     case first=>
      cases ad<;>cases l4<;>cases l9<;>cases K
      all_goals
       go_wp2_with fail
       go_meet
       exact⟨rfl,rfl,rfl⟩
     case rest=>
      obtain⟨rfl,rfl,rfl⟩:=hcut
      generalize (ad&&l4)=td at*
      generalize (l9&&K)=nd at*
      go_upto_region 8 with fail
      have HQ:Hid (∀W,Ext w2 W→W.cell? ⟨g,1,none⟩=some (.string s.tb)∧W.cell? ⟨g,21,none⟩=some (.string s.nm)):=fun W l=>⟨l.keep p1,l.keep G⟩
      go_cut [121] from 88 to 121 (fun Y Q=>Y= .bool ((td&&!bn)||(!td&&!te)||(nd&&!bm)||(!nd&&!ne))∧Ext w2 Q)
      case first=>
       cases td<;>cases bn<;>cases te<;>cases nd<;>cases bm<;>cases ne
       all_goals
        go_wp2_with (first|(go_at_call 144;(with_reducible refine(H1.out _).mono ?_);rintro _ w3 ⟨rfl,h⟩;obtain⟨e1,cc⟩:=HQ _ h)|(go_at_call 144;(with_reducible refine(H2.out _).mono ?_);rintro _ w4 ⟨rfl,p⟩;obtain⟨d1,b1⟩:=(HQ _ (by first|exact h.trans p|exact p):_∧_)))
        go_meet
        first|exact⟨rfl,h.trans p⟩|exact⟨rfl,h⟩|exact⟨rfl,p⟩|exact⟨rfl,Ext.refl _⟩
      case rest=>
       obtain⟨rfl,i⟩:=hcut
       generalize wc=wa at*
       have I:=hid (X.trans i)
       replace E:=hid (E.ext i)
       replace m:=hid (m.ext i)
       clear i H1 H2 HQ p0 p1 p2 p3 p4 p5 p6 p7 p8 p9 t u x y z B C D L O P G ag an ax a0
       generalize ((td&&!bn)||(!td&&!te)||(nd&&!bm)||(!nd&&!ne))=C3 at*
       cases C3
       ·obtain⟨p0,-,-,-,-,-,-,-,-,-,t,u,x,y,z,B,C,D,-⟩:=cls (E)
        go_upto_region 10 with fail
        go_cut [139] from 122 to 139 (fun Y Q=>Y= .bool (!ba&& ((l3||l5)||!bf))∧Ext wa Q)
        case first=>
         cases ba<;>cases l3<;>cases l5
         all_goals
          go_wp2_with (first|(go_at_call 145;(with_reducible refine(H3.out _ I.out).mono ?_);rintro _ w3 ⟨rfl,h⟩;obtain⟨-,-,-,-,-,-,-,-,-,-,b2,b3,b4,b5,b6,b7,b9,cb,-⟩:=cls (E.ext h))|(go_at_call 84;(with_reducible refine(H4.out _ (I.out.trans h)).mono ?_);rintro _ w4 ⟨rfl,p⟩))
          go_meet
          first|exact⟨rfl,h.trans p⟩|exact⟨rfl,h⟩
        case rest=>
         obtain⟨rfl,i⟩:=hcut
         generalize wc=wb at*
         have f:=hid (I.trans i)
         replace E:=hid (E.ext i)
         replace m:=hid (m.ext i)
         clear i H3 H4 p0 t u x y z B C D
         generalize (!ba&& ((l3||l5)||!bf))=C4 at*
         cases C4
         ·obtain⟨p0,p1,p2,p3,p4,p5,p6,p7,p8,p9,t,u,x,y,z,B,C,D,L,O,P,G,-⟩:=cls (E)
          obtain⟨ag,an,ax,a0,-⟩:=cls (m)
          cases k1
          ·cases k2
           ·cases k3
            ·cases k5
             ·cases k4<;>cases l6<;>cases K
              all_goals
               go_wp2_with fail
               go_ret
               exact⟨aa (by rw[←H.out];simp[j,o,F,J]),f⟩
             ·go_wp2_with (first|(refine am rfl 40 (.tmp 1) rfl g rfl 40 _ _ E Tryz.underlying40 rfl (by kernel_rfl) ?_)|(go_at_call 149;(with_reducible refine(H9.out _ f.out).mono ?_);rintro _ w5 ⟨rfl,k⟩))
              go_ret
              exact⟨aa (by rw[←H.out];simp[j,o,F,J]),f.trans k⟩
            ·go_wp2_with ((go_at_call 148;(with_reducible refine(H8.out _ f.out).mono ?_);rintro _ w5 ⟨rfl,k⟩))
             go_ret
             exact⟨aa (by rw[←H.out,←Z];simp[j,o,F]),f.trans k⟩
           ·go_wp2_with ((go_at_call 147;(with_reducible refine(H7.out _ f.out).mono ?_);rintro _ w5 ⟨rfl,k⟩))
            go_ret
            exact⟨aa (by rw[←H.out,←ac];simp[j,o]),f.trans k⟩
          ·go_wp2_with ((go_at_call 146;(with_reducible refine(H6.out _ f.out).mono ?_);rintro _ w5 ⟨rfl,k⟩))
           go_ret
           exact⟨aa (by rw[←H.out];simp[j]),f.trans k⟩
         ·go_wp2_with fail
          go_ret
          exact⟨aa (by rw[←H.out];simp),f⟩
       ·go_wp2_with fail
        go_ret
        exact⟨aa (by rw[←H.out];simp),I⟩
    ·go_wp2_with fail
     go_ret
     exact⟨aa (by rw[←H.out];simp),X⟩
  ·go_wp2_with fail
   go_ret
   exact⟨aa (by rw[←H.out];simp),X⟩
end Go.Proofs.YtjigcpfjhfoheaaGreatDoor
