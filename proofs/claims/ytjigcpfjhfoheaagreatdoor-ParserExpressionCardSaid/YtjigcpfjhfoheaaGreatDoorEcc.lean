/- Walk over the reference: test; The reference's reader of expressions. -/
import Derived.Test.YtjigcpfjhfoheaaGreatDoorEcb
namespace Go.Proofs.YtjigcpfjhfoheaaGreatDoor
open Go.RowKit
set_option maxHeartbeats 4000000
set_option maxRecDepth 100000
set_option linter.unusedVariables false
set_option linter.unusedSimpArgs false
section
open Lx (Tk)
theorem cmp_at:∀k:Nat,k<6→∀x:ByteArray×Int,opsCmp[k]? =some x→x.2=10+(k:Int):=by
 intro k hk x hx
 have:k=0∨k=1∨k=2∨k=3∨k=4∨k=5:=by omega
 rcases this with rfl|rfl|rfl|rfl|rfl|rfl<;> (cases hx;rfl)
theorem sgn_at {k:Nat} {x:ByteArray×Int} (h:opsCmp[k]? =some x):([.string ⟨#[61]⟩,.string ⟨#[60,62]⟩,.string ⟨#[60]⟩,.string ⟨#[60,61]⟩,.string ⟨#[62]⟩,.string ⟨#[62,61]⟩]:List Value)[k]? =some (.string x.1):=by
 have e:([.string ⟨#[61]⟩,.string ⟨#[60,62]⟩,.string ⟨#[60]⟩,.string ⟨#[60,61]⟩,.string ⟨#[62]⟩,.string ⟨#[62,61]⟩]:List Value)=opsCmp.map fun x=> .string x.1:=rfl
 rw[e,List.getElem?_map,h]
 rfl
theorem i64_cmp {k:Nat} (h:k<6):I64 (10+(k:Int)):=by unfold I64;omega
theorem RX.all {P:Nat} {A:Option Addr} {c:Nat} {L:List Tk} {w0:World} {F:Nat} {x:Array Value} {K:Nat} {m:M Ex} {s:Ps} (h:RX P A c L w0 F x K m) (hn:s.r.length<K):
  ∃(op ix vk vi:Int) (tb nm vt:ByteArray) (ks:List Ex) (s1:Ps),m s=(.mk ⟨op,tb,nm,ix,vk,vi,vt⟩ ks,s1)∧∀w,PsAt 77 P A c L w0 w s→Calls Tryz.prog F x w fun e w'=> ∃A1 k1 c1,e= .returned (.agg #[.int .i64 op,.string tb,.string nm,.int .i64 ix,.int .i64 vk,.int .i64 vi,.string vt,.slice A1 k1 c1])∧PsAt 77 P A c L w0 w' s1∧Chg P w w'∧
   Stb (w.heap.size≤·) w' (fun u=>ExV u (.mk ⟨op,tb,nm,ix,vk,vi,vt⟩ ks) A1 k1 c1):=by
 have H:=fun w hp=>h w s hp hn
 generalize m s=R at*
 obtain⟨⟨⟨op,tb,nm,ix,vk,vi,vt⟩,ks⟩,s1⟩:=R
 exact⟨op,ix,vk,vi,tb,nm,vt,ks,s1,rfl,H⟩
theorem En.op2a {T P c:Nat} {A:Option Addr} {L:List Tk} {w0 wi w w':World} {s:Ps} {V:List Vb} {Φ:World→Prop} {a b:Ex} {B C:Option Addr} {k c' k2 c2 T' t:Nat} {cs:List Value} {o:Int} (h:En T P A c L w0 wi w s V Φ) (h1:∀u,Φ u→ExV u a B k c') (h2:∀u,Φ u→ExV u b C k2 c2) (ho:I64 o) (hx:Ext ((w.alloc (.cells (a.d.cells B k c'++b.d.cells C k2 c2).toArray T')).alloc (.cells cs.toArray t)) w'):
  En T P A c L w0 wi w' s ((w.heap.size+1,t,cs)::V) (fun u=>Φ u∧ExV u (opE o [a,b]) (some ⟨w.heap.size,0,none⟩) 2 2):=by
 have h9:=((h.op2' h1 h2 ho (Ext.refl _)).alloc t cs).ext hx
 rwa [show(w.alloc (.cells (a.d.cells B k c'++b.d.cells C k2 c2).toArray T')).heap.size=w.heap.size+1 by simp]at h9
theorem En.op2b {T P c:Nat} {A:Option Addr} {L:List Tk} {w0 wi w w':World} {s:Ps} {V:List Vb} {Φ:World→Prop} {a b:Ex} {B C:Option Addr} {k c' k2 c2 T' t:Nat} {cs:List Value} {o:Int} (h:En T P A c L w0 wi w s V Φ) (h1:∀u,Φ u→ExV u a B k c') (h2:∀u,Φ u→ExV u b C k2 c2) (ho:I64 o) (hx:Ext ((w.alloc (.cells cs.toArray t)).alloc (.cells (a.d.cells B k c'++b.d.cells C k2 c2).toArray T')) w'):
  En T P A c L w0 wi w' s ((w.heap.size,t,cs)::V) (fun u=>Φ u∧ExV u (opE o [a,b]) (some ⟨w.heap.size+1,0,none⟩) 2 2):=by
 have h9:=(h.alloc t cs).op2' h1 h2 ho hx
 rwa [show(w.alloc (.cells cs.toArray t)).heap.size=w.heap.size+1 by simp]at h9
section
variable {P c:Nat} {A:Option Addr} {L:List Tk} {w0:World}
theorem rtest_any (hL:TkL L) {K:Nat} {sum:M Ex} (hf:Fwd sum) (hr:RX P A c L w0 41 #[.pointer (some ⟨P,0,none⟩),.int .i64 5] K sum):RX P A c L w0 81 #[.pointer (some ⟨P,0,none⟩)] K (fun s=>tailP sum (sum s).1 (sum s).2):=fun w s hp hn=>by
 show Calls Tryz.prog 81 #[.pointer (some ⟨P,0,none⟩)] w fun e w'=> ∃A1 k1 c1,e= .returned ((tailP sum (sum s).1 (sum s).2).1.d.val A1 k1 c1)∧PsAt 77 P A c L w0 w' (tailP sum (sum s).1 (sum s).2).2∧Chg P w w'∧Stb (w.heap.size≤·) w' (fun u=>ExV u (tailP sum (sum s).1 (sum s).2).1 A1 k1 c1)
 obtain⟨R,HM⟩:∃R,R=tailP sum (sum s).1 (sum s).2:=⟨_,rfl⟩
 rw[←HM]
 replace HM:=hid HM
 have hfs:=hf s
 go_enter Tryz.func81,Tryz.ntmps81
 go_upto_region 1 with fail
 generalize hw:World.alloc _ _=w1
 have E:=hid (en_of hp hw)
 obtain⟨g0,hg0⟩:∃g,w.heap.size=g:=⟨_,rfl⟩
 rw[hg0]at E ⊢
 clear hw hp hg0
 obtain⟨op1,ix1,vk1,vi1,tb1,nm1,vt1,ks1,s1,hm1,hc⟩:=hr.at_ E.out.ps (hn)
 go_wp2_with fail
 refine hc.mono ?_
 rintro _ w2 ⟨A1,k1,c1,rfl,h1,h2,h3⟩
 replace E:=hid (E.out.calls h1 h2 h3)
 clear h1 h2 h3 hc
 rw[hm1]at HM
 rw[hm1]at hfs
 try simp only at hfs
 go_upto_region 2 with fail
 generalize hw:World.alloc _ _=w3
 replace E:=hid (en_alloc E.out hw)
 obtain⟨g1,hg1⟩:∃g,w2.heap.size=g:=⟨_,rfl⟩
 rw[hg1]at E ⊢
 clear hw hg1
 go_upto_region 3 with fail
 generalize hw:World.alloc _ _=w4
 replace E:=hid (en_alloc E.out hw)
 obtain⟨g2,hg1⟩:∃g,w3.heap.size=g:=⟨_,rfl⟩
 rw[hg1]at E ⊢
 clear hw hg1
 replace E:=hid (E.out.imp (fun u h=>h.2))
 go_wp2_with fail
 go_loopw [5] (fun iv wr=> ∃(k:Nat),k≤6∧iv= .int .i64 k∧firstP opsCmp s1=firstP (opsCmp.drop k) s1∧En 77 P A c L w0 w wr s1 [(g2,9,[.string ⟨#[61]⟩,.string ⟨#[60,62]⟩,.string ⟨#[60]⟩,.string ⟨#[60,61]⟩,.string ⟨#[62]⟩,.string ⟨#[62,61]⟩]),(g1,37,(eC op1 tb1 nm1 ix1 vk1 vi1 vt1 A1 k1 c1)),(g0,37,zC)] (fun u=>ExV u (.mk ⟨op1,tb1,nm1,ix1,vk1,vi1,vt1⟩ ks1) A1 k1 c1)) (fun iv _=>6- (intOf iv).toNat)
 case atStart=>exact⟨0,by omega,rfl,rfl,E.out⟩
 case round=>
  clear E
  obtain⟨k,hk,rfl,hfc,E⟩:=hrel
  replace E:=hid E
  generalize wr=w20 at*
  by_cases hlt:k<6
  ·obtain⟨⟨t,o⟩,hx⟩:∃x,opsCmp[k]? =some x:=⟨_,List.getElem?_eq_getElem (by show k<6;exact hlt)⟩
   obtain rfl:=cmp_at k hlt _ hx
   have hdr:opsCmp.drop k=(t,10+(k:Int))::opsCmp.drop (k+1):=by
    obtain⟨h1,h2⟩:=List.getElem?_eq_some_iff.1 hx
    rw[List.drop_eq_getElem_cons h1,h2]
   rw[hdr,firstP]at hfc
   have sk:=(E.out.get (j:=0) rfl).cell_some (sgn_at hx)
   have i0:(0:Int)≤(k:Int):=by omega
   have i1:(k:Int)<6:=by omega
   clear hdr
   replace hfc:=hid hfc
   go_wp2_with fail
   cases hb:isS t s1
   rotate_left
   ·refine(rtk1 E.out.ps hL hb).mono ?_
    rintro _ w21 ⟨rfl,h1,h2⟩
    replace E:=hid (E.out.call h1 h2)
    clear h1 h2
    have hfo:firstP opsCmp s1=(some (10+(k:Int)),s1.next):=by rw[hfc.out,if_pos hb]
    have hln:=isS_len hb
    clear sk
    have hsum:IntKind.i64.wrap (10+(k:Int))=10+(k:Int):=IntWalk.i64_in _ (by omega)
    go_upto_region 7 with fail
    obtain⟨b0,b1,b2,b3,b4,b5,b6,b7⟩:=cells8 (E.out.get (j:=1) rfl)
    replace E:=hid (E.out.ext (Ext.refl w21).drew)
    obtain⟨op2,ix2,vk2,vi2,tb2,nm2,vt2,ks2,s2x,hm2,hc⟩:=hr.at_ E.out.ps (by omega)
    obtain rfl:R=(opE (10+(k:Int)) [.mk ⟨op1,tb1,nm1,ix1,vk1,vi1,vt1⟩ ks1,.mk ⟨op2,tb2,nm2,ix2,vk2,vi2,vt2⟩ ks2],s2x):=by
     rw[HM.out,tailP,hfo]
     simp only
     rw[hm2]
    go_region_law (first
     |(go_simp;go_at_call 80;(with_reducible refine(dnode_any _ _ _ _ _).mono ?_);rintro _ w32 ⟨rfl,hx⟩;replace E:=hid (E.out.op2 (fun u h=>h.1) (fun u h=>h.2) (i64_cmp hlt) hx);obtain⟨z0,z1,z2,z3,z4,z5,z6,z7⟩:=cells8 (E.out.get (j:=2) rfl);obtain⟨y0,y1,y2,y3,y4,y5,y6,y7⟩:=froz8 (E.out.get (j:=2) rfl))
     |(go_simp;go_at_call 41;(with_reducible refine hc.mono ?_);rintro _ w31 ⟨A2,k2,c2,rfl,h1,h2,h3⟩;replace E:=hid (E.out.calls h1 h2 h3);clear h1 h2 h3;obtain⟨d0,d1,d2,d3,d4,d5,d6,d7⟩:=cells8 (E.out.get (j:=1) rfl)))
    all_goals
     replace E:=hid (E.out.stc (j:=2) rfl (opC (10+(k:Int)) (some ⟨w31.heap.size,0,none⟩) 2 2) rfl)
     simp only[opC,sts]at E
     go_wp2_with fail
     refine bodyPost_ret (v:= .agg ((opC (10+(k:Int)) (some ⟨w31.heap.size,0,none⟩) 2 2)).toArray) (results_cell_row (p:=2) (ty:=37) rfl _ _ g0 37 _ _ _ (by rfl) (E.out.get (j:=2) rfl) Tryz.underlying37 rfl (by kernel_rfl)) rfl ?_
     exact⟨some ⟨w31.heap.size,0,none⟩,2,2,rfl,E.out.ps,E.out.chg,E.out.keep⟩
   refine(rtk0 E.out.ps hL hb).mono ?_
   rintro _ w21 ⟨rfl,h1,h2⟩
   replace E:=hid (E.out.call h1 h2)
   clear h1 h2
   have hf2:firstP opsCmp s1=firstP (opsCmp.drop (k+1)) s1:=by rw[hfc.out,if_neg (by rw[hb];simp)]
   clear sk hfc
   go_wp2_with fail
   exact⟨⟨k+1,by omega,by go_num,hf2,E.out⟩,by simp[intOf];omega⟩
  ·obtain rfl:k=6:=by omega
   have hfn:firstP opsCmp s1=(none,s1):=hfc
   have hm:R=if isS kIS s1 then (negE (isS kNOT s1.next) (opE 17 [.mk ⟨op1,tb1,nm1,ix1,vk1,vi1,vt1⟩ ks1]),needP kNULL (optP kNOT s1.next))
  else if isS kLIKE (optP kNOT s1)then (negE (isS kNOT s1) (opE 16 [.mk ⟨op1,tb1,nm1,ix1,vk1,vi1,vt1⟩ ks1,litE 2 0 (takP 4 (optP kNOT s1).next).1]),(takP 4 (optP kNOT s1).next).2)
  else if isS kBETWEEN (optP kNOT s1)then
   (negE (isS kNOT s1) (opE 18 [opE 15 [.mk ⟨op1,tb1,nm1,ix1,vk1,vi1,vt1⟩ ks1,(sum (optP kNOT s1).next).1],opE 13 [.mk ⟨op1,tb1,nm1,ix1,vk1,vi1,vt1⟩ ks1,(sum (needP kAND (sum (optP kNOT s1).next).2)).1]]),(sum (needP kAND (sum (optP kNOT s1).next).2)).2)
  else if isS kIN (optP kNOT s1)then
   (negE (isS kNOT s1) (inP sum (.mk ⟨op1,tb1,nm1,ix1,vk1,vi1,vt1⟩ ks1) (needP yLp (optP kNOT s1).next)).1,needP yRp (inP sum (.mk ⟨op1,tb1,nm1,ix1,vk1,vi1,vt1⟩ ks1) (needP yLp (optP kNOT s1).next)).2)
  else (.mk ⟨op1,tb1,nm1,ix1,vk1,vi1,vt1⟩ ks1,if isS kNOT s1 then (optP kNOT s1).fail else s1):=by
    rw[HM.out,tailP,hfn]
   clear HM hfc hfn hlt hk
   replace hm:=hid hm
   go_wp2_with fail
   cases hIS:isS kIS s1
   rotate_left
   ·refine(rtk1 E.out.ps hL hIS).mono ?_
    rintro _ w21 ⟨rfl,h1,h2⟩
    replace E:=hid (E.out.call h1 h2)
    clear h1 h2
    obtain⟨N,hN⟩:∃x,isS kNOT s1.next=x:=⟨_,rfl⟩
    go_wp2_with fail
    refine(rtake_any E.out.ps hL kNOT).mono ?_
    rintro _ w22 ⟨rfl,h1,h2⟩
    replace E:=hid (E.out.call h1 h2)
    clear h1 h2
    rw[hN]
    go_wp2_with fail
    refine(rneed_any E.out.ps hL kNULL).mono ?_
    rintro _ w23 ⟨rfl,h1,h2⟩
    replace E:=hid (E.out.call h1 h2)
    clear h1 h2
    go_wp2_with (first|(refine ldE rfl rfl _ rfl (E.out.get (j:=1) rfl) rfl ?_)|(go_at_call 80;(with_reducible refine(dnode_any _ _ _ _ _).mono ?_);rintro _ w24 ⟨rfl,hx⟩;replace E:=hid (E.out.op1 (o:=17) (fun u h=>h) (by unfold I64;omega) hx))|(go_at_call 156;have H:=rneg_any (q:=N) E.out.far E.out.stb;(with_reducible refine H.mono ?_);rintro _ w25 ⟨op9,ix9,vk9,vi9,tb9,nm9,vt9,ks9,A9,k9,c9,hneg,rfl,hx,hs⟩;replace E:=hid (E.out.stay hx hs))|(refine stE rfl rfl rfl _ (eC op9 tb9 nm9 ix9 vk9 vi9 vt9 A9 k9 c9) rfl rfl (E.out.get (j:=2) rfl) rfl rfl (by kernel_rfl) ?_))
    obtain rfl:R=(.mk ⟨op9,tb9,nm9,ix9,vk9,vi9,vt9⟩ ks9,needP kNULL (optP kNOT s1.next)):=by rw[hm.out,if_pos hIS,hN,←hneg];rfl
    refine bodyPost_ret (v:= .agg ((eC op9 tb9 nm9 ix9 vk9 vi9 vt9 A9 k9 c9)).toArray) (results_cell_row (p:=2) (ty:=37) rfl _ _ g0 37 _ _ _ (by rfl) ((E.out.row (j:=2) rfl (eC op9 tb9 nm9 ix9 vk9 vi9 vt9 A9 k9 c9)).get (j:=2) rfl) Tryz.underlying37 rfl (by kernel_rfl)) rfl ?_
    have F:=E.out.row (j:=2) rfl (eC op9 tb9 nm9 ix9 vk9 vi9 vt9 A9 k9 c9)
    exact⟨A9,k9,c9,rfl,F.ps,F.chg,F.keep⟩
   refine(rtk0 E.out.ps hL hIS).mono ?_
   rintro _ w21 ⟨rfl,h1,h2⟩
   replace E:=hid (E.out.call h1 h2)
   clear h1 h2
   have hm2:=hm.out
   rw[if_neg (by rw[hIS];simp)]at hm2
   clear hm
   obtain⟨N,hN⟩:∃x,isS kNOT s1=x:=⟨_,rfl⟩
   go_wp2_with fail
   refine(rtake_any E.out.ps hL kNOT).mono ?_
   rintro _ w22 ⟨rfl,h1,h2⟩
   replace E:=hid (E.out.call h1 h2)
   clear h1 h2
   rw[hN]
   rw[hN]at hm2
   replace E:Hid (En _ _ _ _ _ _ _ _ (optP kNOT s1) _ _):=E
   have hos:=opt_len kNOT s1
   have hop:optP kNOT s1=if N then s1.next else s1:=by rw[←hN];rfl
   obtain⟨s2,hs2⟩:∃x,optP kNOT s1=x:=⟨_,rfl⟩
   rw[hs2]at hm2 E hos hop
   replace hm:=hid hm2
   clear hm2 hs2
   go_wp2_with fail
   cases hLK:isS kLIKE s2
   rotate_left
   ·refine(rtk1 E.out.ps hL hLK).mono ?_
    rintro _ w23 ⟨rfl,h1,h2⟩
    replace E:=hid (E.out.call h1 h2)
    clear h1 h2
    go_upto_region 14 with fail
    have hz:=(E.out.ext (Ext.refl w23).drew).ps.tak_size hL 4
    generalize hX:(takP 4 s2.next).1=T at*
    generalize hs3:(takP 4 s2.next).2=s3 at*
    obtain⟨b0,b1,b2,b3,b4,b5,b6,b7⟩:=cells8 (E.out.get (j:=1) rfl)
    replace E:=hid (E.out.ext (Ext.refl w23).drew)
    go_region_law (first
     |(go_simp;go_at_call 156;have H:=rneg_any (q:=N) E.out.far E.out.stb;(with_reducible refine H.mono ?_);rintro _ w33 ⟨op9,ix9,vk9,vi9,tb9,nm9,vt9,ks9,A9,k9,c9,hneg,rfl,hx,hs⟩;replace E:=hid (E.out.stay hx hs);obtain⟨z0,z1,z2,z3,z4,z5,z6,z7⟩:=cells8 (E.out.get (j:=2) rfl);obtain⟨y0,y1,y2,y3,y4,y5,y6,y7⟩:=froz8 (E.out.get (j:=2) rfl))
     |(go_simp;go_at_call 80;(with_reducible refine(dnode_any _ _ _ _ _).mono ?_);rintro _ w32 ⟨rfl,hx⟩;replace E:=hid (E.out.op2 (o:=16) (fun u h=>h) (fun u h=>exv_lit (k:=2) (i:=0) (t:=T) i64_2 i64_0 (by omega)) (by unfold I64;omega) hx))
     |(go_simp;go_at_call 135;(with_reducible refine(drtext_any E.out.ps hL).mono ?_);rintro _ w31 ⟨rfl,h1,h2⟩;rw[hX];rw[hs3]at h1;replace E:=hid (E.out.call h1 h2);clear h1 h2;obtain⟨d0,d1,d2,d3,d4,d5,d6,d7⟩:=cells8 (E.out.get (j:=1) rfl)))
    all_goals
     obtain rfl:R=(.mk ⟨op9,tb9,nm9,ix9,vk9,vi9,vt9⟩ ks9,s3):=by rw[hm.out,if_pos hLK,←hneg];rfl
     replace E:=hid (E.out.stc (j:=2) rfl (eC op9 tb9 nm9 ix9 vk9 vi9 vt9 A9 k9 c9) rfl)
     simp only[opC,sts]at E
     go_wp2_with fail
     refine bodyPost_ret (v:= .agg ((eC op9 tb9 nm9 ix9 vk9 vi9 vt9 A9 k9 c9)).toArray) (results_cell_row (p:=2) (ty:=37) rfl _ _ g0 37 _ _ _ (by rfl) (E.out.get (j:=2) rfl) Tryz.underlying37 rfl (by kernel_rfl)) rfl ?_
     exact⟨A9,k9,c9,rfl,E.out.ps,E.out.chg,E.out.keep⟩
   refine(rtk0 E.out.ps hL hLK).mono ?_
   rintro _ w23 ⟨rfl,h1,h2⟩
   replace E:=hid (E.out.call h1 h2)
   clear h1 h2
   go_wp2_with fail
   cases hBT:isS kBETWEEN s2
   rotate_left
   ·refine(rtk1 E.out.ps hL hBT).mono ?_
    rintro _ w24 ⟨rfl,h1,h2⟩
    replace E:=hid (E.out.call h1 h2)
    clear h1 h2
    have hln:=isS_len hBT
    obtain⟨op7,ix7,vk7,vi7,tb7,nm7,vt7,ks7,s7,hm7,hc⟩:=hr.at_ E.out.ps (by omega)
    go_wp2_with fail
    refine hc.mono ?_
    rintro _ w25 ⟨A7,k7,c7,rfl,h1,h2,h3⟩
    replace E:=hid (E.out.calls h1 h2 h3)
    clear h1 h2 h3 hc
    have hf2:=hf s2.next
    rw[hm7]at hf2
    try simp only at hf2
    go_upto_region 17 with fail
    generalize hw:World.alloc _ _=w26
    replace E:=hid (en_alloc E.out hw)
    obtain⟨g3,hg1⟩:∃g,w25.heap.size=g:=⟨_,rfl⟩
    rw[hg1]at E ⊢
    clear hw hg1
    go_wp2_with fail
    refine(rneed_any E.out.ps hL kAND).mono ?_
    rintro _ w27 ⟨rfl,h1,h2⟩
    replace E:=hid (E.out.call h1 h2)
    clear h1 h2
    have hnd:=need_len kAND s7
    go_upto_region 18 with fail
    obtain⟨⟨⟨⟨op3,tb3,nm3,ix3,vk3,vi3,vt3⟩,ks3⟩,s3⟩,hm3⟩:∃x,sum (needP kAND s7)=x:=⟨_,rfl⟩
    go_cut [] from 62 to 74 (fun wx=> ∃(op9 ix9 vk9 vi9:Int) (tb9 nm9 vt9:ByteArray) (ks9:List Ex) (A9:Option Addr) (k9 c9:Nat),negE N (opE 18 [opE 15 [.mk ⟨op1,tb1,nm1,ix1,vk1,vi1,vt1⟩ ks1,.mk ⟨op7,tb7,nm7,ix7,vk7,vi7,vt7⟩ ks7],opE 13 [.mk ⟨op1,tb1,nm1,ix1,vk1,vi1,vt1⟩ ks1,.mk ⟨op3,tb3,nm3,ix3,vk3,vi3,vt3⟩ ks3]])= .mk ⟨op9,tb9,nm9,ix9,vk9,vi9,vt9⟩ ks9∧En 77 P A c L w0 w wx s3 [(g3,37,(eC op7 tb7 nm7 ix7 vk7 vi7 vt7 A7 k7 c7)),(g2,9,[.string ⟨#[61]⟩,.string ⟨#[60,62]⟩,.string ⟨#[60]⟩,.string ⟨#[60,61]⟩,.string ⟨#[62]⟩,.string ⟨#[62,61]⟩]),(g1,37,(eC op1 tb1 nm1 ix1 vk1 vi1 vt1 A1 k1 c1)),(g0,37,(eC op9 tb9 nm9 ix9 vk9 vi9 vt9 A9 k9 c9))] (fun u=>ExV u (.mk ⟨op9,tb9,nm9,ix9,vk9,vi9,vt9⟩ ks9) A9 k9 c9))
    case first=>
     obtain⟨b0,b1,b2,b3,b4,b5,b6,b7⟩:=cells8 (E.out.get (j:=2) rfl)
     obtain⟨q0,q1,q2,q3,q4,q5,q6,q7⟩:=cells8 (E.out.get (j:=0) rfl)
     obtain⟨a0,a1,a2,a3,a4,a5,a6,a7⟩:=cells8 ((E.out.ext ((Ext.refl w27).alloc (.cells #[.int .i64 op1,.string tb1,.string nm1,.int .i64 ix1,.int .i64 vk1,.int .i64 vi1,.string vt1,.slice A1 k1 c1,.int .i64 op7,.string tb7,.string nm7,.int .i64 ix7,.int .i64 vk7,.int .i64 vi7,.string vt7,.slice A7 k7 c7] 37))).get (j:=2) rfl)
     replace E:=hid (E.out.ext (Ext.refl w27).drew)
     go_region_law (first
      |(go_simp;go_at_call 156;have H:=rneg_any (q:=N) E.out.far (E.out.stb.imp fun u h=>h.2);(with_reducible refine H.mono ?_);rintro _ w37 ⟨op9,ix9,vk9,vi9,tb9,nm9,vt9,ks9,A9,k9,c9,hneg,rfl,hx,hs⟩;replace E:=hid (E.out.stay hx hs);obtain⟨z0,z1,z2,z3,z4,z5,z6,z7⟩:=cells8 (E.out.get (j:=3) rfl);obtain⟨y0,y1,y2,y3,y4,y5,y6,y7⟩:=froz8 (E.out.get (j:=3) rfl))
      |(go_simp;go_at_call 80;(with_reducible refine(dnode_any 15 _ _ _ _).mono ?_);rintro _ w31 ⟨rfl,hx⟩;replace E:=hid (E.out.op2' (o:=15) (fun u h=>h.1) (fun u h=>h.2) (by unfold I64;omega) hx);obtain⟨d0,d1,d2,d3,d4,d5,d6,d7⟩:=cells8 (E.out.get (j:=2) rfl))
      |(go_simp;go_at_call 80;(with_reducible refine(dnode_any 13 _ _ _ _).mono ?_);rintro _ w33 ⟨rfl,hx⟩;replace E:=hid (E.out.op2' (o:=13) (fun u h=>h.1.1.1) (fun u h=>h.2) (by unfold I64;omega) hx))
      |(go_simp;go_at_call 80;(with_reducible refine(dnode_any 18 _ _ _ _).mono ?_);rintro _ w35 ⟨rfl,hx⟩;replace E:=hid (E.out.op2' (o:=18) (fun u h=>h.1.1.2) (fun u h=>h.2) (by unfold I64;omega) hx))
      |(go_simp;go_at_call 41;obtain⟨op4,ix4,vk4,vi4,tb4,nm4,vt4,ks4,s4,hm4,hc⟩:=hr.at_ E.out.ps (by omega);cases hm3.symm.trans hm4;(with_reducible refine hc.mono ?_);rintro _ w32 ⟨A3,k3,c3,rfl,h1,h2,h3⟩;replace E:=hid (E.out.calls h1 h2 h3);clear h1 h2 h3;obtain⟨f0,f1,f2,f3,f4,f5,f6,f7⟩:=cells8 (E.out.get (j:=2) rfl)))
     all_goals
      replace E:=hid (E.out.stc (j:=3) rfl (eC op9 tb9 nm9 ix9 vk9 vi9 vt9 A9 k9 c9) rfl)
      simp only[sts]at E
      go_wp2_with fail
      go_meet
      exact⟨_,_,_,_,_,_,_,_,_,_,_,hneg,E.out⟩
    case rest=>
     obtain⟨op9,ix9,vk9,vi9,tb9,nm9,vt9,ks9,A9,k9,c9,hneg,E⟩:=hcut
     replace E:=hid E
     generalize wc=w38 at*
     obtain rfl:R=(.mk ⟨op9,tb9,nm9,ix9,vk9,vi9,vt9⟩ ks9,s3):=by rw[hm.out,if_neg (by rw[hLK];simp),if_pos hBT,hm7,hm3,←hneg]
     go_wp2_with fail
     refine bodyPost_ret (v:= .agg ((eC op9 tb9 nm9 ix9 vk9 vi9 vt9 A9 k9 c9)).toArray) (results_cell_row (p:=2) (ty:=37) rfl _ _ g0 37 _ _ _ (by rfl) (E.out.get (j:=3) rfl) Tryz.underlying37 rfl (by kernel_rfl)) rfl ?_
     exact⟨A9,k9,c9,rfl,E.out.ps,E.out.chg,E.out.keep⟩
   refine(rtk0 E.out.ps hL hBT).mono ?_
   rintro _ w24 ⟨rfl,h1,h2⟩
   replace E:=hid (E.out.call h1 h2)
   clear h1 h2
   go_wp2_with fail
   cases hIN:isS kIN s2
   rotate_left
   ·refine(rtk1 E.out.ps hL hIN).mono ?_
    rintro _ w25 ⟨rfl,h1,h2⟩
    replace E:=hid (E.out.call h1 h2)
    clear h1 h2
    have hln:=isS_len hIN
    go_wp2_with fail
    refine(rneed_any E.out.ps hL yLp).mono ?_
    rintro _ w26 ⟨rfl,h1,h2⟩
    replace E:=hid (E.out.call h1 h2)
    clear h1 h2
    have hnd:=need_len yLp s2.next
    obtain⟨s4,hs4⟩:∃x,needP yLp s2.next=x:=⟨_,rfl⟩
    rw[hs4]at hnd E
    go_upto_region 21 with fail
    obtain⟨op2,ix2,vk2,vi2,tb2,nm2,vt2,ks2,s3,hm2,HA⟩:=hr.all (s:=s4) (by omega)
    have hf2:=hf s4
    rw[hm2]at hf2
    try simp only at hf2
    replace HA:=hid HA
    go_cut [9] from 79 to 83 (fun pv wx=> ∃(g3:Nat) (B:Option Addr),pv= .pointer (some ⟨g3,0,none⟩)∧En 77 P A c L w0 w wx s3 ((g3,37,opC 10 B 2 2):: [(g2,9,[.string ⟨#[61]⟩,.string ⟨#[60,62]⟩,.string ⟨#[60]⟩,.string ⟨#[60,61]⟩,.string ⟨#[62]⟩,.string ⟨#[62,61]⟩]),(g1,37,(eC op1 tb1 nm1 ix1 vk1 vi1 vt1 A1 k1 c1)),(g0,37,zC)]) (fun u=>ExV u (.mk ⟨op1,tb1,nm1,ix1,vk1,vi1,vt1⟩ ks1) A1 k1 c1∧ExV u (opE 10 [.mk ⟨op1,tb1,nm1,ix1,vk1,vi1,vt1⟩ ks1,.mk ⟨op2,tb2,nm2,ix2,vk2,vi2,vt2⟩ ks2]) B 2 2))
    case first=>
     obtain⟨b0,b1,b2,b3,b4,b5,b6,b7⟩:=cells8 (E.out.get (j:=1) rfl)
     obtain⟨a0,a1,a2,a3,a4,a5,a6,a7⟩:=cells8 ((E.out.ext ((Ext.refl w26).alloc (.cells #[.int .i64 0,.string ⟨#[]⟩,.string ⟨#[]⟩,.int .i64 0,.int .i64 0,.int .i64 0,.string ⟨#[]⟩,.slice none 0 0] 37))).get (j:=1) rfl)
     replace E:=hid (E.out.ext (Ext.refl w26).drew)
     go_region_law (first
      |(go_simp;go_at_call 80;(with_reducible refine(dnode_any _ _ _ _ _).mono ?_);rintro _ w32 ⟨rfl,hx⟩;(first|(replace E:=hid (E.out.op2' (o:=10) (fun u h=>h.1) (fun u h=>h.2) (by unfold I64;omega) hx))|(replace E:=hid (E.out.op2a (o:=10) (fun u h=>h.1) (fun u h=>h.2) (by unfold I64;omega) (t:=37) (cs:=zC) hx))|(replace E:=hid (E.out.op2b (o:=10) (fun u h=>h.1) (fun u h=>h.2) (by unfold I64;omega) (t:=37) (cs:=zC) hx)));(try rw[show w26.drew.heap.size=w26.heap.size from rfl]at E);(try (obtain⟨z0,z1,z2,z3,z4,z5,z6,z7⟩:=cells8 (E.out.get (j:=0) rfl);obtain⟨y0,y1,y2,y3,y4,y5,y6,y7⟩:=froz8 (E.out.get (j:=0) rfl))))
      |(go_simp;go_at_call 41;(first|((with_reducible refine(HA.out _ E.out.ps).mono ?_))|(replace E:Hid (En _ _ _ _ _ _ _ ((w26.alloc (.cells #[.int .i64 0,.string ⟨#[]⟩,.string ⟨#[]⟩,.int .i64 0,.int .i64 0,.int .i64 0,.string ⟨#[]⟩,.slice none 0 0] 37)).drew) _ _ _):=hid (E.out.alloc 37 zC);(with_reducible refine(HA.out _ E.out.ps).mono ?_)));rintro _ w31 ⟨A2,k2,c2,rfl,h1,h2,h3⟩;replace E:=hid (E.out.calls h1 h2 h3);clear h1 h2 h3;first|(obtain⟨d0,d1,d2,d3,d4,d5,d6,d7⟩:=cells8 (E.out.get (j:=1) rfl);obtain⟨e0,e1,e2,e3,e4,e5,e6,e7⟩:=cells8 ((E.out.ext ((Ext.refl w31).alloc (.cells #[.int .i64 0,.string ⟨#[]⟩,.string ⟨#[]⟩,.int .i64 0,.int .i64 0,.int .i64 0,.string ⟨#[]⟩,.slice none 0 0] 37))).get (j:=1) rfl))|(obtain⟨d0,d1,d2,d3,d4,d5,d6,d7⟩:=cells8 (E.out.get (j:=2) rfl))))
     all_goals
      first|(replace E:=hid (E.out.stc (j:=0) (g:=w26.heap.size) rfl (opC 10 (some ⟨w31.heap.size,0,none⟩) 2 2) rfl);simp only[opC,sts]at E;go_wp2_with fail;go_meet;exact⟨_,_,rfl,E.out.imp fun u h=>⟨h.1.1,h.2⟩⟩)|(replace E:=hid (E.out.stc (j:=0) (g:=w31.heap.size) rfl (opC 10 (some ⟨w31.heap.size+1,0,none⟩) 2 2) rfl);simp only[opC,sts]at E;go_wp2_with fail;go_meet;exact⟨_,_,rfl,E.out.imp fun u h=>⟨h.1.1,h.2⟩⟩)|(replace E:=hid (E.out.stc (j:=0) (g:=w31.heap.size+1) rfl (opC 10 (some ⟨w31.heap.size,0,none⟩) 2 2) rfl);simp only[opC,sts]at E;go_wp2_with fail;go_meet;exact⟨_,_,rfl,E.out.imp fun u h=>⟨h.1.1,h.2⟩⟩)|(generalize hw:World.alloc _ _=w33;replace E:=hid (en_alloc E.out hw);go_wp2_with fail;go_meet;exact⟨_,_,rfl,E.out.imp fun u h=>⟨h.1.1,h.2⟩⟩)
    case rest=>
     obtain⟨g3,B,rfl,E⟩:=hcut
     replace E:=hid E
     generalize wc=w32 at*
     have hin:inP sum (.mk ⟨op1,tb1,nm1,ix1,vk1,vi1,vt1⟩ ks1) s4=inGo sum (.mk ⟨op1,tb1,nm1,ix1,vk1,vi1,vt1⟩ ks1) (s4.r.length+1) (opE 10 [.mk ⟨op1,tb1,nm1,ix1,vk1,vi1,vt1⟩ ks1,.mk ⟨op2,tb2,nm2,ix2,vk2,vi2,vt2⟩ ks2]) s3:=by unfold inP;rw[hm2]
     obtain⟨IN,hIn⟩:∃x,inP sum (.mk ⟨op1,tb1,nm1,ix1,vk1,vi1,vt1⟩ ks1) s4=x:=⟨_,rfl⟩
     rw[hIn]at hin
     go_wp2_with fail
     go_loopw [85] (fun _ wr=> ∃(m:Nat) (op4 ix4 vk4 vi4:Int) (tb4 nm4 vt4:ByteArray) (ks4:List Ex) (A4:Option Addr) (k4 c4:Nat) (st:Ps),st.r.length<m∧st.r.length≤s.r.length∧IN=inGo sum (.mk ⟨op1,tb1,nm1,ix1,vk1,vi1,vt1⟩ ks1) m (.mk ⟨op4,tb4,nm4,ix4,vk4,vi4,vt4⟩ ks4) st∧En 77 P A c L w0 w wr st [(g3,37,(eC op4 tb4 nm4 ix4 vk4 vi4 vt4 A4 k4 c4)),(g2,9,[.string ⟨#[61]⟩,.string ⟨#[60,62]⟩,.string ⟨#[60]⟩,.string ⟨#[60,61]⟩,.string ⟨#[62]⟩,.string ⟨#[62,61]⟩]),(g1,37,(eC op1 tb1 nm1 ix1 vk1 vi1 vt1 A1 k1 c1)),(g0,37,zC)] (fun u=>ExV u (.mk ⟨op1,tb1,nm1,ix1,vk1,vi1,vt1⟩ ks1) A1 k1 c1∧ExV u (.mk ⟨op4,tb4,nm4,ix4,vk4,vi4,vt4⟩ ks4) A4 k4 c4)) (fun _ wr=>20001-posO P wr)
     case atStart=>exact⟨_,10,0,0,0,⟨#[]⟩,⟨#[]⟩,⟨#[]⟩,_,B,2,2,s3,by omega,by omega,hin,E.out⟩
     case round=>
      clear E hin
      obtain⟨m,op4,ix4,vk4,vi4,tb4,nm4,vt4,ks4,A4,k4,c4,st,hm5,hst,hin,E⟩:=hrel
      replace E:=hid E
      replace hin:=hid hin
      generalize wr=w50 at*
      obtain⟨m,rfl⟩:∃x,m=x+1:=⟨m-1,by omega⟩
      have HPos:=hid E.out.ps.posO
      have hL0:=E.out.ps.le
      go_wp2_with fail
      cases hc1:isS yCm st
      rotate_left
      ·refine(rtk1 E.out.ps hL hc1).mono ?_
       rintro _ w51 ⟨rfl,h1,h2⟩
       replace E:=hid (E.out.call h1 h2)
       clear h1 h2
       have hln:=isS_len hc1
       have HPos:Hid (posO P w50=L.length-st.r.length):=HPos
       go_upto_region 23 with fail
       obtain⟨b0,b1,b2,b3,b4,b5,b6,b7⟩:=cells8 (E.out.get (j:=2) rfl)
       obtain⟨q0,q1,q2,q3,q4,q5,q6,q7⟩:=cells8 (E.out.get (j:=0) rfl)
       replace E:=hid (E.out.ext (Ext.refl w51).drew)
       have hf6:=hf st.next
       obtain⟨op6,ix6,vk6,vi6,tb6,nm6,vt6,ks6,s6x,hm6,hc⟩:=hr.at_ E.out.ps (by omega)
       rw[hm6]at hf6
       try simp only at hf6
       have hin2:=hin.out
       rw[inGo,if_pos hc1,hm6]at hin2
       replace hin2:=hid hin2
       go_region_law (first
        |(go_simp;go_at_call 80;(with_reducible refine(dnode_any 10 _ _ _ _).mono ?_);rintro _ w62 ⟨rfl,hx⟩;replace E:=hid (E.out.op2' (o:=10) (fun u h=>h.1.1) (fun u h=>h.2) (by unfold I64;omega) hx);obtain⟨g0,g1,g2,g3,g4,g5,g6,g7⟩:=cells8 (E.out.get (j:=0) rfl))
        |(go_simp;go_at_call 80;(with_reducible refine(dnode_any 19 _ _ _ _).mono ?_);rintro _ w63 ⟨rfl,hx⟩;replace E:=hid (E.out.op2' (o:=19) (fun u h=>h.1.1.2) (fun u h=>h.2) (by unfold I64;omega) hx);obtain⟨z0,z1,z2,z3,z4,z5,z6,z7⟩:=cells8 (E.out.get (j:=0) rfl);obtain⟨y0,y1,y2,y3,y4,y5,y6,y7⟩:=froz8 (E.out.get (j:=0) rfl))
        |(go_simp;go_at_call 41;(with_reducible refine hc.mono ?_);rintro _ w61 ⟨A6,k6,c6,rfl,h1,h2,h3⟩;replace E:=hid (E.out.calls h1 h2 h3);clear h1 h2 h3;obtain⟨d0,d1,d2,d3,d4,d5,d6,d7⟩:=cells8 (E.out.get (j:=2) rfl);obtain⟨e0,e1,e2,e3,e4,e5,e6,e7⟩:=cells8 (E.out.get (j:=0) rfl);obtain⟨f0,f1,f2,f3,f4,f5,f6,f7⟩:=cells8 ((E.out.ext ((Ext.refl w61).alloc (.cells #[.int .i64 op1,.string tb1,.string nm1,.int .i64 ix1,.int .i64 vk1,.int .i64 vi1,.string vt1,.slice A1 k1 c1,.int .i64 op6,.string tb6,.string nm6,.int .i64 ix6,.int .i64 vk6,.int .i64 vi6,.string vt6,.slice A6 k6 c6] 37))).get (j:=0) rfl)))
       all_goals
        replace E:=hid (E.out.stc (j:=0) rfl (opC 19 (some ⟨w62.heap.size,0,none⟩) 2 2) rfl)
        simp only[opC,sts]at E
        have HP2:=E.out.ps.posO
        have hL1:=E.out.ps.le
        have hL2:=hL.len
        go_wp2_with fail
        exact⟨⟨m,19,0,0,0,⟨#[]⟩,⟨#[]⟩,⟨#[]⟩,_,_,2,2,s6x,by omega,by omega,hin2.out,E.out.imp fun u h=>⟨h.1.1.1.1,h.2⟩⟩,by rw[HP2,HPos.out];omega⟩
      refine(rtk0 E.out.ps hL hc1).mono ?_
      rintro _ w51 ⟨rfl,h1,h2⟩
      replace E:=hid (E.out.call h1 h2)
      clear h1 h2
      have hie:IN=(.mk ⟨op4,tb4,nm4,ix4,vk4,vi4,vt4⟩ ks4,st):=by rw[hin.out,inGo,if_neg (by rw[hc1];simp)]
      go_wp2_with fail
      refine(rneed_any E.out.ps hL yRp).mono ?_
      rintro _ w52 ⟨rfl,h1,h2⟩
      replace E:=hid (E.out.call h1 h2)
      clear h1 h2
      go_wp2_with (first|(refine ldE rfl rfl _ rfl (E.out.get (j:=0) rfl) rfl ?_)|(go_at_call 156;have H:=rneg_any (q:=N) E.out.far (E.out.stb.imp fun u h=>h.2);(with_reducible refine H.mono ?_);rintro _ w60 ⟨op9,ix9,vk9,vi9,tb9,nm9,vt9,ks9,A9,k9,c9,hneg,rfl,hx,hs⟩;replace E:=hid (E.out.stay hx hs))|(refine stE rfl rfl rfl _ (eC op9 tb9 nm9 ix9 vk9 vi9 vt9 A9 k9 c9) rfl rfl (E.out.get (j:=3) rfl) rfl rfl (by kernel_rfl) ?_))
      obtain rfl:R=(.mk ⟨op9,tb9,nm9,ix9,vk9,vi9,vt9⟩ ks9,needP yRp st):=by rw[hm.out,if_neg (by rw[hLK];simp),if_neg (by rw[hBT];simp),if_pos hIN,hs4,hIn,hie,←hneg]
      refine bodyPost_ret (v:= .agg ((eC op9 tb9 nm9 ix9 vk9 vi9 vt9 A9 k9 c9)).toArray) (results_cell_row (p:=2) (ty:=37) rfl _ _ g0 37 _ _ _ (by rfl) ((E.out.row (j:=3) rfl (eC op9 tb9 nm9 ix9 vk9 vi9 vt9 A9 k9 c9)).get (j:=3) rfl) Tryz.underlying37 rfl (by kernel_rfl)) rfl ?_
      have F:=E.out.row (j:=3) rfl (eC op9 tb9 nm9 ix9 vk9 vi9 vt9 A9 k9 c9)
      exact⟨A9,k9,c9,rfl,F.ps,F.chg,F.keep⟩
   refine(rtk0 E.out.ps hL hIN).mono ?_
   rintro _ w25 ⟨rfl,h1,h2⟩
   replace E:=hid (E.out.call h1 h2)
   clear h1 h2
   have hR:=hm.out
   rw[if_neg (by rw[hLK];simp),if_neg (by rw[hBT];simp),if_neg (by rw[hIN];simp)]at hR
   clear hm
   cases N
   ·obtain rfl:s2=s1:=hop
    obtain rfl:R=(.mk ⟨op1,tb1,nm1,ix1,vk1,vi1,vt1⟩ ks1,s2):=hR
    go_wp2_with (first|(refine ldE rfl rfl _ rfl (E.out.get (j:=1) rfl) rfl ?_)|(refine stE rfl rfl rfl _ (eC op1 tb1 nm1 ix1 vk1 vi1 vt1 A1 k1 c1) rfl rfl (E.out.get (j:=2) rfl) rfl rfl (by kernel_rfl) ?_))
    refine bodyPost_ret (v:= .agg ((eC op1 tb1 nm1 ix1 vk1 vi1 vt1 A1 k1 c1)).toArray) (results_cell_row (p:=2) (ty:=37) rfl _ _ g0 37 _ _ _ (by rfl) ((E.out.row (j:=2) rfl (eC op1 tb1 nm1 ix1 vk1 vi1 vt1 A1 k1 c1)).get (j:=2) rfl) Tryz.underlying37 rfl (by kernel_rfl)) rfl ?_
    have F:=E.out.row (j:=2) rfl (eC op1 tb1 nm1 ix1 vk1 vi1 vt1 A1 k1 c1)
    exact⟨A1,k1,c1,rfl,F.ps,F.chg,F.keep⟩
   ·obtain rfl:s2=s1.next:=hop
    obtain rfl:R=(.mk ⟨op1,tb1,nm1,ix1,vk1,vi1,vt1⟩ ks1,s1.next.fail):=hR
    have f2:=E.out.ps.blk.frozen 2
    have p2:=E.out.ps.blk.cell_some (i:=2) rfl
    replace E:=hid E.out.fail
    go_upto_region 28 with fail
    go_wp2_with (first|(refine ldE rfl rfl _ rfl (E.out.get (j:=1) rfl) rfl ?_)|(refine stE rfl rfl rfl _ (eC op1 tb1 nm1 ix1 vk1 vi1 vt1 A1 k1 c1) rfl rfl (E.out.get (j:=2) rfl) rfl rfl (by kernel_rfl) ?_))
    refine bodyPost_ret (v:= .agg ((eC op1 tb1 nm1 ix1 vk1 vi1 vt1 A1 k1 c1)).toArray) (results_cell_row (p:=2) (ty:=37) rfl _ _ g0 37 _ _ _ (by rfl) ((E.out.row (j:=2) rfl (eC op1 tb1 nm1 ix1 vk1 vi1 vt1 A1 k1 c1)).get (j:=2) rfl) Tryz.underlying37 rfl (by kernel_rfl)) rfl ?_
    have F:=E.out.row (j:=2) rfl (eC op1 tb1 nm1 ix1 vk1 vi1 vt1 A1 k1 c1)
    exact⟨A1,k1,c1,rfl,F.ps,F.chg,F.keep⟩
end
end
section
open Lx (Tk)
theorem fwd_primR {p:M Ex} (h:Fwd p):Fwd (primR p):=fun s=>by
 unfold primR
 split
 ·exact next_len s
 split
 ·exact Nat.le_trans (need_len _ _) (Nat.le_trans (h _) (Nat.le_trans (need_len _ _) (next_len s)))
 split
 ·exact Nat.le_trans (need_len _ _) (Nat.le_trans (h _) (next_len s))
 split
 ·exact fwd_num s
 split
 ·exact fwd_tak 4 s
 ·exact fwd_col s
theorem fwd_exprR:∀n,Fwd (exprR n)
 |0=>fun s=>Nat.le_refl _
 |n+1=>fwd_or (fwd_primR (fwd_exprR n))
section
variable {P c:Nat} {A:Option Addr} {L:List Tk} {w0:World}
theorem ops_ok {l:List (ByteArray×Int)} (h:l.all (fun x=>decide (0<x.2) &&decide (x.2<100))=true):∀x∈l,x.2≠0∧I64 x.2:=fun x hx=>by
 have:=List.all_eq_true.1 h x hx
 simp only[Bool.and_eq_true,decide_eq_true_eq]at this
 unfold I64
 omega
theorem rexpr_all (hL:TkL L):∀n,RX P A c L w0 41 #[.pointer (some ⟨P,0,none⟩),.int .i64 1] n (exprR n)
 |0=>fun _ _ _ h=>absurd h (Nat.not_lt_zero _)
 |n+1=>by
  have hp:Fwd (primR (exprR n)):=fwd_primR (fwd_exprR n)
  have h7:=runa_any hL (rprim_any hL (rexpr_all hL n))
  have h6:=rchain_any hL (l:=6) (ops:=opsPro) (by omega) (by omega) (ops_ok (by rfl)) (fwd_una hp) h7 (fun w s h=>rbin6_any h hL)
  have h5:=rchain_any hL (l:=5) (ops:=opsSum) (by omega) (by omega) (ops_ok (by rfl)) (fwd_chain (fwd_una hp) _) h6 (fun w s h=>rbin5_any h hL)
  have ht:=rtest_any hL (fwd_sum hp) h5
  have h3:=rnot_any hL hp ht _ (Nat.le_refl _)
  have h2:=rchain_any hL (l:=2) (ops:=opsAnd) (by omega) (by omega) (ops_ok (by rfl)) (fun s=>fwd_notGo hp _ s) h3 (fun w s h=>rbin2_any h hL)
  exact rchain_any hL (l:=1) (ops:=opsOr) (by omega) (by omega) (ops_ok (by rfl)) (fwd_and hp) h2 (fun w s h=>rbin1_any h hL)
end
end
end Go.Proofs.YtjigcpfjhfoheaaGreatDoor
