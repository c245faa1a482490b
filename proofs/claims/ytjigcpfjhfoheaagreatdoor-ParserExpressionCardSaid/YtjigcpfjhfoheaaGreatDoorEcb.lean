/- Walks over the reference's smallest functions; Walks over the reference: numbers; Walks over the reference: node, negated, and; Walks over the reference: and, binary; Walks over the reference: columns and primaries; Walk over the . -/
import Derived.Test.YtjigcpfjhfoheaaGreatDoorEbh
namespace Go.Proofs.YtjigcpfjhfoheaaGreatDoor
open Go.RowKit
set_option maxHeartbeats 4000000
set_option maxRecDepth 100000
set_option linter.unusedVariables false
set_option linter.unusedSimpArgs false
section
open Lx (Tk)
section
variable {P c:Nat} {A:Option Addr} {L:List Tk} {w0 w:World} {s:Ps}
theorem ris_any (hp:PsAt 77 P A c L w0 w s) (hL:TkL L) (t:ByteArray):
  Calls Tryz.prog 134 #[.pointer (some ⟨P,0,none⟩),.string t] w fun e w'=>e= .returned (.bool (isS t s))∧Ext w w':=by
 obtain⟨b,off,hA,hb,c0,c1,c2⟩:=hp.cells
 subst hA
 obtain⟨p0,p1,p2,-⟩:=cls hp.blk
 have hi:=hp.lti
 have hl:=hL.len
 have HI:Hid (isS t s=(!s.bad&& ((s.hd.kind==2||s.hd.kind==5) &&decide (tkB s.hd=t)))):=rfl
 generalize isS t s=B at*
 generalize L.length-s.r.length=i at*
 generalize s.hd.kind=K at*
 generalize s.hd.pos=Ps9 at*
 generalize tkB s.hd=X at*
 generalize s.bad=bd at*
 have i0:(0:Int)≤(i:Int):=by omega
 have i1:(i:Int)<(L.length:Int):=by omega
 have hxa:=(Ext.refl w).alloc (.cells #[.int .i64 0,.string ⟨#[]⟩,.int .i64 0] 78)
 have HX:=hid hxa
 have ap0:=hxa.keep p0
 have ap1:=hxa.keep p1
 have ap2:=hxa.keep p2
 have ac0:=hxa.keep c0
 have ac1:=hxa.keep c1
 have ac2:=hxa.keep c2
 clear hp hL hxa
 go_enter Tryz.func134,Tryz.ntmps134
 go_upto_region 1 with fail
 go_region
 have hx1:Ext w (w.alloc (.cells #[.int .i64 (K:Int),.string X,.int .i64 (Ps9:Int)] 78)).drew:=((Ext.refl w).alloc _).drew
 have hbt:Blk (w.alloc (.cells #[.int .i64 (K:Int),.string X,.int .i64 (Ps9:Int)] 78)).drew w.heap.size 78 [.int .i64 (K:Int),.string X,.int .i64 (Ps9:Int)]:=(Blk.of_new w 78 [.int .i64 (K:Int),.string X,.int .i64 (Ps9:Int)]).drew
 have q2:=hx1.keep p2
 obtain⟨t0,t1,-⟩:=cls hbt
 have HX1:=hid hx1
 clear hx1 hbt p0 p1 p2 c0 c1 c2 ap0 ap1 ap2 ac0 ac1 ac2 hb hi
 generalize (w.alloc (.cells #[.int .i64 (K:Int),.string X,.int .i64 (Ps9:Int)] 78)).drew=w1 at*
 generalize w.heap.size=g1 at*
 have HB:=HI.out
 subst HB
 by_cases k2:K=2
 ·subst k2
  cases bd<;> (go_wp2_with fail;go_ret;exact⟨ret_bool (by simp[str_dec, *]),HX1.out⟩)
 ·by_cases k5:K=5
  ·subst k5
   cases bd<;> (go_wp2_with fail;go_ret;exact⟨ret_bool (by simp[str_dec, *]),HX1.out⟩)
  ·cases bd<;> (go_wp2_with fail;go_ret;exact⟨ret_bool (by simp[str_dec, *]),HX1.out⟩)
theorem rtake_any (hp:PsAt 77 P A c L w0 w s) (hL:TkL L) (t:ByteArray):
  Calls Tryz.prog 66 #[.pointer (some ⟨P,0,none⟩),.string t] w fun e w'=>e= .returned (.bool (isS t s))∧PsAt 77 P A c L w0 w' (accP t s).2∧Chg P w w':=by
 have HP:=hid hp
 have HI:=hid (ris_any hp hL t)
 clear hp
 go_enter Tryz.func66,Tryz.ntmps66
 go_wp2_with fail
 refine HI.out.mono ?_
 rintro e w1 ⟨rfl,hx1⟩
 have HP1:=hid (HP.out.ext hx1)
 have p1:=HP1.out.blk.cell_some (i:=1) rfl
 have f1:=HP1.out.blk.frozen 1
 have HX1:=hid hx1
 clear hx1 HI
 have HS:Hid ((accP t s).2=if isS t s=true then s.next else s):=rfl
 cases hs:isS t s
 ·go_wp2_with fail
  go_ret
  exact⟨by rw[hs];rfl,by rw[HS.out,hs];exact HP1.out,Chg.of HX1.out⟩
 ·have hk:s.hd.kind≠0:=by
   intro e
   simp[isS,e]at hs
  have HP2:=hid (HP1.out.next hL hk)
  have hi:=HP1.out.lti
  have hl:=hL.len
  generalize L.length-s.r.length=i at*
  go_wp2_with fail
  go_ret
  exact⟨by rw[hs];rfl,by rw[HS.out,hs];exact HP2.out,(Chg.of HX1.out).set _ _⟩
theorem rneed_any (hp:PsAt 77 P A c L w0 w s) (hL:TkL L) (t:ByteArray):
  Calls Tryz.prog 45 #[.pointer (some ⟨P,0,none⟩),.string t] w fun e w'=>e= .returned (.tuple #[])∧PsAt 77 P A c L w0 w' (needP t s)∧Chg P w w':=by
 have HA:=hid (rtake_any hp hL t)
 have HS:Hid (needP t s=if isS t s=true then s.next else s.fail):=rfl
 have HT:Hid ((accP t s).2=if isS t s=true then s.next else s):=rfl
 clear hp
 go_enter Tryz.func45,Tryz.ntmps45
 go_wp2_with fail
 refine HA.out.mono ?_
 rintro e w1 ⟨rfl,hp1,hg1⟩
 rw[HT.out]at hp1
 cases hs:isS t s
 ·rw[hs]at hp1 HS
  have HP2:=hid hp1.fail
  have f2:=hp1.blk.frozen 2
  have p2:=hp1.blk.cell_some (i:=2) rfl
  have HG:=hid (hg1.set 2 (.bool true))
  clear hp1 hg1
  go_wp2_with fail
  exact bodyPost_end (v:= .tuple #[]) (by simp[results,Tryz.results45,go_sem]) rfl ⟨rfl,by rw[HS.out];exact HP2.out,HG.out⟩
 ·rw[hs]at hp1 HS
  have HP2:=hid hp1
  have HG:=hid hg1
  clear hp1 hg1
  go_wp2_with fail
  exact bodyPost_end (v:= .tuple #[]) (by simp[results,Tryz.results45,go_sem]) rfl ⟨rfl,by rw[HS.out];exact HP2.out,HG.out⟩
theorem rkind_any (hp:PsAt 77 P A c L w0 w s) (hL:TkL L) (k:Nat) (hk:k≠0):
  Calls Tryz.prog 135 #[.pointer (some ⟨P,0,none⟩),.int .i64 (k:Nat)] w fun e w'=>e= .returned (.string (takP k s).1)∧PsAt 77 P A c L w0 w' (takP k s).2∧Chg P w w':=by
 obtain⟨b,off,hA,hb,c0,c1,c2⟩:=hp.cells
 subst hA
 obtain⟨p0,p1,p2,-⟩:=cls hp.blk
 have hi:=hp.lti
 have hl:=hL.len
 have HT:Hid (takP k s=if hasK k s=true then (tkB s.hd,s.next)else (⟨#[]⟩,s.fail)):=rfl
 have HK:Hid (hasK k s=(!s.bad&&s.hd.kind==k)):=rfl
 have HP:=hid hp
 generalize takP k s=R at*
 have HN:=hid (fun (W:World) (hW:Ext w W) (h0:s.hd.kind≠0)=> (hp.ext hW).next hL h0)
 have HF:=hid (fun (W:World) (hW:Ext w W)=> (hp.ext hW).fail)
 have HB:=hid (fun (W:World) (hW:Ext w W)=> (hp.ext hW).blk)
 generalize L.length-s.r.length=i at*
 generalize hKd:s.hd.kind=K at*
 generalize s.hd.pos=Ps9 at*
 generalize tkB s.hd=X at*
 generalize s.bad=bd at*
 have i0:(0:Int)≤(i:Int):=by omega
 have i1:(i:Int)<(L.length:Int):=by omega
 have hxa:=(Ext.refl w).alloc (.cells #[.int .i64 0,.string ⟨#[]⟩,.int .i64 0] 78)
 have ap0:=hxa.keep p0
 have ap1:=hxa.keep p1
 have ac0:=hxa.keep c0
 have ac1:=hxa.keep c1
 have ac2:=hxa.keep c2
 clear hp hL hxa
 go_enter Tryz.func135,Tryz.ntmps135
 go_upto_region 1 with fail
 go_region
 have HX1:Hid (Ext w (w.alloc (.cells #[.int .i64 (K:Int),.string X,.int .i64 (Ps9:Int)] 78)).drew):=((Ext.refl w).alloc _).drew
 have HBt:Hid (Blk (w.alloc (.cells #[.int .i64 (K:Int),.string X,.int .i64 (Ps9:Int)] 78)).drew w.heap.size 78 [.int .i64 (K:Int),.string X,.int .i64 (Ps9:Int)]):=(Blk.of_new w 78 [.int .i64 (K:Int),.string X,.int .i64 (Ps9:Int)]).drew
 have HPl:Hid (P<w.heap.size):=HP.out.lt
 clear p0 p1 p2 c0 c1 c2 ap0 ap1 ac0 ac1 ac2 hb hi
 generalize (w.alloc (.cells #[.int .i64 (K:Int),.string X,.int .i64 (Ps9:Int)] 78)).drew=w1 at*
 generalize w.heap.size=g1 at*
 have HB1:=hid (HB.out w1 HX1.out)
 have HF1:=hid (HF.out w1 HX1.out)
 obtain⟨-,q1,q2,-⟩:=cls HB1.out
 have f1:=HB1.out.frozen 1
 have f2:=HB1.out.frozen 2
 have t0:=HBt.out.cell_some (i:=0) rfl
 cases bd
 ·by_cases hkk:K=k
  ·have HN1:=hid (HN.out w1 HX1.out (by omega))
   have HB2:=hid (HBt.out.far (p:=⟨P,1,none⟩) (by show g1≠P;have:=HPl.out;omega) (.int .i64 ((i:Int)+1)))
   have t1:=HB2.out.cell_some (i:=1) rfl
   have hd:((K:Int) !=(k:Int))=false:=by simp[hkk]
   have HR:Hid (R=(X,s.next)):=by unfold Hid;rw[HT.out,HK.out,hkk];simp
   clear HN HF HB HT HK HP HB1 HF1 HBt
   go_wp2_with fail
   go_ret
   exact⟨by rw[HR.out];rfl,by rw[HR.out];exact HN1.out,(Chg.of HX1.out).set _ _⟩
  ·have hd:((K:Int) !=(k:Int))=true:=by simp;omega
   have HR:Hid (R=(⟨#[]⟩,s.fail)):=by unfold Hid;rw[HT.out,HK.out];simp[hkk]
   clear HN HF HB HT HK HP HB1 HBt
   go_wp2_with fail
   go_ret
   exact⟨by rw[HR.out];rfl,by rw[HR.out];exact HF1.out,(Chg.of HX1.out).set _ _⟩
 ·have HR:Hid (R=(⟨#[]⟩,s.fail)):=by unfold Hid;rw[HT.out,HK.out];simp
  clear HN HF HB HT HK HP HB1 HBt
  go_wp2_with fail
  go_ret
  exact⟨by rw[HR.out];rfl,by rw[HR.out];exact HF1.out,(Chg.of HX1.out).set _ _⟩
theorem drname_any (hp:PsAt 77 P A c L w0 w s) (hL:TkL L):
  Calls Tryz.prog 67 #[.pointer (some ⟨P,0,none⟩)] w fun e w'=>e= .returned (.string (takP 1 s).1)∧PsAt 77 P A c L w0 w' (takP 1 s).2∧Chg P w w':=by
 have H:=hid (rkind_any hp hL 1 (by omega))
 clear hp
 go_enter Tryz.func67,Tryz.ntmps67
 go_wp2_with fail
 refine H.out.mono ?_
 rintro _ w1 ⟨rfl,h1,h2⟩
 go_wp2_with fail
 go_ret
 exact⟨rfl,h1,h2⟩
end
end
section
open Lx (Tk)
theorem dvl_snoc (l:List UInt8) (c:UInt8):Lx.digVal (l++ [c])=10*Lx.digVal l+(c.toNat-48):=by
 unfold Lx.digVal
 rw[List.foldl_append]
 rfl
theorem dvl_take (l:List UInt8) (k:Nat):Lx.digVal (l.take k)≤Lx.digVal l:=by
 have key:∀(r:List UInt8) (v:Nat),v≤r.foldl (fun v c=>10*v+(c.toNat-48)) v:=by
  intro r
  induction r with
  |nil=>intro v;exact Nat.le_refl _
  |cons a r ih=>intro v;rw[List.foldl_cons];have:=ih (10*v+(a.toNat-48));omega
 conv=>rhs;rw[←List.take_append_drop k l]
 unfold Lx.digVal
 rw[List.foldl_append]
 exact key _ _
theorem rdigits_any (b:ByteArray) (w:World) (hd:∀c∈b.data.toList,48≤c.toNat∧c.toNat≤57) (hs:b.size≤20000) (hv:Lx.digVal b.data.toList≤2147483648):
  Calls Tryz.prog 222 #[.string b] w fun e w'=>e= .returned (.int .i64 (digV b))∧Ext w w':=by
 have HD:=hid hd
 have HV:=hid hv
 have HL:Hid (b.data.toList.length=b.size):=Array.length_toList
 have HR:Hid (digV b=(Lx.digVal b.data.toList:Nat)):=rfl
 generalize digV b=R at*
 clear hd hv
 go_enter Tryz.func222,Tryz.ntmps222
 go_wp2_with fail
 go_loopw [3,4] (fun v i wr=> ∃(k V:Nat),k≤b.size∧i= .int .i64 k∧v= .int .i64 V∧V=Lx.digVal (b.data.toList.take k)∧V≤2147483648∧Ext w wr) (fun _ i _=>b.size- (intOf i).toNat)
 case atStart=>exact⟨0,0,Nat.zero_le _,rfl,rfl,rfl,Nat.zero_le _,Ext.refl _⟩
 case round=>
  obtain⟨k,V,hk,rfl,rfl,hv,hV,hx⟩:=hrel
  have HVk:=hid hv
  have HX:=hid hx
  clear hv hx
  by_cases hlt:k<b.size
  ·have hm:b[k]∈b.data.toList:=by
    have:b[k]=b.data.toList[k]'(by rw[HL.out];exact hlt):=rfl
    rw[this]
    exact List.getElem_mem _
   obtain⟨hd1,hd2⟩:=HD.out _ hm
   clear hm
   have HT:Hid (Lx.digVal (b.data.toList.take (k+1))=10*V+(b[k].toNat-48)):=by
    have e:b.data.toList.take (k+1)=b.data.toList.take k++ [b[k]]:=by
     rw[List.take_succ_eq_append_getElem (by rw[HL.out];exact hlt)]
     rfl
    unfold Hid
    rw[e,dvl_snoc,←HVk.out]
   have hb:10*V+(b[k].toNat-48)≤2147483648:=by
    have:=dvl_take b.data.toList (k+1)
    rw[HT.out]at this
    have:=HV.out
    omega
   go_wp2_with fail
   go_roundw
   case rel=>exact⟨k+1,10*V+(b[k].toNat-48),by omega,by go_num,by go_num,HT.out.symm,hb,HX.out⟩
   case measure=>simp[intOf];omega
  ·obtain rfl:k=b.size:=by omega
   rw[List.take_of_length_le (Nat.le_of_eq HL.out)]at HVk
   go_wp2_with fail
   go_ret
   exact⟨by rw[HR.out,←HVk.out];rfl,HX.out⟩
section
variable {P c:Nat} {A:Option Addr} {L:List Tk} {w0 w w1:World} {s s1:Ps}
theorem num_digits (hp:PsAt 77 P A c L w0 w s) (hL:TkL L):(∀x∈(takP 3 s).1.data.toList,48≤x.toNat∧x.toNat≤57)∧Lx.digVal (takP 3 s).1.data.toList≤2147483648:=by
 unfold takP
 split
 ·next hk=>
  have h3:=hL.num _ hp.mem (by simp[hasK]at hk;exact hk.2)
  have e:(tkB s.hd).data.toList=s.hd.text:=by simp[tkB]
  simp only
  rw[e]
  refine⟨h3.2.1,?_⟩
  have:=h3.2.2.1
  unfold digV at this
  rw[e]at this
  omega
 ·exact⟨by simp,by show 0≤2147483648;omega⟩
theorem drnumber_any (hp:PsAt 77 P A c L w0 w s) (hL:TkL L):
  Calls Tryz.prog 157 #[.pointer (some ⟨P,0,none⟩)] w fun e w'=>e= .returned (.int .i64 (numP s).1)∧PsAt 77 P A c L w0 w' (numP s).2∧Chg P w w':=by
 have H:=hid (rkind_any hp hL 3 (by omega))
 obtain⟨h1,h2⟩:=num_digits hp hL
 have HD:=hid (fun W=>rdigits_any (takP 3 s).1 W h1 (hp.tak_size hL 3) h2)
 have HE:Hid (numP s=(digV (takP 3 s).1,(takP 3 s).2)):=rfl
 clear hp h1 h2
 generalize takP 3 s=R at*
 go_enter Tryz.func157,Tryz.ntmps157
 go_wp2_with fail
 refine H.out.mono ?_
 rintro _ w1 ⟨rfl,h1,h2⟩
 go_wp2_with fail
 refine(HD.out w1).mono ?_
 rintro _ w2 ⟨rfl,hx⟩
 go_wp2_with fail
 go_ret
 exact⟨by rw[HE.out];rfl,by rw[HE.out];exact h1.ext hx,h2.ext hx⟩
end
end
section
open Lx (Tk)
abbrev opC (o:Int) (B:Option Addr) (k c:Nat):List Value:=(eC o ⟨#[]⟩ ⟨#[]⟩ 0 0 0 ⟨#[]⟩ B k c)
abbrev zC:List Value:=opC 0 none 0 0
theorem dnode_any (o:Int) (B:Option Addr) (k c':Nat) (W:World):
  Calls Tryz.prog 80 #[.int .i64 o,.slice B k c'] W fun e w'=>e= .returned (.agg (opC o B k c').toArray)∧Ext W w':=by
 have HB:=hid (Blk.of_new W 37 (opC o B k c'))
 go_enter Tryz.func80,Tryz.ntmps80
 go_wp2_with fail
 obtain⟨q0,q1,q2,q3,q4,q5,q6,q7,-⟩:=cls HB.out
 exact bodyPost_ret (by simp[results,Tryz.results80,go_sem,q0,q1,q2,q3,q4,q5,q6,q7]) rfl ⟨rfl,(Ext.refl W).alloc _⟩
theorem stb_row {S:Nat→Prop} {g:Nat} {w:World} {ds:Array Value} {Ψ:World→Prop} (h:Stb (fun q=>S q∧q≠g) w Ψ):Stb S (w.setRow g ds) Ψ:=
 (h.grown (row_grown' w g ds) fun q hq e=>hq.2 (Option.some.inj e).symm).weak fun q _ hq=>hq.1
theorem stb_off {S:Nat→Prop} {g:Nat} {w:World} {Ψ:World→Prop} (h:Stb S w Ψ) (hg:w.heap.size≤g):Stb (fun q=>S q∧q≠g) w Ψ:=h.weak fun q hq hn=>⟨hn,by omega⟩
theorem ext_rowr {W w:World} {g:Nat} {ds:Array Value} (h:Ext W w) (hg:W.heap.size≤g):Ext W (w.setRow g ds):=h.grown (row_grown' w g ds) fun k hk=>by have:=Option.some.inj hk;omega
theorem rneg_any {S:Nat→Prop} {q:Bool} {op ix vk vi:Int} {tb nm vt:ByteArray} {ks:List Ex} {B:Option Addr} {k c':Nat} {W:World} (hS:∀q,W.heap.size≤q→S q) (hv:Stb S W fun u=>ExV u (.mk ⟨op,tb,nm,ix,vk,vi,vt⟩ ks) B k c'):
  Calls Tryz.prog 156 #[.bool q,.agg #[.int .i64 op,.string tb,.string nm,.int .i64 ix,.int .i64 vk,.int .i64 vi,.string vt,.slice B k c']] W fun r w'=> ∃(op9 ix9 vk9 vi9:Int) (tb9 nm9 vt9:ByteArray) (ks9:List Ex) (A9:Option Addr) (k9 c9:Nat),negE q (.mk ⟨op,tb,nm,ix,vk,vi,vt⟩ ks)= .mk ⟨op9,tb9,nm9,ix9,vk9,vi9,vt9⟩ ks9∧
   r= .returned (.agg #[.int .i64 op9,.string tb9,.string nm9,.int .i64 ix9,.int .i64 vk9,.int .i64 vi9,.string vt9,.slice A9 k9 c9])∧Ext W w'∧Stb S w' (fun u=>ExV u (.mk ⟨op9,tb9,nm9,ix9,vk9,vi9,vt9⟩ ks9) A9 k9 c9):=by
 have hx0:=(Ext.refl W).alloc (.cells #[.int .i64 op,.string tb,.string nm,.int .i64 ix,.int .i64 vk,.int .i64 vi,.string vt,.slice B k c'] 37)
 have HB0:=hid (Blk.of_new W 37 (eC op tb nm ix vk vi vt B k c'))
 have HX0:=hid hx0
 have HV:=hid (stb_off (g:=W.heap.size+1) hv (by omega))
 have HS:=hid hS
 clear hv hx0 hS
 go_enter Tryz.func156,Tryz.ntmps156
 go_upto_region 1 with fail
 have hs1:(W.alloc (.cells #[.int .i64 op,.string tb,.string nm,.int .i64 ix,.int .i64 vk,.int .i64 vi,.string vt,.slice B k c'] 37)).heap.size=W.heap.size+1:=by simp
 generalize W.alloc (.cells #[.int .i64 op,.string tb,.string nm,.int .i64 ix,.int .i64 vk,.int .i64 vi,.string vt,.slice B k c'] 37)=w1 at*
 have HR:=hid (Blk.of_new w1 37 zC)
 have HX1:=hid (HX0.out.alloc (.cells zC.toArray 37))
 have HB1:=hid (HB0.out.ext ((Ext.refl w1).alloc (.cells zC.toArray 37)))
 rw[hs1]at HR
 generalize w1.alloc (.cells _ 37)=w2 at*
 obtain⟨g0,hg0⟩:∃g,W.heap.size=g:=⟨_,rfl⟩
 have HG:=hid hg0
 rw[hg0]at HR HB0 HB1 HV HS ⊢
 clear hg0 hs1
 cases q
 ·go_wp2_with (first|(refine ldE rfl rfl _ rfl HB1.out rfl ?_)|(refine stE rfl rfl rfl _ (eC op tb nm ix vk vi vt B k c') rfl rfl HR.out rfl rfl (by kernel_rfl) ?_))
  refine bodyPost_ret (v:= .agg #[.int .i64 op,.string tb,.string nm,.int .i64 ix,.int .i64 vk,.int .i64 vi,.string vt,.slice B k c']) (results_cell_row (p:=4) (ty:=37) rfl _ _ (g0+1) 37 _ _ _ (by rfl) (row_blk' HR.out (eC op tb nm ix vk vi vt B k c')) Tryz.underlying37 rfl (by kernel_rfl)) rfl ?_
  exact⟨_,_,_,_,_,_,_,_,B,k,c',rfl,rfl,ext_rowr HX1.out (by rw[HG.out];omega),stb_row (Stb.ext HV.out HX1.out)⟩
 ·go_wp2_with (first|(refine ldE rfl rfl _ rfl HB1.out rfl ?_)|(go_at_call 80;(with_reducible refine(dnode_any _ _ _ _ _).mono ?_);rintro _ w5 ⟨rfl,hx5⟩;have HX5:=hid (((Ext.refl w2).alloc (.cells #[.int .i64 op,.string tb,.string nm,.int .i64 ix,.int .i64 vk,.int .i64 vi,.string vt,.slice B k c'] 37)).trans hx5))|(refine stE rfl rfl rfl _ (opC 20 (some ⟨w2.heap.size,0,none⟩) 1 1) rfl rfl (HR.out.ext HX5.out) rfl rfl (by kernel_rfl) ?_))
  refine bodyPost_ret (v:= .agg (opC 20 (some ⟨w2.heap.size,0,none⟩) 1 1).toArray) (results_cell_row (p:=4) (ty:=37) rfl _ _ (g0+1) 37 _ _ _ (by rfl) (row_blk' (HR.out.ext HX5.out) (opC 20 (some ⟨w2.heap.size,0,none⟩) 1 1)) Tryz.underlying37 rfl (by kernel_rfl)) rfl ?_
  exact⟨_,_,_,_,_,_,_,_,some ⟨w2.heap.size,0,none⟩,1,1,rfl,rfl,ext_rowr (HX1.out.trans HX5.out) (by rw[HG.out];omega),stb_row (Stb.ext (exS_op1 (T:=37) (o:=20) (by unfold I64;omega) ⟨HS.out _ (by have:=HR.out.lt;omega),by have:=HR.out.lt;omega⟩ (Stb.ext HV.out HX1.out)) hx5)⟩
end
section
open Lx (Tk)
section
variable {P c:Nat} {A:Option Addr} {L:List Tk} {w0 w:World} {s:Ps}
def lvO (l:Nat):List (ByteArray×Int):=if l=1 then opsOr else if l=2 then opsAnd else if l=5 then opsSum else if l=6 then opsPro else []
theorem rtk1 (hp:PsAt 77 P A c L w0 w s) (hL:TkL L) {t:ByteArray} (hb:isS t s=true):
  Calls Tryz.prog 66 #[.pointer (some ⟨P,0,none⟩),.string t] w fun e w'=>e= .returned (.bool true)∧PsAt 77 P A c L w0 w' s.next∧Chg P w w':=
 (rtake_any hp hL t).mono fun e w' ⟨h1,h2,h3⟩=>⟨by rw[h1,hb],by rw[accP,hb]at h2;exact h2,h3⟩
theorem rtk0 (hp:PsAt 77 P A c L w0 w s) (hL:TkL L) {t:ByteArray} (hb:isS t s=false):
  Calls Tryz.prog 66 #[.pointer (some ⟨P,0,none⟩),.string t] w fun e w'=>e= .returned (.bool false)∧PsAt 77 P A c L w0 w' s∧Chg P w w':=
 (rtake_any hp hL t).mono fun e w' ⟨h1,h2,h3⟩=>⟨by rw[h1,hb],by rw[accP,hb]at h2;exact h2,h3⟩
theorem rbin1_any (hp:PsAt 77 P A c L w0 w s) (hL:TkL L):
  Calls Tryz.prog 83 #[.pointer (some ⟨P,0,none⟩),.int .i64 1] w fun e w'=>e= .returned (.int .i64 ((firstP (lvO 1) s).1.getD 0))∧PsAt 77 P A c L w0 w' (firstP (lvO 1) s).2∧Chg P w w':=by
 have HR:Hid (firstP (lvO 1) s=firstP [(⟨#[79,82]⟩,19)] s):=rfl
 generalize firstP (lvO 1) s=R at*
 have E0:=hid hp
 have C0:=hid (Chg.refl P w)
 clear hp
 cases h0:isS ⟨#[79,82]⟩ s
 rotate_left
 ·have HE:Hid (R=(some 19,s.next)):=by unfold Hid;rw[HR.out,firstP,if_pos h0]
  go_enter Tryz.func83,Tryz.ntmps83
  go_wp2_with (first|(go_at_call 66;(with_reducible refine(rtk1 E0.out hL h0).mono ?_);rintro _ w1 ⟨rfl,h5,h6⟩;have E1:=hid h5;have C1:=hid (C0.out.trans h6);clear h5 h6))
  go_ret
  exact⟨by rw[HE.out];rfl,by rw[HE.out];exact E1.out,C1.out⟩
 have HE:Hid (R=(none,s)):=by unfold Hid;rw[HR.out,firstP,if_neg (by rw[h0];simp),firstP]
 go_enter Tryz.func83,Tryz.ntmps83
 go_wp2_with (first|(go_at_call 66;(with_reducible refine(rtk0 E0.out hL h0).mono ?_);rintro _ w1 ⟨rfl,h5,h6⟩;have E1:=hid h5;have C1:=hid (C0.out.trans h6);clear h5 h6))
 go_ret
 exact⟨by rw[HE.out];rfl,by rw[HE.out];exact E1.out,C1.out⟩
theorem rbin2_any (hp:PsAt 77 P A c L w0 w s) (hL:TkL L):
  Calls Tryz.prog 83 #[.pointer (some ⟨P,0,none⟩),.int .i64 2] w fun e w'=>e= .returned (.int .i64 ((firstP (lvO 2) s).1.getD 0))∧PsAt 77 P A c L w0 w' (firstP (lvO 2) s).2∧Chg P w w':=by
 have HR:Hid (firstP (lvO 2) s=firstP [(⟨#[65,78,68]⟩,18)] s):=rfl
 generalize firstP (lvO 2) s=R at*
 have E0:=hid hp
 have C0:=hid (Chg.refl P w)
 clear hp
 cases h0:isS ⟨#[65,78,68]⟩ s
 rotate_left
 ·have HE:Hid (R=(some 18,s.next)):=by unfold Hid;rw[HR.out,firstP,if_pos h0]
  go_enter Tryz.func83,Tryz.ntmps83
  go_wp2_with (first|(go_at_call 66;(with_reducible refine(rtk1 E0.out hL h0).mono ?_);rintro _ w1 ⟨rfl,h5,h6⟩;have E1:=hid h5;have C1:=hid (C0.out.trans h6);clear h5 h6))
  go_ret
  exact⟨by rw[HE.out];rfl,by rw[HE.out];exact E1.out,C1.out⟩
 have HE:Hid (R=(none,s)):=by unfold Hid;rw[HR.out,firstP,if_neg (by rw[h0];simp),firstP]
 go_enter Tryz.func83,Tryz.ntmps83
 go_wp2_with (first|(go_at_call 66;(with_reducible refine(rtk0 E0.out hL h0).mono ?_);rintro _ w1 ⟨rfl,h5,h6⟩;have E1:=hid h5;have C1:=hid (C0.out.trans h6);clear h5 h6))
 go_ret
 exact⟨by rw[HE.out];rfl,by rw[HE.out];exact E1.out,C1.out⟩
theorem rbin5_any (hp:PsAt 77 P A c L w0 w s) (hL:TkL L):
  Calls Tryz.prog 83 #[.pointer (some ⟨P,0,none⟩),.int .i64 5] w fun e w'=>e= .returned (.int .i64 ((firstP (lvO 5) s).1.getD 0))∧PsAt 77 P A c L w0 w' (firstP (lvO 5) s).2∧Chg P w w':=by
 have HR:Hid (firstP (lvO 5) s=firstP [(⟨#[43]⟩,4),(⟨#[45]⟩,5)] s):=rfl
 generalize firstP (lvO 5) s=R at*
 have E0:=hid hp
 have C0:=hid (Chg.refl P w)
 clear hp
 cases h0:isS ⟨#[43]⟩ s
 rotate_left
 ·have HE:Hid (R=(some 4,s.next)):=by unfold Hid;rw[HR.out,firstP,if_pos h0]
  go_enter Tryz.func83,Tryz.ntmps83
  go_wp2_with (first|(go_at_call 66;(with_reducible refine(rtk1 E0.out hL h0).mono ?_);rintro _ w1 ⟨rfl,h5,h6⟩;have E1:=hid h5;have C1:=hid (C0.out.trans h6);clear h5 h6))
  go_ret
  exact⟨by rw[HE.out];rfl,by rw[HE.out];exact E1.out,C1.out⟩
 cases h1:isS ⟨#[45]⟩ s
 rotate_left
 ·have HE:Hid (R=(some 5,s.next)):=by unfold Hid;rw[HR.out,firstP,if_neg (by rw[h0];simp),firstP,if_pos h1]
  go_enter Tryz.func83,Tryz.ntmps83
  go_wp2_with (first|(go_at_call 66;(with_reducible refine(rtk1 E1.out hL h1).mono ?_);rintro _ w2 ⟨rfl,h5,h6⟩;have E2:=hid h5;have C2:=hid (C1.out.trans h6);clear h5 h6)|(go_at_call 66;(with_reducible refine(rtk0 E0.out hL h0).mono ?_);rintro _ w1 ⟨rfl,h5,h6⟩;have E1:=hid h5;have C1:=hid (C0.out.trans h6);clear h5 h6))
  go_ret
  exact⟨by rw[HE.out];rfl,by rw[HE.out];exact E2.out,C2.out⟩
 have HE:Hid (R=(none,s)):=by unfold Hid;rw[HR.out,firstP,if_neg (by rw[h0];simp),firstP,if_neg (by rw[h1];simp),firstP]
 go_enter Tryz.func83,Tryz.ntmps83
 go_wp2_with (first|(go_at_call 66;(with_reducible refine(rtk0 E1.out hL h1).mono ?_);rintro _ w2 ⟨rfl,h5,h6⟩;have E2:=hid h5;have C2:=hid (C1.out.trans h6);clear h5 h6)|(go_at_call 66;(with_reducible refine(rtk0 E0.out hL h0).mono ?_);rintro _ w1 ⟨rfl,h5,h6⟩;have E1:=hid h5;have C1:=hid (C0.out.trans h6);clear h5 h6))
 go_ret
 exact⟨by rw[HE.out];rfl,by rw[HE.out];exact E2.out,C2.out⟩
theorem rbin6_any (hp:PsAt 77 P A c L w0 w s) (hL:TkL L):
  Calls Tryz.prog 83 #[.pointer (some ⟨P,0,none⟩),.int .i64 6] w fun e w'=>e= .returned (.int .i64 ((firstP (lvO 6) s).1.getD 0))∧PsAt 77 P A c L w0 w' (firstP (lvO 6) s).2∧Chg P w w':=by
 have HR:Hid (firstP (lvO 6) s=firstP [(⟨#[42]⟩,6),(⟨#[47]⟩,7),(⟨#[37]⟩,8)] s):=rfl
 generalize firstP (lvO 6) s=R at*
 have E0:=hid hp
 have C0:=hid (Chg.refl P w)
 clear hp
 cases h0:isS ⟨#[42]⟩ s
 rotate_left
 ·have HE:Hid (R=(some 6,s.next)):=by unfold Hid;rw[HR.out,firstP,if_pos h0]
  go_enter Tryz.func83,Tryz.ntmps83
  go_wp2_with (first|(go_at_call 66;(with_reducible refine(rtk1 E0.out hL h0).mono ?_);rintro _ w1 ⟨rfl,h5,h6⟩;have E1:=hid h5;have C1:=hid (C0.out.trans h6);clear h5 h6))
  go_ret
  exact⟨by rw[HE.out];rfl,by rw[HE.out];exact E1.out,C1.out⟩
 cases h1:isS ⟨#[47]⟩ s
 rotate_left
 ·have HE:Hid (R=(some 7,s.next)):=by unfold Hid;rw[HR.out,firstP,if_neg (by rw[h0];simp),firstP,if_pos h1]
  go_enter Tryz.func83,Tryz.ntmps83
  go_wp2_with (first|(go_at_call 66;(with_reducible refine(rtk1 E1.out hL h1).mono ?_);rintro _ w2 ⟨rfl,h5,h6⟩;have E2:=hid h5;have C2:=hid (C1.out.trans h6);clear h5 h6)|(go_at_call 66;(with_reducible refine(rtk0 E0.out hL h0).mono ?_);rintro _ w1 ⟨rfl,h5,h6⟩;have E1:=hid h5;have C1:=hid (C0.out.trans h6);clear h5 h6))
  go_ret
  exact⟨by rw[HE.out];rfl,by rw[HE.out];exact E2.out,C2.out⟩
 cases h2:isS ⟨#[37]⟩ s
 rotate_left
 ·have HE:Hid (R=(some 8,s.next)):=by unfold Hid;rw[HR.out,firstP,if_neg (by rw[h0];simp),firstP,if_neg (by rw[h1];simp),firstP,if_pos h2]
  go_enter Tryz.func83,Tryz.ntmps83
  go_wp2_with (first|(go_at_call 66;(with_reducible refine(rtk1 E2.out hL h2).mono ?_);rintro _ w3 ⟨rfl,h5,h6⟩;have E3:=hid h5;have C3:=hid (C2.out.trans h6);clear h5 h6)|(go_at_call 66;(with_reducible refine(rtk0 E1.out hL h1).mono ?_);rintro _ w2 ⟨rfl,h5,h6⟩;have E2:=hid h5;have C2:=hid (C1.out.trans h6);clear h5 h6)|(go_at_call 66;(with_reducible refine(rtk0 E0.out hL h0).mono ?_);rintro _ w1 ⟨rfl,h5,h6⟩;have E1:=hid h5;have C1:=hid (C0.out.trans h6);clear h5 h6))
  go_ret
  exact⟨by rw[HE.out];rfl,by rw[HE.out];exact E3.out,C3.out⟩
 have HE:Hid (R=(none,s)):=by unfold Hid;rw[HR.out,firstP,if_neg (by rw[h0];simp),firstP,if_neg (by rw[h1];simp),firstP,if_neg (by rw[h2];simp),firstP]
 go_enter Tryz.func83,Tryz.ntmps83
 go_wp2_with (first|(go_at_call 66;(with_reducible refine(rtk0 E2.out hL h2).mono ?_);rintro _ w3 ⟨rfl,h5,h6⟩;have E3:=hid h5;have C3:=hid (C2.out.trans h6);clear h5 h6)|(go_at_call 66;(with_reducible refine(rtk0 E1.out hL h1).mono ?_);rintro _ w2 ⟨rfl,h5,h6⟩;have E2:=hid h5;have C2:=hid (C1.out.trans h6);clear h5 h6)|(go_at_call 66;(with_reducible refine(rtk0 E0.out hL h0).mono ?_);rintro _ w1 ⟨rfl,h5,h6⟩;have E1:=hid h5;have C1:=hid (C0.out.trans h6);clear h5 h6))
 go_ret
 exact⟨by rw[HE.out];rfl,by rw[HE.out];exact E3.out,C3.out⟩
end
end
section
open Lx (Tk)
section
variable {P c:Nat} {A:Option Addr} {L:List Tk} {w0:World}
theorem drcolumn_any (hL:TkL L) (K:Nat):RX P A c L w0 141 #[.pointer (some ⟨P,0,none⟩)] K colP:=fun w s hp hn=>by
 have HM:Hid (colP s=if isS yDot (takP 1 s).2=true then (colE (takP 1 s).1 (takP 1 (takP 1 s).2.next).1,(takP 1 (takP 1 s).2.next).2)else (colE ⟨#[]⟩ (takP 1 s).1,(takP 1 s).2)):=rfl
 generalize colP s=R at*
 have hz:=hp.tak_size hL 1
 go_enter Tryz.func141,Tryz.ntmps141
 go_upto_region 1 with fail
 generalize hw:World.alloc _ _=w1
 have E:=hid (en_of hp hw)
 obtain⟨g0,hg0⟩:∃g,w.heap.size=g:=⟨_,rfl⟩
 rw[hg0]at E ⊢
 clear hw hp hg0
 generalize hX:(takP 1 s).1=X at*
 generalize hs1:(takP 1 s).2=s1 at*
 go_upto_region 2 with (go_at_call 67;(with_reducible refine(drname_any E.out.ps hL).mono ?_);rintro _ w2 ⟨rfl,h1,h2⟩;rw[hX];rw[hs1]at h1;replace E:=hid (E.out.call h1 h2);clear h1 h2)
 generalize hw:World.alloc _ _=w3
 replace E:=hid (en_alloc E.out hw)
 obtain⟨g1,hg1⟩:∃g,w2.heap.size=g:=⟨_,rfl⟩
 rw[hg1]at E ⊢
 clear hw hg1
 cases hb:isS yDot s1
 ·obtain rfl:R=(colE ⟨#[]⟩ X,s1):=by rw[HM.out,if_neg (by rw[hb];simp)]
  go_wp2_with (first|(go_at_call 66;(with_reducible refine(rtk0 E.out.ps hL hb).mono ?_);rintro _ w4 ⟨rfl,h1,h2⟩;replace E:=hid (E.out.call h1 h2);clear h1 h2)|(refine ldE rfl rfl _ rfl (E.out.get (j:=0) rfl) rfl ?_)|(refine stE rfl rfl rfl _ (eC 2 ⟨#[]⟩ X 0 0 0 ⟨#[]⟩ none 0 0) rfl rfl (E.out.get (j:=1) rfl) rfl rfl (by kernel_rfl) ?_))
  refine bodyPost_ret (v:= .agg ((eC 2 ⟨#[]⟩ X 0 0 0 ⟨#[]⟩ none 0 0)).toArray) (results_cell_row (p:=2) (ty:=37) rfl _ _ g0 37 _ _ _ (by rfl) ((E.out.row (j:=1) rfl (eC 2 ⟨#[]⟩ X 0 0 0 ⟨#[]⟩ none 0 0)).get (j:=1) rfl) Tryz.underlying37 rfl (by kernel_rfl)) rfl ?_
  have F:=E.out.row (j:=1) rfl (eC 2 ⟨#[]⟩ X 0 0 0 ⟨#[]⟩ none 0 0)
  exact⟨none,0,0,rfl,F.ps,F.chg,exS_leaf _ _ (d:=⟨2,⟨#[]⟩,X,0,0,0,⟨#[]⟩⟩) ⟨i64_2,i64_0,i64_0,i64_0,by show 0≤9223372036854775807;omega,by show X.size≤_;omega,by show 0≤9223372036854775807;omega⟩⟩
 ·have hz2:=fun W (hW:PsAt 77 P A c L w0 W s1.next)=>hW.tak_size hL 1
  obtain rfl:R=(colE X (takP 1 s1.next).1,(takP 1 s1.next).2):=by rw[HM.out,if_pos hb]
  generalize hY:(takP 1 s1.next).1=Y at*
  generalize hs2:(takP 1 s1.next).2=s2 at*
  go_upto_region 3 with (go_at_call 66;(with_reducible refine(rtk1 E.out.ps hL hb).mono ?_);rintro _ w4 ⟨rfl,h1,h2⟩;replace hz2:=hz2 _ h1;replace E:=hid (E.out.call h1 h2);clear h1 h2)
  have d2:=(E.out.get (j:=0) rfl).cell_some (i:=2) rfl
  replace E:=hid (E.out.ext (Ext.refl w4).drew)
  go_region_with (go_at_call 67;(with_reducible refine(drname_any E.out.ps hL).mono ?_);rintro _ w5 ⟨rfl,h1,h2⟩;rw[hY];rw[hs2]at h1;replace E:=hid (E.out.call h1 h2);clear h1 h2;obtain⟨-,d1,d2,-⟩:=cls (E.out.get (j:=0) rfl);have k1:=(E.out.get (j:=0) rfl).frozen 1;have k2:=(E.out.get (j:=0) rfl).frozen 2)
  all_goals
   replace E:=hid ((E.out.set (j:=0) rfl 1 (.string X)).set (j:=0) rfl 2 (.string Y))
   go_wp2_with (first|(refine ldE rfl rfl _ rfl (E.out.get (j:=0) rfl) rfl ?_)|(refine stE rfl rfl rfl _ (eC 2 X Y 0 0 0 ⟨#[]⟩ none 0 0) rfl rfl (E.out.get (j:=1) rfl) rfl rfl (by kernel_rfl) ?_))
   refine bodyPost_ret (v:= .agg ((eC 2 X Y 0 0 0 ⟨#[]⟩ none 0 0)).toArray) (results_cell_row (p:=2) (ty:=37) rfl _ _ g0 37 _ _ _ (by rfl) ((E.out.row (j:=1) rfl (eC 2 X Y 0 0 0 ⟨#[]⟩ none 0 0)).get (j:=1) rfl) Tryz.underlying37 rfl (by kernel_rfl)) rfl ?_
   have F:=E.out.row (j:=1) rfl (eC 2 X Y 0 0 0 ⟨#[]⟩ none 0 0)
   exact⟨none,0,0,rfl,F.ps,F.chg,exS_leaf _ _ (d:=⟨2,X,Y,0,0,0,⟨#[]⟩⟩) ⟨i64_2,i64_0,i64_0,i64_0,by show X.size≤_;omega,by show Y.size≤_;omega,by show 0≤9223372036854775807;omega⟩⟩
end
end
section
open Lx (Tk)
section
variable {P c:Nat} {A:Option Addr} {L:List Tk} {w0:World}
theorem drtext_any {w:World} {s:Ps} (hp:PsAt 77 P A c L w0 w s) (hL:TkL L):
  Calls Tryz.prog 135 #[.pointer (some ⟨P,0,none⟩),.int .i64 4] w fun e w'=>e= .returned (.string (takP 4 s).1)∧PsAt 77 P A c L w0 w' (takP 4 s).2∧Chg P w w':=rkind_any hp hL 4 (by omega)
theorem rprim_any (hL:TkL L) {n:Nat} {rec:M Ex} (hr:RX P A c L w0 41 #[.pointer (some ⟨P,0,none⟩),.int .i64 1] n rec):RX P A c L w0 82 #[.pointer (some ⟨P,0,none⟩)] (n+1) (primR rec):=fun w s hp hn=>by
 have HM:Hid (primR rec s=if isS kNULL s then (litE 0 0 ⟨#[]⟩,s.next)
  else if isS kLENGTH s then (opE 9 [(rec (needP yLp s.next)).1],needP yRp (rec (needP yLp s.next)).2)
  else if isS yLp s then ((rec s.next).1,needP yRp (rec s.next).2)
  else if s.hd.kind=3 then (litE 1 (numP s).1 ⟨#[]⟩,(numP s).2)
  else if s.hd.kind=4 then (litE 2 0 (takP 4 s).1,(takP 4 s).2)
  else colP s):=rfl
 generalize primR rec s=R at*
 have hsz:=hp.tak_size hL 4
 have hnl:=hp.num_le hL
 go_enter Tryz.func82,Tryz.ntmps82
 go_upto_region 1 with fail
 generalize hw:World.alloc _ _=w1
 have E:=hid (en_of hp hw)
 obtain⟨g0,hg0⟩:∃g,w.heap.size=g:=⟨_,rfl⟩
 rw[hg0]at E ⊢
 clear hw hp hg0
 go_wp2_with fail
 cases h1x:isS kNULL s
 rotate_left
 ·refine(rtk1 E.out.ps hL h1x).mono ?_
  rintro _ w2 ⟨rfl,h1,h2⟩
  replace E:=hid (E.out.call h1 h2)
  clear h1 h2
  obtain rfl:R=(litE 0 0 ⟨#[]⟩,s.next):=by rw[HM.out,if_pos h1x]
  go_wp2_with (first|(refine stE rfl rfl rfl _ (eC 1 ⟨#[]⟩ ⟨#[]⟩ 0 0 0 ⟨#[]⟩ none 0 0) rfl rfl (E.out.get (j:=0) rfl) rfl rfl (by kernel_rfl) ?_))
  refine bodyPost_ret (v:= .agg ((eC 1 ⟨#[]⟩ ⟨#[]⟩ 0 0 0 ⟨#[]⟩ none 0 0)).toArray) (results_cell_row (p:=2) (ty:=37) rfl _ _ g0 37 _ _ _ (by rfl) ((E.out.row (j:=0) rfl (eC 1 ⟨#[]⟩ ⟨#[]⟩ 0 0 0 ⟨#[]⟩ none 0 0)).get (j:=0) rfl) Tryz.underlying37 rfl (by kernel_rfl)) rfl ?_
  have F:=E.out.row (j:=0) rfl (eC 1 ⟨#[]⟩ ⟨#[]⟩ 0 0 0 ⟨#[]⟩ none 0 0)
  exact⟨none,0,0,rfl,F.ps,F.chg,exS_lit _ _ i64_0 i64_0 (by show 0≤9223372036854775807;omega)⟩
 refine(rtk0 E.out.ps hL h1x).mono ?_
 rintro _ w2 ⟨rfl,h1,h2⟩
 replace E:=hid (E.out.call h1 h2)
 clear h1 h2
 go_wp2_with fail
 cases h2x:isS kLENGTH s
 rotate_left
 ·refine(rtk1 E.out.ps hL h2x).mono ?_
  rintro _ w3 ⟨rfl,h1,h2⟩
  replace E:=hid (E.out.call h1 h2)
  clear h1 h2
  have hln:=isS_len h2x
  have hnd:=need_len yLp s.next
  go_wp2_with fail
  refine(rneed_any E.out.ps hL yLp).mono ?_
  rintro _ w4 ⟨rfl,h1,h2⟩
  replace E:=hid (E.out.call h1 h2)
  clear h1 h2
  obtain⟨op1,ix1,vk1,vi1,tb1,nm1,vt1,ks1,s1,hm1,hc⟩:=hr.at_ E.out.ps (by omega)
  go_wp2_with fail
  refine hc.mono ?_
  rintro _ w5 ⟨A1,k1,c1,rfl,h1,h2,h3⟩
  replace E:=hid (E.out.calls h1 h2 h3)
  clear h1 h2 h3 hc
  obtain rfl:R=(opE 9 [.mk ⟨op1,tb1,nm1,ix1,vk1,vi1,vt1⟩ ks1],needP yRp s1):=by rw[HM.out,if_neg (by rw[h1x];simp),if_pos h2x,hm1]
  go_upto_region 6 with fail
  generalize hw:World.alloc _ _=w6
  replace E:=hid (en_alloc E.out hw)
  obtain⟨g1,hg1⟩:∃g,w5.heap.size=g:=⟨_,rfl⟩
  rw[hg1]at E ⊢
  clear hw hg1
  go_wp2_with fail
  refine(rneed_any E.out.ps hL yRp).mono ?_
  rintro _ w7 ⟨rfl,h1,h2⟩
  replace E:=hid (E.out.call h1 h2)
  clear h1 h2
  go_wp2_with (first|(refine ldE rfl rfl _ rfl (E.out.get (j:=0) rfl) rfl ?_)|(go_at_call 80;(with_reducible refine(dnode_any _ _ _ _ _).mono ?_);rintro _ w8 ⟨rfl,hx⟩;have hs:=exS_op1 (T:=37) (o:=9) (by unfold I64;omega) (⟨E.out.size,fun hm=>by obtain⟨x,hx1,hx2⟩:=List.mem_map.1 hm;have:=(E.out.blk x hx1).lt;have hx2:x.1=w7.heap.size:=hx2;omega⟩:w.heap.size≤w7.heap.size∧w7.heap.size∉_) (E.out.stb.imp fun u h=>h.2);replace E:=hid (E.out.ext (((Ext.refl w7).alloc (.cells #[.int .i64 op1,.string tb1,.string nm1,.int .i64 ix1,.int .i64 vk1,.int .i64 vi1,.string vt1,.slice A1 k1 c1] 37)).trans hx));replace hs:=Stb.ext hs hx)|(refine stE rfl rfl rfl _ (opC 9 (some ⟨w7.heap.size,0,none⟩) 1 1) rfl rfl (E.out.get (j:=1) rfl) rfl rfl (by kernel_rfl) ?_))
  refine bodyPost_ret (v:= .agg ((opC 9 (some ⟨w7.heap.size,0,none⟩) 1 1)).toArray) (results_cell_row (p:=2) (ty:=37) rfl _ _ g0 37 _ _ _ (by rfl) ((E.out.row (j:=1) rfl (opC 9 (some ⟨w7.heap.size,0,none⟩) 1 1)).get (j:=1) rfl) Tryz.underlying37 rfl (by kernel_rfl)) rfl ?_
  have F:=E.out.row (j:=1) rfl (opC 9 (some ⟨w7.heap.size,0,none⟩) 1 1)
  exact⟨some ⟨w7.heap.size,0,none⟩,1,1,rfl,F.ps,F.chg,(({ E.out with stb:=hs } :En _ _ _ _ _ _ _ _ _ _ _).row (j:=1) rfl (opC 9 (some ⟨w7.heap.size,0,none⟩) 1 1)).keep⟩
 refine(rtk0 E.out.ps hL h2x).mono ?_
 rintro _ w3 ⟨rfl,h1,h2⟩
 replace E:=hid (E.out.call h1 h2)
 clear h1 h2
 go_wp2_with fail
 cases h3x:isS yLp s
 rotate_left
 ·refine(rtk1 E.out.ps hL h3x).mono ?_
  rintro _ w4 ⟨rfl,h1,h2⟩
  replace E:=hid (E.out.call h1 h2)
  clear h1 h2
  have hln:=isS_len h3x
  obtain⟨op1,ix1,vk1,vi1,tb1,nm1,vt1,ks1,s1,hm1,hc⟩:=hr.at_ E.out.ps (by omega)
  go_wp2_with fail
  refine hc.mono ?_
  rintro _ w5 ⟨A1,k1,c1,rfl,h1,h2,h3⟩
  replace E:=hid (E.out.calls h1 h2 h3)
  clear h1 h2 h3 hc
  obtain rfl:R=(.mk ⟨op1,tb1,nm1,ix1,vk1,vi1,vt1⟩ ks1,needP yRp s1):=by rw[HM.out,if_neg (by rw[h1x];simp),if_neg (by rw[h2x];simp),if_pos h3x,hm1]
  go_upto_region 10 with fail
  generalize hw:World.alloc _ _=w6
  replace E:=hid (en_alloc E.out hw)
  obtain⟨g1,hg1⟩:∃g,w5.heap.size=g:=⟨_,rfl⟩
  rw[hg1]at E ⊢
  clear hw hg1
  go_wp2_with fail
  refine(rneed_any E.out.ps hL yRp).mono ?_
  rintro _ w7 ⟨rfl,h1,h2⟩
  replace E:=hid (E.out.call h1 h2)
  clear h1 h2
  go_wp2_with (first|(refine ldE rfl rfl _ rfl (E.out.get (j:=0) rfl) rfl ?_)|(refine stE rfl rfl rfl _ (eC op1 tb1 nm1 ix1 vk1 vi1 vt1 A1 k1 c1) rfl rfl (E.out.get (j:=1) rfl) rfl rfl (by kernel_rfl) ?_))
  refine bodyPost_ret (v:= .agg ((eC op1 tb1 nm1 ix1 vk1 vi1 vt1 A1 k1 c1)).toArray) (results_cell_row (p:=2) (ty:=37) rfl _ _ g0 37 _ _ _ (by rfl) ((E.out.row (j:=1) rfl (eC op1 tb1 nm1 ix1 vk1 vi1 vt1 A1 k1 c1)).get (j:=1) rfl) Tryz.underlying37 rfl (by kernel_rfl)) rfl ?_
  have F:=E.out.row (j:=1) rfl (eC op1 tb1 nm1 ix1 vk1 vi1 vt1 A1 k1 c1)
  exact⟨A1,k1,c1,rfl,F.ps,F.chg,F.keep.imp fun u h=>h.2⟩
 refine(rtk0 E.out.ps hL h3x).mono ?_
 rintro _ w4 ⟨rfl,h1,h2⟩
 replace E:=hid (E.out.call h1 h2)
 clear h1 h2
 have hm:=HM.out
 rw[if_neg (by rw[h1x];simp),if_neg (by rw[h2x];simp),if_neg (by rw[h3x];simp)]at hm
 clear HM
 obtain⟨b,off,hA,hb,c0,c1,c2⟩:=E.out.ps.cells
 subst hA
 obtain⟨p0,p1,p2,-⟩:=cls E.out.ps.blk
 have hi:=E.out.ps.lti
 have hl:=hL.len
 generalize L.length-s.r.length=i at*
 have i0:(0:Int)≤(i:Int):=by omega
 have i1:(i:Int)<(L.length:Int):=by omega
 generalize s.hd.kind=K at*
 go_upto_region 12 with fail
 go_region
 replace E:=hid (E.out.ext (Ext.refl w4).drew)
 clear hi hb c0 c1 c2 p0 p1 p2 i0 i1
 by_cases k3:K=3
 ·subst k3
  rw[if_pos rfl]at hm
  subst hm
  generalize hN:(numP s).1=N at*
  go_wp2_with (first|(go_at_call 157;(with_reducible refine(drnumber_any E.out.ps hL).mono ?_);rintro _ w5 ⟨rfl,h1,h2⟩;replace E:=hid (E.out.call h1 h2);clear h1 h2;rw[hN])|(refine stE rfl rfl rfl _ (eC 1 ⟨#[]⟩ ⟨#[]⟩ 0 1 N ⟨#[]⟩ none 0 0) rfl rfl (E.out.get (j:=0) rfl) rfl rfl (by kernel_rfl) ?_))
  refine bodyPost_ret (v:= .agg ((eC 1 ⟨#[]⟩ ⟨#[]⟩ 0 1 N ⟨#[]⟩ none 0 0)).toArray) (results_cell_row (p:=2) (ty:=37) rfl _ _ g0 37 _ _ _ (by rfl) ((E.out.row (j:=0) rfl (eC 1 ⟨#[]⟩ ⟨#[]⟩ 0 1 N ⟨#[]⟩ none 0 0)).get (j:=0) rfl) Tryz.underlying37 rfl (by kernel_rfl)) rfl ?_
  have F:=E.out.row (j:=0) rfl (eC 1 ⟨#[]⟩ ⟨#[]⟩ 0 1 N ⟨#[]⟩ none 0 0)
  exact⟨none,0,0,rfl,F.ps,F.chg,exS_lit _ _ i64_1 (by unfold I64;omega) (by show 0≤9223372036854775807;omega)⟩
 rw[if_neg k3]at hm
 have d3:((K:Int)==3)=false:=by simp;omega
 by_cases k4:K=4
 ·subst k4
  rw[if_pos rfl]at hm
  subst hm
  generalize hX:(takP 4 s).1=X at*
  go_wp2_with (first|(go_at_call 135;(with_reducible refine(drtext_any E.out.ps hL).mono ?_);rintro _ w5 ⟨rfl,h1,h2⟩;replace E:=hid (E.out.call h1 h2);clear h1 h2;rw[hX])|(refine stE rfl rfl rfl _ (eC 1 ⟨#[]⟩ ⟨#[]⟩ 0 2 0 X none 0 0) rfl rfl (E.out.get (j:=0) rfl) rfl rfl (by kernel_rfl) ?_))
  refine bodyPost_ret (v:= .agg ((eC 1 ⟨#[]⟩ ⟨#[]⟩ 0 2 0 X none 0 0)).toArray) (results_cell_row (p:=2) (ty:=37) rfl _ _ g0 37 _ _ _ (by rfl) ((E.out.row (j:=0) rfl (eC 1 ⟨#[]⟩ ⟨#[]⟩ 0 2 0 X none 0 0)).get (j:=0) rfl) Tryz.underlying37 rfl (by kernel_rfl)) rfl ?_
  have F:=E.out.row (j:=0) rfl (eC 1 ⟨#[]⟩ ⟨#[]⟩ 0 2 0 X none 0 0)
  exact⟨none,0,0,rfl,F.ps,F.chg,exS_lit _ _ i64_2 i64_0 (by omega)⟩
 rw[if_neg k4]at hm
 have d4:((K:Int)==4)=false:=by simp;omega
 obtain⟨op1,ix1,vk1,vi1,tb1,nm1,vt1,ks1,s1,hm1,hc⟩:=(drcolumn_any hL (s.r.length+1)).at_ E.out.ps (Nat.lt_succ_self _)
 rw[hm1]at hm
 subst hm
 go_wp2_with (first|(go_at_call 141;(with_reducible refine hc.mono ?_);rintro _ w5 ⟨A1,k1,c1,rfl,h1,h2,h3⟩;replace E:=hid (E.out.calls h1 h2 h3);clear h1 h2 h3 hc)|(refine stE rfl rfl rfl _ (eC op1 tb1 nm1 ix1 vk1 vi1 vt1 A1 k1 c1) rfl rfl (E.out.get (j:=0) rfl) rfl rfl (by kernel_rfl) ?_))
 refine bodyPost_ret (v:= .agg ((eC op1 tb1 nm1 ix1 vk1 vi1 vt1 A1 k1 c1)).toArray) (results_cell_row (p:=2) (ty:=37) rfl _ _ g0 37 _ _ _ (by rfl) ((E.out.row (j:=0) rfl (eC op1 tb1 nm1 ix1 vk1 vi1 vt1 A1 k1 c1)).get (j:=0) rfl) Tryz.underlying37 rfl (by kernel_rfl)) rfl ?_
 have F:=E.out.row (j:=0) rfl (eC op1 tb1 nm1 ix1 vk1 vi1 vt1 A1 k1 c1)
 exact⟨A1,k1,c1,rfl,F.ps,F.chg,F.keep.imp fun u h=>h.2⟩
end
end
section
open Lx (Tk)
def chR (el:M Ex) (ops:List (ByteArray×Int)) (n:Nat) (e:Ex):Option Int→Ps→Ex×Ps
 |none,st=> (e,st)
 |some o,st=>chainGo el ops n (opE o [e,(el st).1]) (el st).2
theorem chR_succ (el:M Ex) (ops:List (ByteArray×Int)) (n:Nat) (e:Ex) (s:Ps):chainGo el ops (n+1) e s=chR el ops n e (firstP ops s).1 (firstP ops s).2:=by
 rw[chainGo]
 cases h:(firstP ops s).1 with
 |none=>rw[first_none ops s h];rfl
 |some o=>rfl
def posO (P:Nat) (w:World):Nat:=match w.cell? ⟨P,1,none⟩with
 |some v=> (intOf v).toNat
 |none=>0
theorem PsAt.posO {T P c:Nat} {A:Option Addr} {L:List Tk} {w0 w:World} {s:Ps} (h:PsAt T P A c L w0 w s):posO P w=L.length-s.r.length:=by
 have:=h.blk.cell_some (i:=1) rfl
 unfold Go.Proofs.YtjigcpfjhfoheaaGreatDoor.posO
 rw[this]
 simp[intOf]
section
variable {P c:Nat} {A:Option Addr} {L:List Tk} {w0:World}
theorem rchain_any (hL:TkL L) {K:Nat} {el:M Ex} {l:Int} {ops:List (ByteArray×Int)} (h0:1≤l∧l≤6) (h3:l≠3) (hops:∀x∈ops,x.2≠0∧I64 x.2) (hfw:Fwd el) (hr:RX P A c L w0 41 #[.pointer (some ⟨P,0,none⟩),.int .i64 (l+1)] K el)
  (hbin:∀(w:World) (s:Ps),PsAt 77 P A c L w0 w s→Calls Tryz.prog 83 #[.pointer (some ⟨P,0,none⟩),.int .i64 l] w fun e w'=>e= .returned (.int .i64 ((firstP ops s).1.getD 0))∧PsAt 77 P A c L w0 w' (firstP ops s).2∧Chg P w w'):RX P A c L w0 41 #[.pointer (some ⟨P,0,none⟩),.int .i64 l] K (chainP el ops):=fun w s hp hn=>by
 have HM:Hid (chainP el ops s=chainGo el ops (s.r.length+1) (el s).1 (el s).2):=rfl
 generalize chainP el ops s=R at*
 have hfs:=hfw s
 have d3:(l==3)=false:=by simpa using h3
 have d7:(l==7)=false:=by simp;omega
 obtain⟨h01,h02⟩:=h0
 go_enter Tryz.func41,Tryz.ntmps41
 go_upto_region 1 with fail
 generalize hw:World.alloc _ _=w1
 have E:=hid (en_of hp hw)
 obtain⟨g0,hg0⟩:∃g,w.heap.size=g:=⟨_,rfl⟩
 rw[hg0]at E ⊢
 clear hw hp hg0
 obtain⟨op1,ix1,vk1,vi1,tb1,nm1,vt1,ks1,s1,hm1,hc⟩:=hr.at_ E.out.ps (hn)
 go_wp2_with fail
 refine hc.mono ?_
 rintro _ w2 ⟨A1,k1,c1,rfl,h1,h2,h3⟩
 replace E:=hid (E.out.calls h1 h2 h3)
 clear h1 h2 h3 hc
 rw[hm1,chR_succ]at HM
 rw[hm1]at hfs
 go_upto_region 12 with fail
 generalize hw:World.alloc _ _=w3
 replace E:=hid (en_alloc E.out hw)
 obtain⟨g1,hg1⟩:∃g,w2.heap.size=g:=⟨_,rfl⟩
 rw[hg1]at E ⊢
 clear hw hg1
 go_wp2_with fail
 refine(hbin _ _ E.out.ps).mono ?_
 rintro _ w4 ⟨rfl,h1,h2⟩
 replace E:=hid (E.out.call h1 h2)
 clear h1 h2
 go_wp2_with fail
 have hfl:=first_len ops s1
 have hfm:=first_mem ops s1
 try simp only at hfs
 generalize (firstP ops s1).1=r1 at*
 generalize (firstP ops s1).2=t1 at*
 go_loopw [7] (fun ov wr=> ∃(n:Nat) (r:Option Int) (st:Ps) (op1 ix1 vk1 vi1:Int) (tb1 nm1 vt1:ByteArray) (ks1:List Ex) (A1:Option Addr) (k1 c1:Nat),ov= .int .i64 (r.getD 0)∧(∀o,r=some o→∃t,(t,o)∈ops)∧R=chR el ops n (.mk ⟨op1,tb1,nm1,ix1,vk1,vi1,vt1⟩ ks1) r st∧(r≠none→st.r.length<n)∧st.r.length≤s.r.length∧En 77 P A c L w0 w wr st [(g1,37,(eC op1 tb1 nm1 ix1 vk1 vi1 vt1 A1 k1 c1)),(g0,37,zC)] (fun u=>ExV u (.mk ⟨op1,tb1,nm1,ix1,vk1,vi1,vt1⟩ ks1) A1 k1 c1)) (fun ov wr=>2* (20001-posO P wr)+(if intOf ov=0 then 0 else 1))
 case atStart=>exact⟨_,r1,t1,_,_,_,_,_,_,_,_,_,_,_,rfl,fun o ho=>hfm o ho,HM.out,fun hne=>by have:=hfl.2 (by cases r1<;>simp at hne ⊢);omega,by have:=hfl.1;omega,E.out.imp fun u h=>h.2⟩
 case round=>
  clear E HM hfl hfm hfs
  obtain⟨n,r,st,op1,ix1,vk1,vi1,tb1,nm1,vt1,ks1,A1,k1,c1,rfl,hro,hR,hln,hls,E⟩:=hrel
  replace E:=hid E
  replace hR:=hid hR
  generalize wr=w20 at*
  cases r with
  |none=>
   obtain rfl:R=(.mk ⟨op1,tb1,nm1,ix1,vk1,vi1,vt1⟩ ks1,st):=hR.out
   go_wp2_with (first|(refine ldE rfl rfl _ rfl (E.out.get (j:=0) rfl) rfl ?_)|(refine stE rfl rfl rfl _ (eC op1 tb1 nm1 ix1 vk1 vi1 vt1 A1 k1 c1) rfl rfl (E.out.get (j:=1) rfl) rfl rfl (by kernel_rfl) ?_))
   refine bodyPost_ret (v:= .agg ((eC op1 tb1 nm1 ix1 vk1 vi1 vt1 A1 k1 c1)).toArray) (results_cell_row (p:=4) (ty:=37) rfl _ _ g0 37 _ _ _ (by rfl) ((E.out.row (j:=1) rfl (eC op1 tb1 nm1 ix1 vk1 vi1 vt1 A1 k1 c1)).get (j:=1) rfl) Tryz.underlying37 rfl (by kernel_rfl)) rfl ?_
   have F:=E.out.row (j:=1) rfl (eC op1 tb1 nm1 ix1 vk1 vi1 vt1 A1 k1 c1)
   exact⟨A1,k1,c1,rfl,F.ps,F.chg,F.keep⟩
  |some o=>
   obtain⟨t,ht⟩:=hro o rfl
   obtain⟨ho,ho64⟩:=hops _ ht
   simp only at ho ho64
   have hd:(o !=0)=true:=by simpa using ho
   have hlt:=hln (by simp)
   simp only[Option.getD_some]
   have hL0:=E.out.ps.le
   have HPos:Hid (posO P w20=L.length-st.r.length):=E.out.ps.posO
   go_upto_region 15 with fail
   obtain⟨b0,b1,b2,b3,b4,b5,b6,b7⟩:=cells8 (E.out.get (j:=0) rfl)
   replace E:=hid (E.out.ext (Ext.refl w20).drew)
   obtain⟨op2,ix2,vk2,vi2,tb2,nm2,vt2,ks2,s3,hm2,hc⟩:=hr.at_ E.out.ps (by omega)
   have hfs:=hfw st
   rw[hm2]at hfs
   try simp only at hfs
   go_region_law (first
    |(go_simp;go_at_call 80;(with_reducible refine(dnode_any _ _ _ _ _).mono ?_);rintro _ w22 ⟨rfl,hx⟩;replace E:=hid (E.out.op2 (fun u h=>h.1) (fun u h=>h.2) ho64 hx);obtain⟨z0,z1,z2,z3,z4,z5,z6,z7⟩:=cells8 (E.out.get (j:=0) rfl);obtain⟨y0,y1,y2,y3,y4,y5,y6,y7⟩:=froz8 (E.out.get (j:=0) rfl))
    |(go_simp;go_at_call 41;(with_reducible refine hc.mono ?_);rintro _ w21 ⟨A2,k2,c2,rfl,h1,h2,h3⟩;replace E:=hid (E.out.calls h1 h2 h3);clear h1 h2 h3;obtain⟨d0,d1,d2,d3,d4,d5,d6,d7⟩:=cells8 (E.out.get (j:=0) rfl)))
   all_goals
    replace E:=hid (E.out.stc (j:=0) rfl (opC o (some ⟨w21.heap.size,0,none⟩) 2 2) rfl)
    simp only[opC,sts]at E
    go_wp2_with fail
    refine(hbin _ _ E.out.ps).mono ?_
    rintro _ w23 ⟨rfl,h1,h2⟩
    replace E:=hid (E.out.call h1 h2)
    clear h1 h2
    have HP2:Hid (posO P w23=L.length- (firstP ops s3).2.r.length):=E.out.ps.posO
    obtain⟨n,rfl⟩:∃x,n=x+1:=⟨n-1,by omega⟩
    have hR2:R=chR el ops n (opE o [.mk ⟨op1,tb1,nm1,ix1,vk1,vi1,vt1⟩ ks1,.mk ⟨op2,tb2,nm2,ix2,vk2,vi2,vt2⟩ ks2]) (firstP ops s3).1 (firstP ops s3).2:=by rw[hR.out,chR,hm2,chR_succ]
    have hfl:=first_len ops s3
    have hfm:=first_mem ops s3
    have hL1:=E.out.ps.le
    have hL2:=hL.len
    generalize (firstP ops s3).1=r at*
    generalize (firstP ops s3).2=t3 at*
    go_wp2_with fail
    refine⟨⟨n,r,t3,o,0,0,0,⟨#[]⟩,⟨#[]⟩,⟨#[]⟩,_,_,2,2,rfl,fun o ho=>hfm o ho,hR2,fun hne=>by have:=hfl.2 (by cases r<;>simp at hne ⊢);omega,by have:=hfl.1;omega,E.out⟩,?_⟩
    rw[HP2.out,HPos.out]
    rw[if_neg (show¬intOf (.int .i64 o)=0 from ho)]
    cases r with
    |none=>
     rw[if_pos (show intOf (.int .i64 ((none:Option Int).getD 0))=0 from rfl)]
     have:=hfl.1
     omega
    |some q=>
     have:=hfl.2 rfl
     split<;>omega
theorem runa_any (hL:TkL L) {K:Nat} {p:M Ex} (hr:RX P A c L w0 82 #[.pointer (some ⟨P,0,none⟩)] K p):RX P A c L w0 41 #[.pointer (some ⟨P,0,none⟩),.int .i64 7] K (unaP p):=fun w s hp hn=>by
 have HM:Hid (unaP p s=if isS yMinus s then (opE 3 [(p s.next).1],(p s.next).2)else p s):=rfl
 generalize unaP p s=R at*
 go_enter Tryz.func41,Tryz.ntmps41
 go_upto_region 1 with fail
 generalize hw:World.alloc _ _=w1
 have E:=hid (en_of hp hw)
 obtain⟨g0,hg0⟩:∃g,w.heap.size=g:=⟨_,rfl⟩
 rw[hg0]at E ⊢
 clear hw hp hg0
 go_wp2_with fail
 cases h1x:isS yMinus s
 rotate_left
 ·refine(rtk1 E.out.ps hL h1x).mono ?_
  rintro _ w2 ⟨rfl,h1,h2⟩
  replace E:=hid (E.out.call h1 h2)
  clear h1 h2
  have hln:=isS_len h1x
  obtain⟨op1,ix1,vk1,vi1,tb1,nm1,vt1,ks1,s1,hm1,hc⟩:=hr.at_ E.out.ps (by omega)
  obtain rfl:R=(opE 3 [.mk ⟨op1,tb1,nm1,ix1,vk1,vi1,vt1⟩ ks1],s1):=by rw[HM.out,if_pos h1x,hm1]
  go_wp2_with (first|(go_at_call 82;(with_reducible refine hc.mono ?_);rintro _ w3 ⟨A1,k1,c1,rfl,h1,h2,h3⟩;replace E:=hid (E.out.calls h1 h2 h3);clear h1 h2 h3)|(go_at_call 80;(with_reducible refine(dnode_any _ _ _ _ _).mono ?_);rintro _ w4 ⟨rfl,hx⟩;replace E:=hid (E.out.op1 (o:=3) (fun u h=>h.2) (by unfold I64;omega) hx))|(refine stE rfl rfl rfl _ (opC 3 (some ⟨w3.heap.size,0,none⟩) 1 1) rfl rfl (E.out.get (j:=0) rfl) rfl rfl (by kernel_rfl) ?_))
  refine bodyPost_ret (v:= .agg ((opC 3 (some ⟨w3.heap.size,0,none⟩) 1 1)).toArray) (results_cell_row (p:=4) (ty:=37) rfl _ _ g0 37 _ _ _ (by rfl) ((E.out.row (j:=0) rfl (opC 3 (some ⟨w3.heap.size,0,none⟩) 1 1)).get (j:=0) rfl) Tryz.underlying37 rfl (by kernel_rfl)) rfl ?_
  have F:=E.out.row (j:=0) rfl (opC 3 (some ⟨w3.heap.size,0,none⟩) 1 1)
  exact⟨some ⟨w3.heap.size,0,none⟩,1,1,rfl,F.ps,F.chg,F.keep⟩
 refine(rtk0 E.out.ps hL h1x).mono ?_
 rintro _ w2 ⟨rfl,h1,h2⟩
 replace E:=hid (E.out.call h1 h2)
 clear h1 h2
 obtain⟨op1,ix1,vk1,vi1,tb1,nm1,vt1,ks1,s1,hm1,hc⟩:=hr.at_ E.out.ps (by omega)
 obtain rfl:R=(.mk ⟨op1,tb1,nm1,ix1,vk1,vi1,vt1⟩ ks1,s1):=by rw[HM.out,if_neg (by rw[h1x];simp),hm1]
 go_wp2_with (first|(go_at_call 82;(with_reducible refine hc.mono ?_);rintro _ w3 ⟨A1,k1,c1,rfl,h1,h2,h3⟩;replace E:=hid (E.out.calls h1 h2 h3);clear h1 h2 h3)|(refine stE rfl rfl rfl _ (eC op1 tb1 nm1 ix1 vk1 vi1 vt1 A1 k1 c1) rfl rfl (E.out.get (j:=0) rfl) rfl rfl (by kernel_rfl) ?_))
 refine bodyPost_ret (v:= .agg ((eC op1 tb1 nm1 ix1 vk1 vi1 vt1 A1 k1 c1)).toArray) (results_cell_row (p:=4) (ty:=37) rfl _ _ g0 37 _ _ _ (by rfl) ((E.out.row (j:=0) rfl (eC op1 tb1 nm1 ix1 vk1 vi1 vt1 A1 k1 c1)).get (j:=0) rfl) Tryz.underlying37 rfl (by kernel_rfl)) rfl ?_
 have F:=E.out.row (j:=0) rfl (eC op1 tb1 nm1 ix1 vk1 vi1 vt1 A1 k1 c1)
 exact⟨A1,k1,c1,rfl,F.ps,F.chg,F.keep.imp fun u h=>h.2⟩
theorem notP_eq (p:M Ex) (hf:Fwd p) (s:Ps):notP p s=if isS kNOT s then (opE 20 [(notP p s.next).1],(notP p s.next).2)else testP p s:=by
 unfold notP
 by_cases hi:isS kNOT s=true
 ·have hl:=isS_len hi
  rw[←hl,notGo,if_pos hi]
 ·rw[if_neg hi]
  cases s.r.length with
  |zero=>rfl
  |succ n=>rw[notGo,if_neg hi]
theorem rnot_any (hL:TkL L) {K:Nat} {p:M Ex} (hf:Fwd p) (ht:RX P A c L w0 81 #[.pointer (some ⟨P,0,none⟩)] K (testP p)):∀k,k≤K→RX P A c L w0 41 #[.pointer (some ⟨P,0,none⟩),.int .i64 3] k (notP p)
 |0,_=>fun _ _ _ h=>absurd h (Nat.not_lt_zero _)
 |k+1,hk=>fun w s hp hn=>by
  have hr:=rnot_any hL hf ht k (by omega)
  have HM:=hid (notP_eq p hf s)
  generalize notP p s=R at*
  go_enter Tryz.func41,Tryz.ntmps41
  go_upto_region 1 with fail
  generalize hw:World.alloc _ _=w1
  have E:=hid (en_of hp hw)
  obtain⟨g0,hg0⟩:∃g,w.heap.size=g:=⟨_,rfl⟩
  rw[hg0]at E ⊢
  clear hw hp hg0
  go_wp2_with fail
  cases h1x:isS kNOT s
  rotate_left
  ·refine(rtk1 E.out.ps hL h1x).mono ?_
   rintro _ w2 ⟨rfl,h1,h2⟩
   replace E:=hid (E.out.call h1 h2)
   clear h1 h2
   have hln:=isS_len h1x
   obtain⟨op1,ix1,vk1,vi1,tb1,nm1,vt1,ks1,s1,hm1,hc⟩:=hr.at_ E.out.ps (by omega)
   obtain rfl:R=(opE 20 [.mk ⟨op1,tb1,nm1,ix1,vk1,vi1,vt1⟩ ks1],s1):=by rw[HM.out,if_pos h1x,hm1]
   go_wp2_with (first|(go_at_call 41;(with_reducible refine hc.mono ?_);rintro _ w3 ⟨A1,k1,c1,rfl,h1,h2,h3⟩;replace E:=hid (E.out.calls h1 h2 h3);clear h1 h2 h3)|(go_at_call 80;(with_reducible refine(dnode_any _ _ _ _ _).mono ?_);rintro _ w4 ⟨rfl,hx⟩;replace E:=hid (E.out.op1 (o:=20) (fun u h=>h.2) (by unfold I64;omega) hx))|(refine stE rfl rfl rfl _ (opC 20 (some ⟨w3.heap.size,0,none⟩) 1 1) rfl rfl (E.out.get (j:=0) rfl) rfl rfl (by kernel_rfl) ?_))
   refine bodyPost_ret (v:= .agg ((opC 20 (some ⟨w3.heap.size,0,none⟩) 1 1)).toArray) (results_cell_row (p:=4) (ty:=37) rfl _ _ g0 37 _ _ _ (by rfl) ((E.out.row (j:=0) rfl (opC 20 (some ⟨w3.heap.size,0,none⟩) 1 1)).get (j:=0) rfl) Tryz.underlying37 rfl (by kernel_rfl)) rfl ?_
   have F:=E.out.row (j:=0) rfl (opC 20 (some ⟨w3.heap.size,0,none⟩) 1 1)
   exact⟨some ⟨w3.heap.size,0,none⟩,1,1,rfl,F.ps,F.chg,F.keep⟩
  refine(rtk0 E.out.ps hL h1x).mono ?_
  rintro _ w2 ⟨rfl,h1,h2⟩
  replace E:=hid (E.out.call h1 h2)
  clear h1 h2
  obtain⟨op1,ix1,vk1,vi1,tb1,nm1,vt1,ks1,s1,hm1,hc⟩:=ht.at_ E.out.ps (by omega)
  obtain rfl:R=(.mk ⟨op1,tb1,nm1,ix1,vk1,vi1,vt1⟩ ks1,s1):=by rw[HM.out,if_neg (by rw[h1x];simp),hm1]
  go_wp2_with (first|(go_at_call 81;(with_reducible refine hc.mono ?_);rintro _ w3 ⟨A1,k1,c1,rfl,h1,h2,h3⟩;replace E:=hid (E.out.calls h1 h2 h3);clear h1 h2 h3)|(refine stE rfl rfl rfl _ (eC op1 tb1 nm1 ix1 vk1 vi1 vt1 A1 k1 c1) rfl rfl (E.out.get (j:=0) rfl) rfl rfl (by kernel_rfl) ?_))
  refine bodyPost_ret (v:= .agg ((eC op1 tb1 nm1 ix1 vk1 vi1 vt1 A1 k1 c1)).toArray) (results_cell_row (p:=4) (ty:=37) rfl _ _ g0 37 _ _ _ (by rfl) ((E.out.row (j:=0) rfl (eC op1 tb1 nm1 ix1 vk1 vi1 vt1 A1 k1 c1)).get (j:=0) rfl) Tryz.underlying37 rfl (by kernel_rfl)) rfl ?_
  have F:=E.out.row (j:=0) rfl (eC op1 tb1 nm1 ix1 vk1 vi1 vt1 A1 k1 c1)
  exact⟨A1,k1,c1,rfl,F.ps,F.chg,F.keep.imp fun u h=>h.2⟩
end
end
end Go.Proofs.YtjigcpfjhfoheaaGreatDoor
