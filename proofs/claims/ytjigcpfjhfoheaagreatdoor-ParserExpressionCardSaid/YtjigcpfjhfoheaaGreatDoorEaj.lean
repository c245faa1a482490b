/- Walks: ValidExpr, the program's and the reference's; Walks: numbers and texts written; Walks: expr and plain, the canonical text; Walks: plain, a binary operator; Walks: plain, the other operators; the canonical text of a well-for. -/
import Derived.Test.YtjigcpfjhfoheaaGreatDoorEai
import Derived.WalkSmall
import Derived.Deep.Cut
import Derived.Deep.WholeRow
import Derived.Great.BuildSlice
import Derived.Great.Walk
import Derived.IntWalk
namespace Go.Proofs.YtjigcpfjhfoheaaGreatDoor
open Go.RowKit
set_option maxHeartbeats 4000000
set_option maxRecDepth 100000
set_option linter.unusedVariables false
set_option linter.unusedSimpArgs false
theorem kids_blk {w:World} {g t:Nat} {e:Ex} {A:Option Addr} {n c:Nat} (hb:Blk w g t (e.d.cells A n c)) (hv:ExV w e A n c):KidsAt w (some ⟨g,0,none⟩) [e]:=by
 unfold KidsAt
 rw[exsAt_iff]
 intro j x hx
 cases j with
 |zero=>
  simp at hx
  subst hx
  refine⟨e.d.cells A n c,⟨g,0,rfl,fun j v hj=>?_⟩,?_⟩
  ·rw[show 0+(0+0)*8+j=j by omega]
   exact hb.cell_some hj
  ·obtain⟨d,ks⟩:=e
   rw[ExC]
   have h1:=hv.len
   have h1:ks.length=n:=h1
   subst h1
   exact⟨hv.fit,hv.le,A,c,rfl,hv.kids⟩
 |succ j=>simp at hx
def largeB (l:List Ex):Bool:=decide (400<nodesL l)||l.any fun e=>decide (50<e.depth)
theorem ent69:Ent 112:=fun _ _=>by kernel_rfl
theorem large1 (x:Ex) (A:Option Addr) (n c:Nat) (w:World) (hv:ExV w x A n c) (hm:x.nodes≤100000000):
  Calls Tryz.prog 112 #[x.d.val A n c] w fun r w'=>r= .returned (.bool (decide (50<x.depth)))∧Ext w w':=by
 have H:=hid (fun W (hW:Ext w W)=>depth_any x A n c W (hv.ext hW) hm)
 have hdl:x.depth≤100000000:=Nat.le_trans ((depthL_le [x]).2 x (by simp)) hm
 clear hv hm
 unfold Nd.val at*
 generalize x.depth=D at*
 by_cases h5:50<D
 ·have b:decide ((50:Int)<(D:Int))=true:=by simp;omega
  have HR:=hid (show decide (50<D)=true by simpa using h5)
  clear h5
  go_enter Tryz.func112,Tryz.ntmps112
  go_wp2_with (go_at_call 113;refine(H.out _ ((Ext.refl w).alloc _)).mono ?_;rintro _ w2 ⟨rfl,hx2⟩)
  go_ret
  exact⟨ret_bool HR.out.symm,((Ext.refl w).alloc _).trans hx2⟩
 ·have b:decide ((50:Int)<(D:Int))=false:=by simp;omega
  have HR:=hid (show decide (50<D)=false by simpa using h5)
  clear h5
  go_enter Tryz.func112,Tryz.ntmps112
  go_wp2_with (go_at_call 113;refine(H.out _ ((Ext.refl w).alloc _)).mono ?_;rintro _ w2 ⟨rfl,hx2⟩)
  go_ret
  exact⟨ret_bool HR.out.symm,((Ext.refl w).alloc _).trans hx2⟩
theorem large_any (l:List Ex) (A:Option Addr) (n c:Nat) (w:World) (hl:l.length=n) (hn:n≤9223372036854775807) (hk:KidsAt w A l):
  Calls Tryz.prog 62 #[.slice A n c] w fun r w'=>r= .returned (.bool (largeB l))∧Ext w w':=by
 have HC:=hid (counted_any (sizeL l) l A n c 400 w (Nat.le_refl _) hl hn hk (by omega))
 have HD:Hid (largeB l=(decide (400<nodesL l)||l.any fun e=>decide (50<e.depth))):=rfl
 by_cases h4:400<nodesL l
 ·have hmin:min (nodesL l) (400+1)=401:=by omega
  rw[hmin]at HC
  have HR:Hid (largeB l=true):=by unfold Hid;rw[HD.out];simp[h4]
  clear h4 hmin HD hk hl
  go_enter Tryz.func62,Tryz.ntmps62
  go_wp2_with (go_at_call 110;refine HC.out.mono ?_;rintro _ w2 ⟨rfl,hx2⟩)
  go_ret
  exact⟨ret_bool HR.out.symm,hx2⟩
 ·have hmin:min (nodesL l) (400+1)=nodesL l:=by omega
  rw[hmin]at HC
  have HR:Hid (largeB l=l.any fun e=>decide (50<e.depth)):=by unfold Hid;rw[HD.out];simp[h4]
  have HF:Hid (∀W,Ext w W→Calls Tryz.prog 111 #[.slice A n c,.func (Fn.func 112) #[] #[]] W fun r w'=>r= .returned (.bool (l.any fun e=>decide (50<e.depth)))∧Ext W w'):=by
   intro W hW
   refine contains_ex 112 ent69 _ l A n c W hl hn (hk.ext hW) ?_
   intro x hx A' n' c' W' hW' hxv
   exact large1 x A' n' c' W' hxv (by have:=nodes_mem hx;omega)
  have b:decide ((400:Int)<((nodesL l:Nat):Int))=false:=by simp;omega
  generalize (l.any fun e=>decide (50<e.depth))=B at*
  generalize nodesL l=M at*
  clear h4 hmin HD hk hl
  go_enter Tryz.func62,Tryz.ntmps62
  go_wp2_with (first|(go_at_call 110;refine HC.out.mono ?_;rintro _ w2 ⟨rfl,hx2⟩)|(go_at_call 111;refine(HF.out _ hx2).mono ?_;rintro _ w3 ⟨rfl,hx3⟩))
  go_ret
  exact⟨ret_bool HR.out.symm,hx2.trans hx3⟩
def validE (e:Ex):Int:=if largeB [e]=true then 3 else if e.formed=true then 0 else 1
theorem large_one (e:Ex):largeB [e]=(decide (400<e.nodes)||decide (50<e.depth)):=by
 unfold largeB
 rw[nodesL,nodesL]
 simp
theorem valid_any (e:Ex) (A:Option Addr) (n c:Nat) (w:World) (hv:ExV w e A n c) (hw:Sh w):
  Calls Tryz.prog 40 #[e.d.val A n c] w fun r w'=>r= .returned (.int .i64 (validE e))∧Ext w w':=by
 have HE:Hid (validE e=if largeB [e]=true then 3 else if e.formed=true then 0 else 1):=rfl
 have HL:Hid (∀W g,Ext w W→Blk W g 37 (e.d.cells A n c)→Calls Tryz.prog 62 #[.slice (some ⟨g,0,none⟩) 1 1] W fun r w'=>r= .returned (.bool (largeB [e]))∧Ext W w'):=
  fun W g hW hb=>large_any [e] _ 1 1 W rfl (by omega) (kids_blk hb (hv.ext hW))
 have HF:=hid (fun W (hW:Ext w W)=>formed_any e A n c W (hv.ext hW) (hw.ext hW))
 clear hv hw
 have hb:=Blk.of_new (w.alloc (.cells (e.d.cells A n c).toArray 37)) 37 (e.d.cells A n c)
 rw[show(w.alloc (.cells (e.d.cells A n c).toArray 37)).heap.size=w.heap.size+1 by simp]at hb
 have HB:=hid hb
 clear hb
 have HB0:=hid (Blk.of_new w 37 (e.d.cells A n c))
 have HX:=hid ((((Ext.refl w).alloc (.cells (e.d.cells A n c).toArray 37))).alloc (.cells (e.d.cells A n c).toArray 37))
 have HX1:=hid (((Ext.refl (w.alloc (.cells (e.d.cells A n c).toArray 37))).alloc (.cells (e.d.cells A n c).toArray 37)))
 unfold Nd.val at*
 unfold Nd.cells at*
 generalize validE e=R at*
 generalize largeB [e]=Z at*
 generalize e.formed=Y at*
 generalize e.d=d at*
 obtain⟨op,tb,nm,ix,vk,vi,vt⟩:=d
 simp only at*
 cases Z
 ·cases Y
  all_goals
   go_enter Tryz.func40,Tryz.ntmps40
   go_wp2_with (first|(go_at_call 62;refine(HL.out _ _ HX.out HB.out).mono ?_;rintro _ w2 ⟨rfl,hx2⟩;have hb2:=(HB0.out.ext HX1.out).ext hx2;obtain⟨c0,c1,c2,c3,c4,c5,c6,c7,-⟩:=cls hb2;clear hb2)|(go_at_call 79;refine(HF.out _ (HX.out.trans hx2)).mono ?_;rintro _ w3 ⟨rfl,hx3⟩))
   go_ret
   exact⟨ret_int (by rw[HE.out];rfl),(HX.out.trans hx2).trans hx3⟩
 ·go_enter Tryz.func40,Tryz.ntmps40
  go_wp2_with (go_at_call 62;refine(HL.out _ _ HX.out HB.out).mono ?_;rintro _ w2 ⟨rfl,hx2⟩)
  go_ret
  exact⟨ret_int (by rw[HE.out];rfl),HX.out.trans hx2⟩
theorem rvalid_any (e:Ex) (A:Option Addr) (n c:Nat) (w:World) (hv:ExV w e A n c):
  Calls Tryz.prog 42 #[e.d.val A n c] w fun r w'=>r= .returned (.int .i64 (validE e))∧Ext w w':=by
 have HE:Hid (validE e=if largeB [e]=true then 3 else if e.formed=true then 0 else 1):=rfl
 have HLE:=hid (large_one e)
 have HC:=hid (fun W (hW:Ext w W)=>upto_any e A n c 400 W (hv.ext hW) (by omega))
 have HF:=hid (fun W (hW:Ext w W)=>rformed_any e A n c W (hv.ext hW))
 have HB0:=hid (Blk.of_new w 37 (e.d.cells A n c))
 have HX:=hid ((Ext.refl w).alloc (.cells (e.d.cells A n c).toArray 37))
 by_cases h4:400<e.nodes
 ·have hmin:min e.nodes (400+1)=401:=by omega
  rw[hmin]at HC
  have HR:Hid (validE e=3):=by unfold Hid;rw[HE.out,HLE.out];simp[h4]
  clear hv HE HLE hmin h4
  unfold Nd.val at*
  unfold Nd.cells at*
  generalize validE e=R at*
  generalize e.formed=Y at*
  generalize e.d=d at*
  obtain⟨op,tb,nm,ix,vk,vi,vt⟩:=d
  simp only at*
  go_enter Tryz.func42,Tryz.ntmps42
  go_wp2_with (go_at_call 73;refine(HC.out _ HX.out).mono ?_;rintro _ w2 ⟨rfl,hx2⟩)
  go_ret
  exact⟨ret_int HR.out.symm,HX.out.trans hx2⟩
 ·have hmin:min e.nodes (400+1)=e.nodes:=by omega
  rw[hmin]at HC
  have HD:=hid (fun W (hW:Ext w W)=>rdepth_any e A n c W (hv.ext hW) (by omega))
  have hdl:e.depth≤400:=Nat.le_trans ((depthL_le [e]).2 e (by simp)) (by omega)
  have b:decide ((400:Int)<((e.nodes:Nat):Int))=false:=by simp;omega
  have hnl:e.nodes≤400:=by omega
  have HLE2:Hid (largeB [e]=decide (50<e.depth)):=by unfold Hid;rw[HLE.out];simp[h4]
  clear hv HLE hmin h4
  have hreg:∀ {x:Nat},e.depth=x→True:=fun _=>trivial
  by_cases h5:50<e.depth
  ·have b5:decide ((50:Int)<((e.depth:Nat):Int))=true:=by simp;omega
   have HR:Hid (validE e=3):=by unfold Hid;rw[HE.out,HLE2.out];simp[h5]
   clear h5 hreg HE HLE2
   unfold Nd.val at*
   unfold Nd.cells at*
   generalize validE e=R at*
   generalize e.formed=Y at*
   generalize e.depth=D at*
   generalize e.nodes=M at*
   generalize e.d=d at*
   obtain⟨op,tb,nm,ix,vk,vi,vt⟩:=d
   simp only at*
   go_enter Tryz.func42,Tryz.ntmps42
   go_wp2_with (first|(go_at_call 73;refine(HC.out _ HX.out).mono ?_;rintro _ w2 ⟨rfl,hx2⟩;have hb2:=HB0.out.ext hx2;obtain⟨c0,c1,c2,c3,c4,c5,c6,c7,-⟩:=cls hb2;have HB2:=hid hb2;clear hb2)|(go_at_call 74;refine(HD.out _ (HX.out.trans hx2)).mono ?_;rintro _ w3 ⟨rfl,hx3⟩))
   go_ret
   exact⟨ret_int HR.out.symm,(HX.out.trans hx2).trans hx3⟩
  ·have b5:decide ((50:Int)<((e.depth:Nat):Int))=false:=by simp;omega
   have HR:Hid (validE e=if e.formed=true then 0 else 1):=by unfold Hid;rw[HE.out,HLE2.out];simp[h5]
   clear h5 hreg HE HLE2
   unfold Nd.val at*
   unfold Nd.cells at*
   generalize validE e=R at*
   generalize e.formed=Y at*
   generalize e.depth=D at*
   generalize e.nodes=M at*
   generalize e.d=d at*
   obtain⟨op,tb,nm,ix,vk,vi,vt⟩:=d
   simp only at*
   cases Y
   all_goals
    go_enter Tryz.func42,Tryz.ntmps42
    go_wp2_with (first|(go_at_call 73;refine(HC.out _ HX.out).mono ?_;rintro _ w2 ⟨rfl,hx2⟩;have hb2:=HB0.out.ext hx2;obtain⟨c0,c1,c2,c3,c4,c5,c6,c7,-⟩:=cls hb2;have HB2:=hid hb2;clear hb2)|(go_at_call 74;refine(HD.out _ (HX.out.trans hx2)).mono ?_;rintro _ w3 ⟨rfl,hx3⟩;have hb3:=HB2.out.ext hx3;obtain⟨d0,d1,d2,d3,d4,d5,d6,d7,-⟩:=cls hb3;clear hb3)|(go_at_call 84;refine(HF.out _ ((HX.out.trans hx2).trans hx3)).mono ?_;rintro _ w4 ⟨rfl,hx4⟩))
    go_ret
    exact⟨ret_int (by rw[HR.out];rfl),((HX.out.trans hx2).trans hx3).trans hx4⟩
theorem t_inj {a b:ByteArray} (h:a.data.toList=b.data.toList):a=b:=by
 obtain⟨⟨l⟩⟩:=a
 obtain⟨⟨m⟩⟩:=b
 simp at h
 rw[h]
theorem ext_grow (w:World) (k:Nat) (os:Array Obj):Ext w (Go.Sort.grow (w.drewN k) os):=
 ⟨rfl,rfl,rfl,by simp[Go.Sort.grow],fun i hi=>by
  show(w.heap++os)[i]? =w.heap[i]?
  rw[Array.getElem?_append_left hi]⟩
def Tab (w:World):Prop:=Lib.TabIs Tryz.prog w "internal/strconv.uint64pow10" .u64 Lib.pow10Tab∧4<w.heap.size
theorem gTab:Tryz.prog.globalNamed "internal/strconv.uint64pow10" =some 4:=by kernel_rfl
theorem Tab.ext {w w':World} (h:Tab w) (hx:Ext w w'):Tab w':=
 ⟨var?_below hx gTab (by have:=h.2;omega) h.1,Nat.le_trans h.2 hx.size⟩
def Can (w:World) (n:Int):Prop:=(0≤n∧n<100)∨(Tab w∧ -9223372036854775808≤n∧n≤9223372036854775807)
theorem Can.ext {w w':World} {n:Int} (h:Can w n) (hx:Ext w w'):Can w' n:=by
 rcases h with h|⟨h,k⟩
 ·exact .inl h
 ·exact .inr ⟨h.ext hx,k⟩
theorem fmtint_any (n:Int) (w:World) (h:Can w n):Calls Tryz.prog 253 #[.int .i64 n,.int .i64 10] w fun e w'=>e= .returned (.string (itoB n))∧Ext w w':=by
 rcases h with ⟨h0,h1⟩|⟨ht,h0,h1⟩
 ·obtain⟨i,rfl⟩:∃i:Nat,n=(i:Int):=⟨n.toNat,by omega⟩
  refine(Tryz.strconv_FormatInt_10_small i (by omega) w).mono ?_
  rintro e w' ⟨rfl,rfl⟩
  refine⟨ret_str ?_,Ext.refl _⟩
  unfold itoB Lib.itoa
  rw[if_neg (by omega)]
  rfl
 ·refine(Tryz.strconv_FormatInt_10 n h0 h1 w ht.1).mono ?_
  rintro e w' ⟨rfl,k,os,rfl⟩
  exact⟨rfl,ext_grow w k os⟩
theorem countB_le (t:ByteArray):Lib.countB t ⟨#[39]⟩≤t.size+1:=Lib.count_le t.data.toList [39]
theorem repl_any (t:ByteArray) (w:World) (h:Sh w) (hs:t.size≤1000):Calls Tryz.prog 257 #[.string t,.string ⟨#[39]⟩,.string ⟨#[39,39]⟩] w fun e w'=>e= .returned (.string (quoB t))∧Ext w w':=by
 obtain⟨m,hm⟩:=h
 have hc:=countB_le t
 have e2:(⟨#[39,39]⟩:ByteArray).size=2:=rfl
 refine(Tryz.strings_ReplaceAll t ⟨#[39]⟩ ⟨#[39,39]⟩ m w (by omega) hm (Nat.le_refl 1) (by rw[e2];omega)).mono ?_
 rintro e w' ⟨rfl,hx⟩
 refine⟨ret_str ?_,hx⟩
 show(⟨(Lib.replaceAll t.data.toList [39] [39,39]).toArray⟩:ByteArray)=quoB t
 rw[repAll_quo]
 rfl
theorem number_any (n:Int) (w:World) (h:Can w n):Calls Tryz.prog 202 #[.int .i64 n] w fun e w'=>e= .returned (.string (itoB n))∧Ext w w':=by
 have H:=hid (fmtint_any n w h)
 clear h
 go_enter Tryz.func202,Tryz.ntmps202
 go_wp2_with (go_at_call 253;refine H.out.mono ?_;rintro _ w2 ⟨rfl,hx2⟩)
 go_ret
 exact⟨rfl,hx2⟩
theorem dec_small {u:Nat} (h:u<10):Lib.decDigits u= [UInt8.ofNat (48+u)]:=by rw[Lib.decDigits,dif_pos h]
theorem dec_big {u:Nat} (h:¬u<10):Lib.decDigits u=Lib.decDigits (u/10)++ [UInt8.ofNat (48+u%10)]:=by rw[Lib.decDigits,dif_neg h]
theorem dec_len (u:Nat) (h:u<18446744073709551616):(Lib.decDigits u).length≤20:=by rw[Lib.decDigits_length];exact Lib.nDigits_le20 u h
def decB (u:Nat):ByteArray:=⟨(Lib.decDigits u).toArray⟩
theorem decB_size (u:Nat) (h:u<18446744073709551616):(decB u).size≤20:=by
 have:=dec_len u h
 show((Lib.decDigits u).toArray).size≤20
 simpa using this
theorem decB_small {u:Nat} (h:u<10):decB u=S [48+u]:=by
 unfold decB S
 rw[dec_small h];rfl
theorem decB_big {u:Nat} (h:¬u<10):decB u=decB (u/10)++decB (u%10):=by
 apply t_inj
 unfold decB
 rw[dec_big h,dec_small (Nat.mod_lt _ (by omega))]
 simp
theorem rnum_pos:∀(u:Nat) (w:World),u≤9223372036854775807→Calls Tryz.prog 91 #[.int .i64 (u:Int)] w fun e w'=>e= .returned (.string (decB u))∧Ext w w':=by
 intro u
 induction u using Nat.strongRecOn with
 |ind u ih=>
  intro w hu
  have d0:decide ((u:Int)<0)=false:=by simp
  by_cases h9:u<10
  ·have d1:decide ((u:Int)<10)=true:=by simp;omega
   have hcv:=conv_one (P:=Tryz.prog) 60 9 5 (48+u) Tryz.underlying60 Tryz.underlying5 Tryz.underlying9
   have hcast:((48+u:Nat):Int)=48+(u:Int):=by omega
   rw[hcast,←decB_small h9]at hcv
   clear hcast
   have h9':(u:Int)<10:=by omega
   clear h9 ih
   generalize decB u=C at*
   go_enter Tryz.func91,Tryz.ntmps91
   go_wp2_with fail
   go_ret
   exact⟨rfl,(Ext.refl w).alloc _⟩
  ·have d1:decide ((u:Int)<10)=false:=by simp;omega
   have HB:=hid (decB_big h9)
   have H1:=hid (fun W=>ih (u/10) (by omega) W (by omega))
   have H2:=hid (fun W=>ih (u%10) (by have:=Nat.mod_lt u (show 10>0 by omega);omega) W (by omega))
   have s1:=decB_size (u/10) (by omega)
   have s2:=decB_size (u%10) (by omega)
   have e1:((u/10:Nat):Int)=(u:Int) /10:=by omega
   have e2:((u%10:Nat):Int)=(u:Int) %10:=by omega
   rw[e1]at H1
   rw[e2]at H2
   clear e1 e2 ih
   generalize decB (u/10)=X at*
   generalize decB (u%10)=Y at*
   have s3:X.size≤1000:=by omega
   have s4:Y.size≤1000:=by omega
   have H9:=hid h9
   clear h9 s1 s2
   go_enter Tryz.func91,Tryz.ntmps91
   go_wp2_with (first|(go_at_call 91;(with_reducible refine(H1.out _).mono ?_);rintro _ w2 ⟨rfl,hx2⟩)|(go_at_call 91;(with_reducible refine(H2.out _).mono ?_);rintro _ w3 ⟨rfl,hx3⟩))
   go_ret
   exact⟨ret_str HB.out.symm,hx2.trans hx3⟩
theorem itoB_pos (u:Nat):itoB (u:Int)=decB u:=by
 unfold itoB Lib.itoa decB
 rw[if_neg (by omega)];rfl
theorem itoB_neg (n:Int) (h:n<0):itoB n=⟨#[45]⟩++decB n.natAbs:=by
 apply t_inj
 unfold itoB Lib.itoa decB
 rw[if_pos h]
 simp
theorem rnum_any (n:Int) (w:World) (h0: -9223372036854775808<n) (h1:n≤9223372036854775807):Calls Tryz.prog 91 #[.int .i64 n] w fun e w'=>e= .returned (.string (itoB n))∧Ext w w':=by
 by_cases hn:n<0
 ·have H:=hid (fun W=>rnum_pos n.natAbs W (by omega))
  have e1:(n.natAbs:Int)= -n:=by omega
  rw[e1]at H
  have HI:=hid (itoB_neg n hn)
  have s:=decB_size n.natAbs (by omega)
  have d0:decide (n<0)=true:=by simpa using hn
  generalize decB n.natAbs=X at*
  have s1:X.size≤1000:=by omega
  clear e1 s
  go_enter Tryz.func91,Tryz.ntmps91
  go_wp2_with (go_at_call 91;refine(H.out _).mono ?_;rintro _ w2 ⟨rfl,hx2⟩)
  go_ret
  exact⟨ret_str HI.out.symm,hx2⟩
 ·obtain⟨u,rfl⟩:∃u:Nat,n=(u:Int):=⟨n.toNat,by omega⟩
  rw[itoB_pos]
  exact rnum_pos u w (by omega)
theorem quo_snoc (s:ByteArray) (k:Nat) (h:k<s.size):quo (s.data.toList.take (k+1))=quo (s.data.toList.take k)++(if s[k]=39 then [39,39]else [s[k]]):=by
 have hl:k<s.data.toList.length:=by simpa using h
 rw[List.take_succ_eq_append_getElem hl,quo_app]
 congr 1
theorem ext1 (s:ByteArray) (k:Nat) (h:k<s.size):(s.extract k (k+1)).data.toList= [s[k]]:=by
 rw[Lib.extract_data]
 have hl:k<s.data.toList.length:=by simpa using h
 rw[show k+1-k=1 by omega,List.drop_eq_getElem_cons hl,Array.getElem_toList]
 rfl
theorem rquote_any (s:ByteArray) (w:World) (hs:s.size≤1000):Calls Tryz.prog 92 #[.string s] w fun e w'=>e= .returned (.string (⟨#[39]⟩++quoB s++⟨#[39]⟩))∧Ext w w':=by
 have HQ:Hid (∀X:ByteArray,X.data.toList=39::quo s.data.toList→X++⟨#[39]⟩=⟨#[39]⟩++quoB s++⟨#[39]⟩):=by
  intro X hX
  apply t_inj
  rw[ByteArray.data_append,Array.toList_append,hX]
  unfold quoB
  simp
 go_enter Tryz.func92,Tryz.ntmps92
 go_wp2_with fail
 go_loop [3,4] (fun sv iv=> ∃(k:Nat) (X:ByteArray),k≤s.size∧iv= .int .i64 k∧sv= .string X∧X.data.toList=39::quo (s.data.toList.take k)) (fun _ i=>s.size- (intOf i).toNat)
 case atStart=>exact⟨0,⟨#[39]⟩,Nat.zero_le _,rfl,rfl,rfl⟩
 case round=>
  obtain⟨k,X,hk,rfl,rfl,hX⟩:=hrel
  have HX:=hid hX
  have hsz:X.size≤2001:=by
   have h1:=quo_len (s.data.toList.take k)
   have h2:(s.data.toList.take k).length≤k:=by rw[List.length_take];omega
   have h3:X.size=X.data.toList.length:=rfl
   rw[h3,hX,List.length_cons]
   omega
  clear hX
  by_cases hlt:k<s.size
  ·have HS:=hid (quo_snoc s k hlt)
   have HE:=hid (ext1 s k hlt)
   have hes:(s.extract k (k+1)).size≤1:=by
    have:(s.extract k (k+1)).size=(s.extract k (k+1)).data.toList.length:=rfl
    rw[this,HE.out];simp
   have i0:(0:Int)≤(k:Int):=by omega
   by_cases hc:s[k]=39
   ·have b1:((s[k].toNat:Int)==39)=true:=by rw[hc];rfl
    have HR:Hid (((X++⟨#[39]⟩)++s.extract k (k+1)).data.toList=39::quo (s.data.toList.take (k+1))):=by
     unfold Hid
     rw[HS.out,if_pos hc,ByteArray.data_append,Array.toList_append,ByteArray.data_append,Array.toList_append,HX.out,HE.out,hc]
     simp
    have hs2:(X++⟨#[39]⟩:ByteArray).size≤2002:=by rw[ByteArray.size_append];show X.size+1≤2002;omega
    clear hc HS HE
    go_wp2_with fail
    go_round
    case rel=>exact⟨k+1,_,by omega,by go_num,rfl,HR.out⟩
    case measure=>simp[intOf];omega
   ·have b1:((s[k].toNat:Int)==39)=false:=by
     rw[beq_eq_false_iff_ne]
     intro h
     apply hc
     apply UInt8.toNat_inj.1
     show s[k].toNat=39
     omega
    have HR:Hid ((X++s.extract k (k+1)).data.toList=39::quo (s.data.toList.take (k+1))):=by
     unfold Hid
     rw[HS.out,if_neg hc,ByteArray.data_append,Array.toList_append,HX.out,HE.out]
     simp
    clear hc HS HE
    go_wp2_with fail
    go_round
    case rel=>exact⟨k+1,_,by omega,by go_num,rfl,HR.out⟩
    case measure=>simp[intOf];omega
  ·have HR:=hid (HQ.out X (by rw[HX.out,List.take_of_length_le (by simp;omega)]))
   go_wp2_with fail
   go_ret
   exact⟨ret_str HR.out,Ext.refl w⟩
structure Gd (w:World):Prop where
 sh:Sh w
 tab:Tab w
theorem Gd.ext {w w':World} (h:Gd w) (hx:Ext w w'):Gd w':=⟨h.sh.ext hx,h.tab.ext hx⟩
theorem Gd.can {w:World} (h:Gd w) {n:Int} (hn:I64 n):Can w n:= .inr ⟨h.tab,hn.1,hn.2⟩
theorem expr_of_plain (e:Ex) (r:Int) (A:Option Addr) (n c:Nat) (w:World) (hs:e.pl.size≤100000)
  (hp:∀W,Ext w W→Calls Tryz.prog 206 #[e.d.val A n c] W fun r w'=>r= .returned (.string e.pl)∧Ext W w'):
  Calls Tryz.prog 131 #[e.d.val A n c,.int .i64 r] w fun x w'=>x= .returned (.string (e.tx r))∧Ext w w':=by
 have HP:=hid hp
 have HL:=hid (level_any e A n c)
 have HT:Hid (e.tx r=brk e.d.op e.pl r):=rfl
 have HBk:Hid (∀s,brk e.d.op s r=if lvl e.d.op<r then ⟨#[40]⟩++s++⟨#[41]⟩else s):=fun _=>rfl
 have HB:=hid (Blk.of_new w 37 (e.d.cells A n c))
 have HX:=hid ((Ext.refl w).alloc (.cells (e.d.cells A n c).toArray 37))
 clear hp
 generalize e.tx r=R at*
 generalize e.pl=P at*
 by_cases hl:lvl e.d.op<r
 ·have d1:decide (lvl e.d.op<r)=true:=by simpa using hl
  have HR:Hid (R=⟨#[40]⟩++P++⟨#[41]⟩):=by unfold Hid;rw[HT.out,HBk.out,if_pos hl]
  clear hl HT HBk
  generalize lvl e.d.op=L at*
  unfold Nd.val at*
  unfold Nd.cells at*
  generalize e.d=d at*
  obtain⟨op,tb,nm,ix,vk,vi,vt⟩:=d
  simp only at*
  go_enter Tryz.func131,Tryz.ntmps131
  go_wp2_with (first|(go_at_call 206;refine(HP.out _ HX.out).mono ?_;rintro _ w2 ⟨rfl,hx2⟩;have hb2:=HB.out.ext hx2;obtain⟨c0,c1,c2,c3,c4,c5,c6,c7,-⟩:=cls hb2;clear hb2)|(go_at_call 207;refine(HL.out _).mono ?_;rintro _ w3 ⟨rfl,hx3⟩))
  go_ret
  exact⟨ret_str HR.out.symm,(HX.out.trans hx2).trans hx3⟩
 ·have d1:decide (lvl e.d.op<r)=false:=by simpa using hl
  have HR:Hid (R=P):=by unfold Hid;rw[HT.out,HBk.out,if_neg hl]
  clear hl HT HBk
  generalize lvl e.d.op=L at*
  unfold Nd.val at*
  unfold Nd.cells at*
  generalize e.d=d at*
  obtain⟨op,tb,nm,ix,vk,vi,vt⟩:=d
  simp only at*
  go_enter Tryz.func131,Tryz.ntmps131
  go_wp2_with (first|(go_at_call 206;refine(HP.out _ HX.out).mono ?_;rintro _ w2 ⟨rfl,hx2⟩;have hb2:=HB.out.ext hx2;obtain⟨c0,c1,c2,c3,c4,c5,c6,c7,-⟩:=cls hb2;clear hb2)|(go_at_call 207;refine(HL.out _).mono ?_;rintro _ w3 ⟨rfl,hx3⟩))
  go_ret
  exact⟨ret_str HR.out.symm,(HX.out.trans hx2).trans hx3⟩
def sgnC:Array Value:=#[.string ⟨#[]⟩,.string ⟨#[]⟩,.string ⟨#[]⟩,.string ⟨#[]⟩,.string ⟨#[43]⟩,.string ⟨#[45]⟩,.string ⟨#[42]⟩,.string ⟨#[47]⟩,.string ⟨#[37]⟩,.string ⟨#[]⟩,.string ⟨#[61]⟩,.string ⟨#[60,62]⟩,.string ⟨#[60]⟩,.string ⟨#[60,61]⟩,
 .string ⟨#[62]⟩,.string ⟨#[62,61]⟩,.string ⟨#[76,73,75,69]⟩,.string ⟨#[]⟩,.string ⟨#[65,78,68]⟩,.string ⟨#[79,82]⟩]
def zerC:Array Value:=Array.replicate 20 (.string ⟨#[]⟩)
theorem sgnC_get (op:Int) (h:4≤op∧op≤8∨10≤op∧op≤16∨op=18∨op=19):sgnC.toList[op.toNat]? =some (.string (sgn op)):=by
 have hk:∀k:Nat,(k<20∧(4≤k∧k≤8∨10≤k∧k≤16∨k=18∨k=19))→sgnC.toList[k]? =some (.string (sgn (k:Int))):=by
  intro k ⟨h1,h2⟩
  have hc:k=4∨k=5∨k=6∨k=7∨k=8∨k=10∨k=11∨k=12∨k=13∨k=14∨k=15∨k=16∨k=18∨k=19:=by omega
  rcases hc with rfl|rfl|rfl|rfl|rfl|rfl|rfl|rfl|rfl|rfl|rfl|rfl|rfl|rfl<;>rfl
 have:=hk op.toNat (by omega)
 rwa [show((op.toNat:Nat):Int)=op by omega]at this
theorem pc_bin4 (op:Int) (tb nm:ByteArray) (ix vk vi:Int) (vt:ByteArray) (b off:Nat) (n c:Nat) (w:World) (x y:Ex) (X Y:ByteArray) (A1 A2:Option Addr) (n1 n2 c1 c2:Nat)
  (hop:4≤op∧op≤8∨10≤op∧op≤16∨op=18∨op=19) (hn:n=2) (hX:X.size≤100000) (hY:Y.size≤100000)
  (e1:EltAt w b (off+0*8) x A1 n1 c1) (e2:EltAt w b (off+1*8) y A2 n2 c2) (b4:(lvl op==4)=true)
  (h1:∀W,Ext w W→Calls Tryz.prog 131 #[x.d.val A1 n1 c1,.int .i64 5] W fun r w'=>r= .returned (.string X)∧Ext W w')
  (h2:∀W,Ext w W→Calls Tryz.prog 131 #[y.d.val A2 n2 c2,.int .i64 (lvl op+1)] W fun r w'=>r= .returned (.string Y)∧Ext W w'):
  Calls Tryz.prog 206 #[.agg #[.int .i64 op,.string tb,.string nm,.int .i64 ix,.int .i64 vk,.int .i64 vi,.string vt,.slice (some ⟨b,off,none⟩) n c]] w fun r w'=>r= .returned (.string (X++⟨#[32]⟩++sgn op++⟨#[32]⟩++Y))∧Ext w w':=by
 subst hn
 have b1:(op==1)=false:=by rw[beq_eq_false_iff_ne];omega
 have b2:(op==2)=false:=by rw[beq_eq_false_iff_ne];omega
 have b3:(op==3)=false:=by rw[beq_eq_false_iff_ne];omega
 have b9:(op==9)=false:=by rw[beq_eq_false_iff_ne];omega
 have b17:(op==17)=false:=by rw[beq_eq_false_iff_ne];omega
 have b20:(op==20)=false:=by rw[beq_eq_false_iff_ne];omega
 have hs1:=sgn_size op
 have HS:=hid (sgnC_get op hop)
 have HL:=hid (fun W=>level_any (.mk ⟨op,tb,nm,ix,vk,vi,vt⟩ []) (some ⟨b,off,none⟩) 2 c W)
 have HE1:=hid e1
 have HE2:=hid e2
 have H1:=hid h1
 have H2:=hid h2
 have o0:(0:Int)≤op:=by omega
 have o1:op<20:=by omega
 have hlv:1≤lvl op∧lvl op≤8:=by unfold lvl;repeat' split<;>try omega
 clear e1 e2 h1 h2 hop
 unfold Nd.val at HL H1 H2
 simp only[Ex.d]at HL
 generalize lvl op=L at*
 obtain⟨hl1,hl2⟩:=hlv
 generalize sgn op=G at*
 have HB:=hid (Blk.of_new w 37 (eC op tb nm ix vk vi vt (some ⟨b,off,none⟩) 2 c))
 have HX:=hid ((Ext.refl w).alloc (.cells #[.int .i64 op,.string tb,.string nm,.int .i64 ix,.int .i64 vk,.int .i64 vi,.string vt,.slice (some ⟨b,off,none⟩) 2 c] 37))
 go_enter Tryz.func206,Tryz.ntmps206
 go_upto_region 21 with fail
 generalize w.alloc (.cells #[.int .i64 op,.string tb,.string nm,.int .i64 ix,.int .i64 vk,.int .i64 vi,.string vt,.slice (some ⟨b,off,none⟩) 2 c] 37)=w1 at*
 generalize w.heap.size=g at*
 apply wp_region_lit
 refine wpList_buildTo rfl 213 _ rfl (some 72) rfl sgnC (by kernel_rfl) ?_
 refine Great.wpList_allocTo rfl (some 3) rfl (.pointer (some ⟨w1.heap.size,0,none⟩)) (.cells zerC 213) (by kernel_rfl) ?_
 refine wpList_store_rowTo rfl 213 (.tmp 3) (.tmp 72) rfl rfl w1.heap.size sgnC rfl rfl 213 zerC (heap_alloc_new w1 _) (by kernel_rfl) (by kernel_rfl) (by kernel_rfl) ?_
 apply wpList_nil
 rw[World.setRow_alloc_new]
 have HB2:=hid (HB.out.ext ((Ext.refl w1).alloc (.cells sgnC 213)))
 have HX2:=hid (HX.out.alloc (.cells sgnC 213))
 have HC:=hid (Blk.of_new w1 213 sgnC.toList)
 have hga:(.cells sgnC.toList.toArray 213:Obj)= .cells sgnC 213:=rfl
 rw[hga]at HC
 clear hga
 generalize w1.alloc (.cells sgnC 213)=w2 at*
 generalize w1.heap.size=ga at*
 have hb2:=HB2.out
 have c0:=hb2.cell 0
 have c1':=hb2.cell 1
 have c2':=hb2.cell 2
 have c3:=hb2.cell 3
 have c4:=hb2.cell 4
 have c5:=hb2.cell 5
 have c6:=hb2.cell 6
 have c7:=hb2.cell 7
 simp only[List.getElem?_cons_succ,List.getElem?_cons_zero]at c0 c1' c2' c3 c4 c5 c6 c7
 clear hb2
 go_wp2_with (go_at_call 207;refine(HL.out _).mono ?_;rintro _ w3 ⟨rfl,hx3⟩)
 have HX3:=hid (HX2.out.trans hx3)
 clear c0 c1' c2' c3 c4 c5 c6 c7
 have hb3:=HB2.out.ext hx3
 obtain⟨k0,k1,k2,k3,k4,k5,k6,k7,-⟩:=lks hb3
 have ks:=Later.keep (((HC.out.ext hx3).cell op.toNat).trans HS.out)
 have q0:=Later.keep (HX3.out.keep HE1.out.c0)
 have q1:=Later.keep (HX3.out.keep HE1.out.c1)
 have q2:=Later.keep (HX3.out.keep HE1.out.c2)
 have q3:=Later.keep (HX3.out.keep HE1.out.c3)
 have q4:=Later.keep (HX3.out.keep HE1.out.c4)
 have q5:=Later.keep (HX3.out.keep HE1.out.c5)
 have q6:=Later.keep (HX3.out.keep HE1.out.c6)
 have q7:=Later.keep (HX3.out.keep HE1.out.c7)
 have s0:=Later.keep (HX3.out.keep HE2.out.c0)
 have s1:=Later.keep (HX3.out.keep HE2.out.c1)
 have s2:=Later.keep (HX3.out.keep HE2.out.c2)
 have s3:=Later.keep (HX3.out.keep HE2.out.c3)
 have s4:=Later.keep (HX3.out.keep HE2.out.c4)
 have s5:=Later.keep (HX3.out.keep HE2.out.c5)
 have s6:=Later.keep (HX3.out.keep HE2.out.c6)
 have s7:=Later.keep (HX3.out.keep HE2.out.c7)
 simp only[Nat.zero_mul,Nat.add_zero]at q0 q1 q2 q3 q4 q5 q6 q7
 have HC1:Hid (∀z:Later w3,Calls Tryz.prog 131 _ z.now _):=fun z=>H1.out z.now (HX3.out.trans z.ext)
 have HC2:Hid (∀z:Later w3,Calls Tryz.prog 131 _ z.now _):=fun z=>H2.out z.now (HX3.out.trans z.ext)
 have lw:IntKind.i64.wrap (L+1)=L+1:=IntWalk.i64_in _ (by omega)
 clear hx3 hb3
 refine wp_region_later (by kernel_rfl) (by kernel_rfl) ?_
 repeat (go_big_quiet_step ((first|(go_at_call 131;with_reducible exact later_of (HC1.out _))|(go_at_call 131;with_reducible exact later_of (HC2.out _))|(go_at_call 207;exact later_of (HL.out _)))))
 refine wpQuiet_nil ?_
 intro w4 hw4
 have hx4:=later_out hw4
 clear hw4 k0 k1 k2 k3 k4 k5 k6 k7 ks q0 q1 q2 q3 q4 q5 q6 q7 s0 s1 s2 s3 s4 s5 s6 s7 lw
 go_wp2_with fail
 go_ret
 exact⟨rfl,HX3.out.trans hx4⟩
theorem pc_bin (op:Int) (tb nm:ByteArray) (ix vk vi:Int) (vt:ByteArray) (b off:Nat) (n c:Nat) (w:World) (x y:Ex) (X Y:ByteArray) (A1 A2:Option Addr) (n1 n2 c1 c2:Nat)
  (hop:4≤op∧op≤8∨10≤op∧op≤16∨op=18∨op=19) (hn:n=2) (hX:X.size≤100000) (hY:Y.size≤100000)
  (e1:EltAt w b (off+0*8) x A1 n1 c1) (e2:EltAt w b (off+1*8) y A2 n2 c2) (b4:(lvl op==4)=false)
  (h1:∀W,Ext w W→Calls Tryz.prog 131 #[x.d.val A1 n1 c1,.int .i64 (lvl op)] W fun r w'=>r= .returned (.string X)∧Ext W w')
  (h2:∀W,Ext w W→Calls Tryz.prog 131 #[y.d.val A2 n2 c2,.int .i64 (lvl op+1)] W fun r w'=>r= .returned (.string Y)∧Ext W w'):
  Calls Tryz.prog 206 #[.agg #[.int .i64 op,.string tb,.string nm,.int .i64 ix,.int .i64 vk,.int .i64 vi,.string vt,.slice (some ⟨b,off,none⟩) n c]] w fun r w'=>r= .returned (.string (X++⟨#[32]⟩++sgn op++⟨#[32]⟩++Y))∧Ext w w':=by
 subst hn
 have b1:(op==1)=false:=by rw[beq_eq_false_iff_ne];omega
 have b2:(op==2)=false:=by rw[beq_eq_false_iff_ne];omega
 have b3:(op==3)=false:=by rw[beq_eq_false_iff_ne];omega
 have b9:(op==9)=false:=by rw[beq_eq_false_iff_ne];omega
 have b17:(op==17)=false:=by rw[beq_eq_false_iff_ne];omega
 have b20:(op==20)=false:=by rw[beq_eq_false_iff_ne];omega
 have hs1:=sgn_size op
 have HS:=hid (sgnC_get op hop)
 have HL:=hid (fun W=>level_any (.mk ⟨op,tb,nm,ix,vk,vi,vt⟩ []) (some ⟨b,off,none⟩) 2 c W)
 have HE1:=hid e1
 have HE2:=hid e2
 have H1:=hid h1
 have H2:=hid h2
 have o0:(0:Int)≤op:=by omega
 have o1:op<20:=by omega
 have hlv:1≤lvl op∧lvl op≤8:=by unfold lvl;repeat' split<;>try omega
 clear e1 e2 h1 h2 hop
 unfold Nd.val at HL H1 H2
 simp only[Ex.d]at HL
 generalize lvl op=L at*
 obtain⟨hl1,hl2⟩:=hlv
 generalize sgn op=G at*
 have HB:=hid (Blk.of_new w 37 (eC op tb nm ix vk vi vt (some ⟨b,off,none⟩) 2 c))
 have HX:=hid ((Ext.refl w).alloc (.cells #[.int .i64 op,.string tb,.string nm,.int .i64 ix,.int .i64 vk,.int .i64 vi,.string vt,.slice (some ⟨b,off,none⟩) 2 c] 37))
 go_enter Tryz.func206,Tryz.ntmps206
 go_upto_region 21 with fail
 generalize w.alloc (.cells #[.int .i64 op,.string tb,.string nm,.int .i64 ix,.int .i64 vk,.int .i64 vi,.string vt,.slice (some ⟨b,off,none⟩) 2 c] 37)=w1 at*
 generalize w.heap.size=g at*
 apply wp_region_lit
 refine wpList_buildTo rfl 213 _ rfl (some 72) rfl sgnC (by kernel_rfl) ?_
 refine Great.wpList_allocTo rfl (some 3) rfl (.pointer (some ⟨w1.heap.size,0,none⟩)) (.cells zerC 213) (by kernel_rfl) ?_
 refine wpList_store_rowTo rfl 213 (.tmp 3) (.tmp 72) rfl rfl w1.heap.size sgnC rfl rfl 213 zerC (heap_alloc_new w1 _) (by kernel_rfl) (by kernel_rfl) (by kernel_rfl) ?_
 apply wpList_nil
 rw[World.setRow_alloc_new]
 have HB2:=hid (HB.out.ext ((Ext.refl w1).alloc (.cells sgnC 213)))
 have HX2:=hid (HX.out.alloc (.cells sgnC 213))
 have HC:=hid (Blk.of_new w1 213 sgnC.toList)
 have hga:(.cells sgnC.toList.toArray 213:Obj)= .cells sgnC 213:=rfl
 rw[hga]at HC
 clear hga
 generalize w1.alloc (.cells sgnC 213)=w2 at*
 generalize w1.heap.size=ga at*
 have hb2:=HB2.out
 have c0:=hb2.cell 0
 have c1':=hb2.cell 1
 have c2':=hb2.cell 2
 have c3:=hb2.cell 3
 have c4:=hb2.cell 4
 have c5:=hb2.cell 5
 have c6:=hb2.cell 6
 have c7:=hb2.cell 7
 simp only[List.getElem?_cons_succ,List.getElem?_cons_zero]at c0 c1' c2' c3 c4 c5 c6 c7
 clear hb2
 go_wp2_with (go_at_call 207;refine(HL.out _).mono ?_;rintro _ w3 ⟨rfl,hx3⟩)
 have HX3:=hid (HX2.out.trans hx3)
 clear c0 c1' c2' c3 c4 c5 c6 c7
 have hb3:=HB2.out.ext hx3
 obtain⟨k0,k1,k2,k3,k4,k5,k6,k7,-⟩:=lks hb3
 have ks:=Later.keep (((HC.out.ext hx3).cell op.toNat).trans HS.out)
 have q0:=Later.keep (HX3.out.keep HE1.out.c0)
 have q1:=Later.keep (HX3.out.keep HE1.out.c1)
 have q2:=Later.keep (HX3.out.keep HE1.out.c2)
 have q3:=Later.keep (HX3.out.keep HE1.out.c3)
 have q4:=Later.keep (HX3.out.keep HE1.out.c4)
 have q5:=Later.keep (HX3.out.keep HE1.out.c5)
 have q6:=Later.keep (HX3.out.keep HE1.out.c6)
 have q7:=Later.keep (HX3.out.keep HE1.out.c7)
 have s0:=Later.keep (HX3.out.keep HE2.out.c0)
 have s1:=Later.keep (HX3.out.keep HE2.out.c1)
 have s2:=Later.keep (HX3.out.keep HE2.out.c2)
 have s3:=Later.keep (HX3.out.keep HE2.out.c3)
 have s4:=Later.keep (HX3.out.keep HE2.out.c4)
 have s5:=Later.keep (HX3.out.keep HE2.out.c5)
 have s6:=Later.keep (HX3.out.keep HE2.out.c6)
 have s7:=Later.keep (HX3.out.keep HE2.out.c7)
 simp only[Nat.zero_mul,Nat.add_zero]at q0 q1 q2 q3 q4 q5 q6 q7
 have HC1:Hid (∀z:Later w3,Calls Tryz.prog 131 _ z.now _):=fun z=>H1.out z.now (HX3.out.trans z.ext)
 have HC2:Hid (∀z:Later w3,Calls Tryz.prog 131 _ z.now _):=fun z=>H2.out z.now (HX3.out.trans z.ext)
 have lw:IntKind.i64.wrap (L+1)=L+1:=IntWalk.i64_in _ (by omega)
 clear hx3 hb3
 refine wp_region_later (by kernel_rfl) (by kernel_rfl) ?_
 repeat (go_big_quiet_step ((first|(go_at_call 131;with_reducible exact later_of (HC1.out _))|(go_at_call 131;with_reducible exact later_of (HC2.out _))|(go_at_call 207;exact later_of (HL.out _)))))
 refine wpQuiet_nil ?_
 intro w4 hw4
 have hx4:=later_out hw4
 clear hw4 k0 k1 k2 k3 k4 k5 k6 k7 ks q0 q1 q2 q3 q4 q5 q6 q7 s0 s1 s2 s3 s4 s5 s6 s7 lw
 go_wp2_with fail
 go_ret
 exact⟨rfl,HX3.out.trans hx4⟩
theorem pl_num (tb nm:ByteArray) (ix vk vi:Int) (vt:ByteArray) (A:Option Addr) (n c:Nat) (w:World) (HC:Hid (∀W,Ext w W→Can W vi)):
  Calls Tryz.prog 206 #[.agg #[.int .i64 1,.string tb,.string nm,.int .i64 ix,.int .i64 1,.int .i64 vi,.string vt,.slice A n c]] w fun r w'=>r= .returned (.string (itoB vi))∧Ext w w':=by
 have HX:=hid ((Ext.refl w).alloc (.cells #[.int .i64 1,.string tb,.string nm,.int .i64 ix,.int .i64 1,.int .i64 vi,.string vt,.slice A n c] 37))
 go_enter Tryz.func206,Tryz.ntmps206
 go_wp2_with (go_at_call 202;refine(number_any _ _ (HC.out _ HX.out)).mono ?_;rintro _ w2 ⟨rfl,hx2⟩)
 go_ret
 exact⟨rfl,HX.out.trans hx2⟩
theorem pl_text (tb nm:ByteArray) (ix vk vi:Int) (vt:ByteArray) (A:Option Addr) (n c:Nat) (w:World) (HC:Hid (Sh w)) (hs:vt.size≤1000) (hq:(quoB vt).size≤2000):
  Calls Tryz.prog 206 #[.agg #[.int .i64 1,.string tb,.string nm,.int .i64 ix,.int .i64 2,.int .i64 vi,.string vt,.slice A n c]] w fun r w'=>r= .returned (.string (⟨#[39]⟩++quoB vt++⟨#[39]⟩))∧Ext w w':=by
 have HX:=hid ((Ext.refl w).alloc (.cells #[.int .i64 1,.string tb,.string nm,.int .i64 ix,.int .i64 2,.int .i64 vi,.string vt,.slice A n c] 37))
 go_enter Tryz.func206,Tryz.ntmps206
 go_wp2_with (go_at_call 257;refine(repl_any _ _ (HC.out.ext HX.out) hs).mono ?_;rintro _ w2 ⟨rfl,hx2⟩)
 go_ret
 exact⟨rfl,HX.out.trans hx2⟩
theorem pl_null (tb nm:ByteArray) (ix vk vi:Int) (vt:ByteArray) (A:Option Addr) (n c:Nat) (w:World):
  Calls Tryz.prog 206 #[.agg #[.int .i64 1,.string tb,.string nm,.int .i64 ix,.int .i64 0,.int .i64 vi,.string vt,.slice A n c]] w fun r w'=>r= .returned (.string ⟨#[78,85,76,76]⟩)∧Ext w w':=by
 have HX:=hid ((Ext.refl w).alloc (.cells #[.int .i64 1,.string tb,.string nm,.int .i64 ix,.int .i64 0,.int .i64 vi,.string vt,.slice A n c] 37))
 go_enter Tryz.func206,Tryz.ntmps206
 go_wp2_with fail
 go_ret
 exact⟨rfl,HX.out⟩
theorem pl_col (tb nm:ByteArray) (ix vk vi:Int) (vt:ByteArray) (A:Option Addr) (n c:Nat) (w:World):
  Calls Tryz.prog 206 #[.agg #[.int .i64 2,.string ⟨#[]⟩,.string nm,.int .i64 ix,.int .i64 vk,.int .i64 vi,.string vt,.slice A n c]] w fun r w'=>r= .returned (.string nm)∧Ext w w':=by
 have HX:=hid ((Ext.refl w).alloc (.cells #[.int .i64 2,.string ⟨#[]⟩,.string nm,.int .i64 ix,.int .i64 vk,.int .i64 vi,.string vt,.slice A n c] 37))
 go_enter Tryz.func206,Tryz.ntmps206
 go_wp2_with fail
 go_ret
 exact⟨rfl,HX.out⟩
theorem pl_qual (tb nm:ByteArray) (ix vk vi:Int) (vt:ByteArray) (A:Option Addr) (n c:Nat) (w:World) (t1:¬tb.toList= []) (t2:tb.toList.isEmpty=false) (hs:tb.size≤1000) (hs2:nm.size≤1000):
  Calls Tryz.prog 206 #[.agg #[.int .i64 2,.string tb,.string nm,.int .i64 ix,.int .i64 vk,.int .i64 vi,.string vt,.slice A n c]] w fun r w'=>r= .returned (.string (tb++⟨#[46]⟩++nm))∧Ext w w':=by
 have HX:=hid ((Ext.refl w).alloc (.cells #[.int .i64 2,.string tb,.string nm,.int .i64 ix,.int .i64 vk,.int .i64 vi,.string vt,.slice A n c] 37))
 go_enter Tryz.func206,Tryz.ntmps206
 go_wp2_with fail
 go_ret
 exact⟨rfl,HX.out⟩
theorem pl_neg (tb nm:ByteArray) (ix vk vi:Int) (vt:ByteArray) (b off n c:Nat) (w:World) (x:Ex) (X:ByteArray) (A1:Option Addr) (n1 c1:Nat) (hn:n=1) (hX:X.size≤100000)
  (e1:EltAt w b (off+0*8) x A1 n1 c1)
  (h1:∀W,Ext w W→Calls Tryz.prog 131 #[x.d.val A1 n1 c1,.int .i64 8] W fun r w'=>r= .returned (.string X)∧Ext W w'):
  Calls Tryz.prog 206 #[.agg #[.int .i64 3,.string tb,.string nm,.int .i64 ix,.int .i64 vk,.int .i64 vi,.string vt,.slice (some ⟨b,off,none⟩) n c]] w fun r w'=>r= .returned (.string (⟨#[45]⟩++X))∧Ext w w':=by
 subst hn
 have HX:=hid ((Ext.refl w).alloc (.cells #[.int .i64 3,.string tb,.string nm,.int .i64 ix,.int .i64 vk,.int .i64 vi,.string vt,.slice (some ⟨b,off,none⟩) 1 c] 37))
 have H1:=hid h1
 unfold Nd.val at H1
 simp only[Nat.zero_mul,Nat.add_zero]at e1
 have q0:=fun o=> ((Ext.refl w).alloc o).keep e1.c0
 have q1:=fun o=> ((Ext.refl w).alloc o).keep e1.c1
 have q2:=fun o=> ((Ext.refl w).alloc o).keep e1.c2
 have q3:=fun o=> ((Ext.refl w).alloc o).keep e1.c3
 have q4:=fun o=> ((Ext.refl w).alloc o).keep e1.c4
 have q5:=fun o=> ((Ext.refl w).alloc o).keep e1.c5
 have q6:=fun o=> ((Ext.refl w).alloc o).keep e1.c6
 have q7:=fun o=> ((Ext.refl w).alloc o).keep e1.c7
 clear h1 e1
 go_enter Tryz.func206,Tryz.ntmps206
 go_wp2_with (go_at_call 131;refine(H1.out _ HX.out).mono ?_;rintro _ w2 ⟨rfl,hx2⟩)
 go_ret
 exact⟨rfl,HX.out.trans hx2⟩
theorem pl_len (tb nm:ByteArray) (ix vk vi:Int) (vt:ByteArray) (b off n c:Nat) (w:World) (x:Ex) (X:ByteArray) (A1:Option Addr) (n1 c1:Nat) (hn:n=1) (hX:X.size≤100000)
  (e1:EltAt w b (off+0*8) x A1 n1 c1)
  (h1:∀W,Ext w W→Calls Tryz.prog 131 #[x.d.val A1 n1 c1,.int .i64 1] W fun r w'=>r= .returned (.string X)∧Ext W w'):
  Calls Tryz.prog 206 #[.agg #[.int .i64 9,.string tb,.string nm,.int .i64 ix,.int .i64 vk,.int .i64 vi,.string vt,.slice (some ⟨b,off,none⟩) n c]] w fun r w'=>r= .returned (.string (⟨#[76,69,78,71,84,72,40]⟩++X++⟨#[41]⟩))∧Ext w w':=by
 subst hn
 have HX:=hid ((Ext.refl w).alloc (.cells #[.int .i64 9,.string tb,.string nm,.int .i64 ix,.int .i64 vk,.int .i64 vi,.string vt,.slice (some ⟨b,off,none⟩) 1 c] 37))
 have H1:=hid h1
 unfold Nd.val at H1
 simp only[Nat.zero_mul,Nat.add_zero]at e1
 have q0:=fun o=> ((Ext.refl w).alloc o).keep e1.c0
 have q1:=fun o=> ((Ext.refl w).alloc o).keep e1.c1
 have q2:=fun o=> ((Ext.refl w).alloc o).keep e1.c2
 have q3:=fun o=> ((Ext.refl w).alloc o).keep e1.c3
 have q4:=fun o=> ((Ext.refl w).alloc o).keep e1.c4
 have q5:=fun o=> ((Ext.refl w).alloc o).keep e1.c5
 have q6:=fun o=> ((Ext.refl w).alloc o).keep e1.c6
 have q7:=fun o=> ((Ext.refl w).alloc o).keep e1.c7
 clear h1 e1
 go_enter Tryz.func206,Tryz.ntmps206
 go_wp2_with (go_at_call 131;refine(H1.out _ HX.out).mono ?_;rintro _ w2 ⟨rfl,hx2⟩)
 go_ret
 exact⟨rfl,HX.out.trans hx2⟩
theorem pl_isnull (tb nm:ByteArray) (ix vk vi:Int) (vt:ByteArray) (b off n c:Nat) (w:World) (x:Ex) (X:ByteArray) (A1:Option Addr) (n1 c1:Nat) (hn:n=1) (hX:X.size≤100000)
  (e1:EltAt w b (off+0*8) x A1 n1 c1)
  (h1:∀W,Ext w W→Calls Tryz.prog 131 #[x.d.val A1 n1 c1,.int .i64 5] W fun r w'=>r= .returned (.string X)∧Ext W w'):
  Calls Tryz.prog 206 #[.agg #[.int .i64 17,.string tb,.string nm,.int .i64 ix,.int .i64 vk,.int .i64 vi,.string vt,.slice (some ⟨b,off,none⟩) n c]] w fun r w'=>r= .returned (.string (X++⟨#[32,73,83,32,78,85,76,76]⟩))∧Ext w w':=by
 subst hn
 have HX:=hid ((Ext.refl w).alloc (.cells #[.int .i64 17,.string tb,.string nm,.int .i64 ix,.int .i64 vk,.int .i64 vi,.string vt,.slice (some ⟨b,off,none⟩) 1 c] 37))
 have H1:=hid h1
 unfold Nd.val at H1
 simp only[Nat.zero_mul,Nat.add_zero]at e1
 have q0:=fun o=> ((Ext.refl w).alloc o).keep e1.c0
 have q1:=fun o=> ((Ext.refl w).alloc o).keep e1.c1
 have q2:=fun o=> ((Ext.refl w).alloc o).keep e1.c2
 have q3:=fun o=> ((Ext.refl w).alloc o).keep e1.c3
 have q4:=fun o=> ((Ext.refl w).alloc o).keep e1.c4
 have q5:=fun o=> ((Ext.refl w).alloc o).keep e1.c5
 have q6:=fun o=> ((Ext.refl w).alloc o).keep e1.c6
 have q7:=fun o=> ((Ext.refl w).alloc o).keep e1.c7
 clear h1 e1
 go_enter Tryz.func206,Tryz.ntmps206
 go_wp2_with (go_at_call 131;refine(H1.out _ HX.out).mono ?_;rintro _ w2 ⟨rfl,hx2⟩)
 go_ret
 exact⟨rfl,HX.out.trans hx2⟩
theorem pl_not (tb nm:ByteArray) (ix vk vi:Int) (vt:ByteArray) (b off n c:Nat) (w:World) (x:Ex) (X:ByteArray) (A1:Option Addr) (n1 c1:Nat) (hn:n=1) (hX:X.size≤100000)
  (e1:EltAt w b (off+0*8) x A1 n1 c1)
  (h1:∀W,Ext w W→Calls Tryz.prog 131 #[x.d.val A1 n1 c1,.int .i64 3] W fun r w'=>r= .returned (.string X)∧Ext W w'):
  Calls Tryz.prog 206 #[.agg #[.int .i64 20,.string tb,.string nm,.int .i64 ix,.int .i64 vk,.int .i64 vi,.string vt,.slice (some ⟨b,off,none⟩) n c]] w fun r w'=>r= .returned (.string (⟨#[78,79,84,32]⟩++X))∧Ext w w':=by
 subst hn
 have HX:=hid ((Ext.refl w).alloc (.cells #[.int .i64 20,.string tb,.string nm,.int .i64 ix,.int .i64 vk,.int .i64 vi,.string vt,.slice (some ⟨b,off,none⟩) 1 c] 37))
 have H1:=hid h1
 unfold Nd.val at H1
 simp only[Nat.zero_mul,Nat.add_zero]at e1
 have q0:=fun o=> ((Ext.refl w).alloc o).keep e1.c0
 have q1:=fun o=> ((Ext.refl w).alloc o).keep e1.c1
 have q2:=fun o=> ((Ext.refl w).alloc o).keep e1.c2
 have q3:=fun o=> ((Ext.refl w).alloc o).keep e1.c3
 have q4:=fun o=> ((Ext.refl w).alloc o).keep e1.c4
 have q5:=fun o=> ((Ext.refl w).alloc o).keep e1.c5
 have q6:=fun o=> ((Ext.refl w).alloc o).keep e1.c6
 have q7:=fun o=> ((Ext.refl w).alloc o).keep e1.c7
 clear h1 e1
 go_enter Tryz.func206,Tryz.ntmps206
 go_wp2_with (go_at_call 131;refine(H1.out _ HX.out).mono ?_;rintro _ w2 ⟨rfl,hx2⟩)
 go_ret
 exact⟨rfl,HX.out.trans hx2⟩
theorem pl_mk (d:Nd) (ks:List Ex):(Ex.mk d ks).pl=plD d (ks.map fun e=> (e.d.op,e.pl)):=by rw[Ex.pl,plL_eq]
theorem formed_size_kid {d:Nd} {ks:List Ex} {x:Ex} (h:x∈ks):x.size≤(Ex.mk d ks).size:=Nat.le_of_lt (size_kid h)
theorem plain_any:∀(e:Ex) (A:Option Addr) (n c:Nat) (w:World),ExV w e A n c→e.formed=true→e.size≤1000→Gd w→
  Calls Tryz.prog 206 #[e.d.val A n c] w fun r w'=>r= .returned (.string e.pl)∧Ext w w':=by
 intro e
 induction e using Ex.ind with
 |h d ks ih=>
  intro A n c w hv hf hs hg
  obtain⟨h1,h2,h3,h4⟩:=hv
  have h1:ks.length=n:=h1
  have h4:KidsAt w A ks:=h4
  have h3:d.fit:=h3
  obtain⟨f1,f2,f3⟩:=formed_parts hf
  have hx:∀x∈ks,∀(r:Int) (A':Option Addr) (n' c':Nat) (W:World),Ext w W→ExV W x A' n' c'→Calls Tryz.prog 131 #[x.d.val A' n' c',.int .i64 r] W fun y w'=>y= .returned (.string (x.tx r))∧Ext W w':=by
   intro x hx r A' n' c' W hW hxv
   have hsz:x.size≤1000:=Nat.le_trans (formed_size_kid (d:=d) hx) hs
   have hp:=pl_size x (f2 x hx)
   exact expr_of_plain x r A' n' c' W (by omega) fun W' hW'=>ih x hx A' n' c' W' (hxv.ext hW') (f2 x hx) hsz ((hg.ext hW).ext hW')
  have htx:∀x∈ks,∀r,(x.tx r).size≤100000:=by
   intro x hx r
   have hsz:x.size≤1000:=Nat.le_trans (formed_size_kid (d:=d) hx) hs
   have:=tx_size x r (f2 x hx)
   omega
  rw[pl_mk]
  have hval:∀A,(Ex.mk d ks).d.val A n c= .agg #[.int .i64 d.op,.string d.tb,.string d.nm,.int .i64 d.ix,.int .i64 d.vk,.int .i64 d.vi,.string d.vt,.slice A n c]:=fun _=>rfl
  rw[hval]
  unfold plD
  rcases opN_cases d.op with ⟨h0,h5⟩|⟨h0,h5⟩|⟨h0,h5⟩|h0
  ·rcases h5 with h5|h5
   ·unfold ndB at f3
    rw[if_neg (by omega),if_pos h5]at f3
    simp only[Bool.and_eq_true]at f3
    obtain⟨l1,l2,l3⟩:=litB_size f3.2
    rw[if_pos h5,h5]
    rcases l3 with l3|l3|l3
    ·rw[if_neg (by omega),if_neg (by omega),l3]
     exact pl_null _ _ _ d.vk _ _ _ _ _ _
    ·rw[if_pos l3,l3]
     exact pl_num _ _ _ d.vk _ _ _ _ _ _ fun W hW=> (hg.ext hW).can h3.vi
    ·rw[if_neg (by omega),if_pos l3,l3]
     have:=quoB_size d.vt
     exact pl_text _ _ _ d.vk _ _ _ _ _ _ hg.sh (by omega) (by omega)
   ·unfold ndB at f3
    rw[if_pos h5]at f3
    simp only[Bool.and_eq_true,Bool.or_eq_true,beq_iff_eq]at f3
    have l1:=nameB_size f3.1.1
    rw[if_neg (by omega),if_pos h5,h5]
    by_cases ht:d.tb.size=0
    ·rw[if_pos ht,empty_yes ht]
     exact pl_col d.tb _ _ _ _ _ _ _ _ _
    ·rw[if_neg ht]
     have l2:d.tb.size≤24:=by
      rcases f3.1.2 with h|h
      ·exact absurd h ht
      ·exact nameB_size h
     exact pl_qual _ _ _ _ _ _ _ _ _ _ (empty_no ht) (empty_no2 ht) (by omega) (by omega)
  ·obtain⟨a,rfl⟩:∃a,ks= [a]:=by
    have:ks.length=1:=by omega
    exact List.length_eq_one_iff.1 this
   obtain⟨b,off,A',n',c',rfl,hE⟩:=h4.get (i:=0) (e:=a) rfl
   have ha:a∈[a]:=by simp
   have hn1:n=1:=by rw[←h1];rfl
   simp only[List.map_cons,List.map_nil,List.getD_cons_zero]
   rcases h5 with h5|h5|h5|h5
   ·rw[if_neg (by omega),if_neg (by omega),if_pos h5,h5]
    exact pl_neg _ _ _ _ _ _ b off n c w a _ A' n' c' hn1 (htx a ha 8) hE fun W hW=>hx a ha 8 A' n' c' W hW (hE.val.ext hW)
   ·rw[if_neg (by omega),if_neg (by omega),if_neg (by omega),if_pos h5,h5]
    exact pl_len _ _ _ _ _ _ b off n c w a _ A' n' c' hn1 (htx a ha 1) hE fun W hW=>hx a ha 1 A' n' c' W hW (hE.val.ext hW)
   ·rw[if_neg (by omega),if_neg (by omega),if_neg (by omega),if_neg (by omega),if_pos h5,h5]
    exact pl_isnull _ _ _ _ _ _ b off n c w a _ A' n' c' hn1 (htx a ha 5) hE fun W hW=>hx a ha 5 A' n' c' W hW (hE.val.ext hW)
   ·rw[if_neg (by omega),if_neg (by omega),if_neg (by omega),if_neg (by omega),if_neg (by omega),if_pos h5,h5]
    exact pl_not _ _ _ _ _ _ b off n c w a _ A' n' c' hn1 (htx a ha 3) hE fun W hW=>hx a ha 3 A' n' c' W hW (hE.val.ext hW)
  ·obtain⟨x,y,rfl⟩:∃x y,ks= [x,y]:=by
    have:ks.length=2:=by omega
    match ks,this with
    | [x,y],_=>exact⟨x,y,rfl⟩
   obtain⟨b,off,A1,n1,c1,rfl,hE⟩:=h4.get (i:=0) (e:=x) rfl
   obtain⟨b2,off2,A2,n2,c2,hA2,hE2⟩:=h4.get (i:=1) (e:=y) rfl
   simp only[Option.some.injEq,Addr.mk.injEq,and_true]at hA2
   obtain⟨rfl,rfl⟩:=hA2
   have ha:x∈[x,y]:=by simp
   have hb:y∈[x,y]:=by simp
   have hn2:n=2:=by rw[←h1];rfl
   simp only[List.map_cons,List.map_nil,List.getD_cons_zero,List.getD_cons_succ]
   rw[if_neg (by omega),if_neg (by omega),if_neg (by omega),if_neg (by omega),if_neg (by omega),if_neg (by omega)]
   by_cases h4':lvl d.op=4
   ·rw[if_pos h4']
    exact pc_bin4 d.op _ _ _ _ _ _ b off n c w x y _ _ A1 A2 n1 n2 c1 c2 h5 hn2 (htx x ha 5) (htx y hb (lvl d.op+1)) hE hE2 (by rw[h4'];rfl)
     (fun W hW=>hx x ha 5 A1 n1 c1 W hW (hE.val.ext hW)) (fun W hW=>hx y hb (lvl d.op+1) A2 n2 c2 W hW (hE2.val.ext hW))
   ·rw[if_neg h4']
    exact pc_bin d.op _ _ _ _ _ _ b off n c w x y _ _ A1 A2 n1 n2 c1 c2 h5 hn2 (htx x ha (lvl d.op)) (htx y hb (lvl d.op+1)) hE hE2 (by simpa using h4')
     (fun W hW=>hx x ha (lvl d.op) A1 n1 c1 W hW (hE.val.ext hW)) (fun W hW=>hx y hb (lvl d.op+1) A2 n2 c2 W hW (hE2.val.ext hW))
  ·omega
theorem expr_any (e:Ex) (r:Int) (A:Option Addr) (n c:Nat) (w:World) (hv:ExV w e A n c) (hf:e.formed=true) (hs:e.size≤1000) (hg:Gd w):
  Calls Tryz.prog 131 #[e.d.val A n c,.int .i64 r] w fun x w'=>x= .returned (.string (e.tx r))∧Ext w w':=
 expr_of_plain e r A n c w (by have:=pl_size e hf;omega) fun W hW=>plain_any e A n c W (hv.ext hW) hf hs (hg.ext hW)
end Go.Proofs.YtjigcpfjhfoheaaGreatDoor
