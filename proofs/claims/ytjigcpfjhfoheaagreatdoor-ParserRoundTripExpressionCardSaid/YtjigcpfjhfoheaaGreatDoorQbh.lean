/- Walks: unary, not; Walk: primary. -/
import Derived.Test.YtjigcpfjhfoheaaGreatDoorQbg
namespace Go.Proofs.YtjigcpfjhfoheaaGreatDoor
open Go.RowKit
set_option maxHeartbeats 2000000
set_option maxRecDepth 100000
set_option linter.unusedVariables false
set_option linter.unusedSimpArgs false
section
open Lx (Tk)
def Rdr (T P:Nat) (A:Option Addr) (c:Nat) (L:List Tk) (w0:World) (n:Nat) (F:FuncId) (m:M Ex):Prop:=∀(W:World) (st:Ps),PsAt T P A c L w0 W st→st.r.length<n→
 Calls Tryz.prog F #[.pointer (some ⟨P,0,none⟩)] W (Ran T P A c L w0 W (m st).2 fun v W'=>ExG W.heap.size W' (m st).1 v)
section
variable {P c:Nat} {A:Option Addr} {L:List Tk} {w0 w:World} {s:Ps}
theorem unary_rd {n:Nat} {p:M Ex} (hr:Rdr 68 P A c L w0 n 313 p) (hn:s.r.length<n) (hp:PsAt 68 P A c L w0 w s) (hL:TkL L):
  Calls Tryz.prog 297 #[.pointer (some ⟨P,0,none⟩)] w (Ran 68 P A c L w0 w (cj p s).2 fun v w'=>ExG w.heap.size w' (cj p s).1 v):=by
 have hx0:=(Ext.refl w).alloc (.cells #[.int .i64 0,.string ⟨#[]⟩,.string ⟨#[]⟩,.int .i64 0,.int .i64 0,.int .i64 0,.string ⟨#[]⟩,.slice none 0 0] 37)
 have HS0:=hid (hp.ext hx0)
 have HG0:Hid (P<w.heap.size):=hp.lt
 have HR0:=hid (Blk.of_new w 37 [.int .i64 0,.string ⟨#[]⟩,.string ⟨#[]⟩,.int .i64 0,.int .i64 0,.int .i64 0,.string ⟨#[]⟩,.slice none 0 0])
 have HC0:=hid (Chg.of (P:=P) hx0)
 have HM:Hid (cj p s=if isS ct s=true then (opE 3 [(p s.next).1],(p s.next).2)else p s):=rfl
 have HN1:Hid (w.heap.size≤(w.alloc (.cells #[.int .i64 0,.string ⟨#[]⟩,.string ⟨#[]⟩,.int .i64 0,.int .i64 0,.int .i64 0,.string ⟨#[]⟩,.slice none 0 0] 37)).heap.size):=hx0.size
 obtain⟨R,hR⟩:∃R,cj p s=R:=⟨_,rfl⟩
 rw[hR]at HM ⊢
 clear hp hx0 hR
 go_enter Tryz.func297,Tryz.ntmps297
 go_upto_region 1 with fail
 generalize w.alloc (.cells #[.int .i64 0,.string ⟨#[]⟩,.string ⟨#[]⟩,.int .i64 0,.int .i64 0,.int .i64 0,.string ⟨#[]⟩,.slice none 0 0] 37)=wz at*
 obtain⟨g0,hg0⟩:∃g,w.heap.size=g:=⟨_,rfl⟩
 have HN0:=hid hg0
 rw[hg0]at HG0 HR0 HN1 ⊢
 clear hg0
 have HG:=HG0
 go_wp2_with fail
 refine(aq HS0.out hL ct).mono ?_
 rintro _ w1 ⟨v,rfl,h1,h2,rfl⟩
 have HS1:=hid h1
 have HR1:=hid (h2.blk HR0.out (by have:=HG.out;omega))
 have HC1:=hid (HC0.out.trans h2)
 clear h1 h2
 clear HR0 HC0 HS0
 cases hb1:isS ct s
 ·have e:(au ct s).2=s:=by simp[au,hb1]
  rw[e]at HS1
  clear e
  go_wp2_with fail
  refine(hr _ _ HS1.out hn).mono ?_
  rintro _ w2 ⟨v,rfl,h1,h2,A1,k1,c1,rfl,h3⟩
  have HS2:=hid h1
  have HR2:=hid (h2.blk HR1.out (by have:=HG.out;omega))
  have HC2:=hid (HC1.out.trans h2)
  obtain⟨e1,he1⟩:∃e,(p s).1=e:=⟨_,rfl⟩
  have HV1:=hid he1
  rw[he1]at h3 ⊢
  clear he1
  obtain⟨⟨op,tb,nm,ix,vk,vi,vt⟩,ks⟩:=e1
  unfold Nd.val
  simp only[Ex.d]
  have HX1_2:Hid (Stb (g0+1≤·) w2 fun w'=>ExV w' (.mk ⟨op,tb,nm,ix,vk,vi,vt⟩ ks) A1 k1 c1):=h3.weak fun q _ hq=>Nat.le_trans HR1.out.lt hq
  clear h1 h2 h3
  clear HR1 HC1 HS1
  have HXX:Hid (ExG (g0+1) w2 (.mk ⟨op,tb,nm,ix,vk,vi,vt⟩ ks) (.agg #[.int .i64 op,.string tb,.string nm,.int .i64 ix,.int .i64 vk,.int .i64 vi,.string vt,.slice A1 k1 c1])):=⟨A1,k1,c1,rfl,HX1_2.out⟩
  have HRv:Hid (R.1=(.mk ⟨op,tb,nm,ix,vk,vi,vt⟩ ks)):=by
   rw[HM.out,hb1]
   exact HV1.out
  have HRs:Hid (R.2=(p s).2):=by
   rw[HM.out,hb1]
   rfl
  obtain⟨z0,z1,z2,z3,z4,z5,z6,z7,-⟩:=cls HR2.out
  obtain⟨y0,y1,y2,y3,y4,y5,y6,y7,-⟩:=frz HR2.out
  have hz:=ax HR2.out [.int .i64 op,.string tb,.string nm,.int .i64 ix,.int .i64 vk,.int .i64 vi,.string vt,.slice A1 k1 c1] rfl
  have HGr:=hid (ak g0 [.int .i64 op,.string tb,.string nm,.int .i64 ix,.int .i64 vk,.int .i64 vi,.string vt,.slice A1 k1 c1] w2 0)
  simp only[sts]at hz
  have HZ:=hid hz
  clear hz
  go_wp2_with fail
  obtain⟨q0,q1,q2,q3,q4,q5,q6,q7,-⟩:=cls HZ.out
  exact bodyPost_ret (v:= .agg #[.int .i64 op,.string tb,.string nm,.int .i64 ix,.int .i64 vk,.int .i64 vi,.string vt,.slice A1 k1 c1]) (by simp[results,Tryz.results297,go_sem,q0,q1,q2,q3,q4,q5,q6,q7]) rfl ⟨_,rfl,by rw[HRs.out];exact HS2.out.grown HGr.out (fun q hq=>by have:=HG.out;have:=Option.some.inj hq;omega),HC2.out.own HGr.out (fun q hq=>by have:=Option.some.inj hq;rw[HN0.out];omega),by rw[HRv.out,HN0.out];exact bg HXX.out HGr.out (Nat.lt_succ_self _)⟩
 ·have e:(au ct s).2=s.next:=by simp[au,hb1]
  rw[e]at HS1
  clear e
  have hln:=aP hb1
  go_wp2_with fail
  refine(hr _ _ HS1.out (by omega)).mono ?_
  rintro _ w2 ⟨v,rfl,h1,h2,A1,k1,c1,rfl,h3⟩
  have HS2:=hid h1
  have HR2:=hid (h2.blk HR1.out (by have:=HG.out;omega))
  have HC2:=hid (HC1.out.trans h2)
  obtain⟨e1,he1⟩:∃e,(p s.next).1=e:=⟨_,rfl⟩
  have HV1:=hid he1
  rw[he1]at h3 ⊢
  clear he1
  obtain⟨⟨op,tb,nm,ix,vk,vi,vt⟩,ks⟩:=e1
  unfold Nd.val
  simp only[Ex.d]
  have HX1_2:Hid (Stb (g0+1≤·) w2 fun w'=>ExV w' (.mk ⟨op,tb,nm,ix,vk,vi,vt⟩ ks) A1 k1 c1):=h3.weak fun q _ hq=>Nat.le_trans HR1.out.lt hq
  clear h1 h2 h3
  clear HR1 HC1 HS1
  go_wp2_with fail
  refine(bY _ _ _ _ _).mono ?_
  rintro _ w3 ⟨rfl,hx⟩
  have hx2:Ext w2 w3:=((Ext.refl w2).alloc (.cells #[.int .i64 op,.string tb,.string nm,.int .i64 ix,.int .i64 vk,.int .i64 vi,.string vt,.slice A1 k1 c1] 37)).trans hx
  have HR3:=hid (HR2.out.ext hx2)
  have HC3:=hid (HC2.out.ext hx2)
  have HS3:=hid (HS2.out.ext hx2)
  have HX1_3:=hid (Stb.ext HX1_2.out hx2)
  have HO_3:=hid ((iO (n:=g0+1) (T:=37) (o:=3) (by unfold I64;omega) HR2.out.lt HX1_2.out).ext hx)
  clear hx hx2
  clear HR2 HC2 HS2 HX1_2
  have HXX:Hid (ExG (g0+1) w3 (opE 3 [(.mk ⟨op,tb,nm,ix,vk,vi,vt⟩ ks)]) (.agg #[.int .i64 3,.string ⟨#[]⟩,.string ⟨#[]⟩,.int .i64 0,.int .i64 0,.int .i64 0,.string ⟨#[]⟩,.slice (some ⟨w2.heap.size,0,none⟩) 1 1])):=HO_3.out
  have HRv:Hid (R.1=(opE 3 [(.mk ⟨op,tb,nm,ix,vk,vi,vt⟩ ks)])):=by
   rw[HM.out,hb1]
   exact congrArg (fun x=>opE 3 [x]) HV1.out
  have HRs:Hid (R.2=(p s.next).2):=by
   rw[HM.out,hb1]
   rfl
  obtain⟨z0,z1,z2,z3,z4,z5,z6,z7,-⟩:=cls HR3.out
  obtain⟨y0,y1,y2,y3,y4,y5,y6,y7,-⟩:=frz HR3.out
  have hz:=ax HR3.out [.int .i64 3,.string ⟨#[]⟩,.string ⟨#[]⟩,.int .i64 0,.int .i64 0,.int .i64 0,.string ⟨#[]⟩,.slice (some ⟨w2.heap.size,0,none⟩) 1 1] rfl
  have HGr:=hid (ak g0 [.int .i64 3,.string ⟨#[]⟩,.string ⟨#[]⟩,.int .i64 0,.int .i64 0,.int .i64 0,.string ⟨#[]⟩,.slice (some ⟨w2.heap.size,0,none⟩) 1 1] w3 0)
  simp only[sts]at hz
  have HZ:=hid hz
  clear hz
  go_wp2_with fail
  obtain⟨q0,q1,q2,q3,q4,q5,q6,q7,-⟩:=cls HZ.out
  exact bodyPost_ret (v:= .agg #[.int .i64 3,.string ⟨#[]⟩,.string ⟨#[]⟩,.int .i64 0,.int .i64 0,.int .i64 0,.string ⟨#[]⟩,.slice (some ⟨w2.heap.size,0,none⟩) 1 1]) (by simp[results,Tryz.results297,go_sem,q0,q1,q2,q3,q4,q5,q6,q7]) rfl ⟨_,rfl,by rw[HRs.out];exact HS3.out.grown HGr.out (fun q hq=>by have:=HG.out;have:=Option.some.inj hq;omega),HC3.out.own HGr.out (fun q hq=>by have:=Option.some.inj hq;rw[HN0.out];omega),by rw[HRv.out,HN0.out];exact bg HXX.out HGr.out (Nat.lt_succ_self _)⟩
theorem nA {n:Nat} {p:M Ex} (hfw:Fwd p) (hr:Rdr 68 P A c L w0 n 297 (cj p)) (hn:s.r.length<n) (hp:PsAt 68 P A c L w0 w s) (hL:TkL L):
  Calls Tryz.prog 278 #[.pointer (some ⟨P,0,none⟩)] w (Ran 68 P A c L w0 w (eq p s).2 fun v w'=>ExG w.heap.size w' (eq p s).1 v):=by
 have hx0:=(Ext.refl w).alloc (.cells #[.int .i64 0,.string ⟨#[]⟩,.string ⟨#[]⟩,.int .i64 0,.int .i64 0,.int .i64 0,.string ⟨#[]⟩,.slice none 0 0] 37)
 have HS0:=hid (hp.ext hx0)
 have HG0:Hid (P<w.heap.size):=hp.lt
 have HR0:=hid (Blk.of_new w 37 [.int .i64 0,.string ⟨#[]⟩,.string ⟨#[]⟩,.int .i64 0,.int .i64 0,.int .i64 0,.string ⟨#[]⟩,.slice none 0 0])
 have HC0:=hid (Chg.of (P:=P) hx0)
 have HM:Hid (eq p s=aL (cj p) opsPro s):=rfl
 have HN1:Hid (w.heap.size≤(w.alloc (.cells #[.int .i64 0,.string ⟨#[]⟩,.string ⟨#[]⟩,.int .i64 0,.int .i64 0,.int .i64 0,.string ⟨#[]⟩,.slice none 0 0] 37)).heap.size):=hx0.size
 obtain⟨R,hR⟩:∃R,eq p s=R:=⟨_,rfl⟩
 rw[hR]at HM ⊢
 clear hp hx0 hR
 go_enter Tryz.func278,Tryz.ntmps278
 go_upto_region 1 with fail
 generalize w.alloc (.cells #[.int .i64 0,.string ⟨#[]⟩,.string ⟨#[]⟩,.int .i64 0,.int .i64 0,.int .i64 0,.string ⟨#[]⟩,.slice none 0 0] 37)=wz at*
 obtain⟨g0,hg0⟩:∃g,w.heap.size=g:=⟨_,rfl⟩
 have HN0:=hid hg0
 rw[hg0]at HG0 HR0 HN1 ⊢
 clear hg0
 have HG:=HG0
 go_wp2_with fail
 refine(fa 297 (fun _ _=>by kernel_rfl) (cj p) (gh hfw) opsPro (by decide) (by unfold I64;decide) wz.heap.size (Blk.of_new wz 120 [.string ⟨#[42]⟩,.int .i64 6,.string ⟨#[47]⟩,.int .i64 7,.string ⟨#[37]⟩,.int .i64 8]) (by have:=HS0.out.lt;omega) (HS0.out.ext ((Ext.refl wz).alloc (.cells #[.string ⟨#[42]⟩,.int .i64 6,.string ⟨#[47]⟩,.int .i64 7,.string ⟨#[37]⟩,.int .i64 8] 120))) hL (fun W st h1 h2=>hr W st h1 (by omega))).mono ?_
 rintro _ w1 ⟨v,rfl,h1,h2,A1,k1,c1,rfl,h3⟩
 replace h2:Chg P wz w1:=(Chg.of ((Ext.refl wz).alloc (.cells #[.string ⟨#[42]⟩,.int .i64 6,.string ⟨#[47]⟩,.int .i64 7,.string ⟨#[37]⟩,.int .i64 8] 120))).trans h2
 have HS1:=hid h1
 have HR1:=hid (h2.blk HR0.out (by have:=HG.out;omega))
 have HC1:=hid (HC0.out.trans h2)
 obtain⟨e1,he1⟩:∃e,(aL (cj p) opsPro s).1=e:=⟨_,rfl⟩
 have HV1:=hid he1
 rw[he1]at h3 ⊢
 clear he1
 obtain⟨⟨op,tb,nm,ix,vk,vi,vt⟩,ks⟩:=e1
 unfold Nd.val
 simp only[Ex.d]
 have HX1_1:Hid (Stb (g0+1≤·) w1 fun w'=>ExV w' (.mk ⟨op,tb,nm,ix,vk,vi,vt⟩ ks) A1 k1 c1):=h3.weak fun q _ hq=>Nat.le_trans HR0.out.lt (Nat.le_trans (by simp) hq)
 clear h1 h2 h3
 clear HR0 HC0 HS0
 have HXX:Hid (ExG (g0+1) w1 (.mk ⟨op,tb,nm,ix,vk,vi,vt⟩ ks) (.agg #[.int .i64 op,.string tb,.string nm,.int .i64 ix,.int .i64 vk,.int .i64 vi,.string vt,.slice A1 k1 c1])):=⟨A1,k1,c1,rfl,HX1_1.out⟩
 have HRv:Hid (R.1=(.mk ⟨op,tb,nm,ix,vk,vi,vt⟩ ks)):=by
  rw[HM.out]
  exact HV1.out
 have HRs:Hid (R.2=(aL (cj p) opsPro s).2):=by
  rw[HM.out]
  rfl
 obtain⟨z0,z1,z2,z3,z4,z5,z6,z7,-⟩:=cls HR1.out
 obtain⟨y0,y1,y2,y3,y4,y5,y6,y7,-⟩:=frz HR1.out
 have hz:=ax HR1.out [.int .i64 op,.string tb,.string nm,.int .i64 ix,.int .i64 vk,.int .i64 vi,.string vt,.slice A1 k1 c1] rfl
 have HGr:=hid (ak g0 [.int .i64 op,.string tb,.string nm,.int .i64 ix,.int .i64 vk,.int .i64 vi,.string vt,.slice A1 k1 c1] w1 0)
 simp only[sts]at hz
 have HZ:=hid hz
 clear hz
 go_wp2_with fail
 obtain⟨q0,q1,q2,q3,q4,q5,q6,q7,-⟩:=cls HZ.out
 exact bodyPost_ret (v:= .agg #[.int .i64 op,.string tb,.string nm,.int .i64 ix,.int .i64 vk,.int .i64 vi,.string vt,.slice A1 k1 c1]) (by simp[results,Tryz.results278,go_sem,q0,q1,q2,q3,q4,q5,q6,q7]) rfl ⟨_,rfl,by rw[HRs.out];exact HS1.out.grown HGr.out (fun q hq=>by have:=HG.out;have:=Option.some.inj hq;omega),HC1.out.own HGr.out (fun q hq=>by have:=Option.some.inj hq;rw[HN0.out];omega),by rw[HRv.out,HN0.out];exact bg HXX.out HGr.out (Nat.lt_succ_self _)⟩
theorem sum_rd {n:Nat} {p:M Ex} (hfw:Fwd p) (hr:Rdr 68 P A c L w0 n 278 (eq p)) (hn:s.r.length<n) (hp:PsAt 68 P A c L w0 w s) (hL:TkL L):
  Calls Tryz.prog 258 #[.pointer (some ⟨P,0,none⟩)] w (Ran 68 P A c L w0 w (sumP p s).2 fun v w'=>ExG w.heap.size w' (sumP p s).1 v):=by
 have hx0:=(Ext.refl w).alloc (.cells #[.int .i64 0,.string ⟨#[]⟩,.string ⟨#[]⟩,.int .i64 0,.int .i64 0,.int .i64 0,.string ⟨#[]⟩,.slice none 0 0] 37)
 have HS0:=hid (hp.ext hx0)
 have HG0:Hid (P<w.heap.size):=hp.lt
 have HR0:=hid (Blk.of_new w 37 [.int .i64 0,.string ⟨#[]⟩,.string ⟨#[]⟩,.int .i64 0,.int .i64 0,.int .i64 0,.string ⟨#[]⟩,.slice none 0 0])
 have HC0:=hid (Chg.of (P:=P) hx0)
 have HM:Hid (sumP p s=aL (eq p) opsSum s):=rfl
 have HN1:Hid (w.heap.size≤(w.alloc (.cells #[.int .i64 0,.string ⟨#[]⟩,.string ⟨#[]⟩,.int .i64 0,.int .i64 0,.int .i64 0,.string ⟨#[]⟩,.slice none 0 0] 37)).heap.size):=hx0.size
 obtain⟨R,hR⟩:∃R,sumP p s=R:=⟨_,rfl⟩
 rw[hR]at HM ⊢
 clear hp hx0 hR
 go_enter Tryz.func258,Tryz.ntmps258
 go_upto_region 1 with fail
 generalize w.alloc (.cells #[.int .i64 0,.string ⟨#[]⟩,.string ⟨#[]⟩,.int .i64 0,.int .i64 0,.int .i64 0,.string ⟨#[]⟩,.slice none 0 0] 37)=wz at*
 obtain⟨g0,hg0⟩:∃g,w.heap.size=g:=⟨_,rfl⟩
 have HN0:=hid hg0
 rw[hg0]at HG0 HR0 HN1 ⊢
 clear hg0
 have HG:=HG0
 go_wp2_with fail
 refine(fa 278 (fun _ _=>by kernel_rfl) (eq p) (dd (gh hfw) _) opsSum (by decide) (by unfold I64;decide) wz.heap.size (Blk.of_new wz 120 [.string ⟨#[43]⟩,.int .i64 4,.string ⟨#[45]⟩,.int .i64 5]) (by have:=HS0.out.lt;omega) (HS0.out.ext ((Ext.refl wz).alloc (.cells #[.string ⟨#[43]⟩,.int .i64 4,.string ⟨#[45]⟩,.int .i64 5] 120))) hL (fun W st h1 h2=>hr W st h1 (by omega))).mono ?_
 rintro _ w1 ⟨v,rfl,h1,h2,A1,k1,c1,rfl,h3⟩
 replace h2:Chg P wz w1:=(Chg.of ((Ext.refl wz).alloc (.cells #[.string ⟨#[43]⟩,.int .i64 4,.string ⟨#[45]⟩,.int .i64 5] 120))).trans h2
 have HS1:=hid h1
 have HR1:=hid (h2.blk HR0.out (by have:=HG.out;omega))
 have HC1:=hid (HC0.out.trans h2)
 obtain⟨e1,he1⟩:∃e,(aL (eq p) opsSum s).1=e:=⟨_,rfl⟩
 have HV1:=hid he1
 rw[he1]at h3 ⊢
 clear he1
 obtain⟨⟨op,tb,nm,ix,vk,vi,vt⟩,ks⟩:=e1
 unfold Nd.val
 simp only[Ex.d]
 have HX1_1:Hid (Stb (g0+1≤·) w1 fun w'=>ExV w' (.mk ⟨op,tb,nm,ix,vk,vi,vt⟩ ks) A1 k1 c1):=h3.weak fun q _ hq=>Nat.le_trans HR0.out.lt (Nat.le_trans (by simp) hq)
 clear h1 h2 h3
 clear HR0 HC0 HS0
 have HXX:Hid (ExG (g0+1) w1 (.mk ⟨op,tb,nm,ix,vk,vi,vt⟩ ks) (.agg #[.int .i64 op,.string tb,.string nm,.int .i64 ix,.int .i64 vk,.int .i64 vi,.string vt,.slice A1 k1 c1])):=⟨A1,k1,c1,rfl,HX1_1.out⟩
 have HRv:Hid (R.1=(.mk ⟨op,tb,nm,ix,vk,vi,vt⟩ ks)):=by
  rw[HM.out]
  exact HV1.out
 have HRs:Hid (R.2=(aL (eq p) opsSum s).2):=by
  rw[HM.out]
  rfl
 obtain⟨z0,z1,z2,z3,z4,z5,z6,z7,-⟩:=cls HR1.out
 obtain⟨y0,y1,y2,y3,y4,y5,y6,y7,-⟩:=frz HR1.out
 have hz:=ax HR1.out [.int .i64 op,.string tb,.string nm,.int .i64 ix,.int .i64 vk,.int .i64 vi,.string vt,.slice A1 k1 c1] rfl
 have HGr:=hid (ak g0 [.int .i64 op,.string tb,.string nm,.int .i64 ix,.int .i64 vk,.int .i64 vi,.string vt,.slice A1 k1 c1] w1 0)
 simp only[sts]at hz
 have HZ:=hid hz
 clear hz
 go_wp2_with fail
 obtain⟨q0,q1,q2,q3,q4,q5,q6,q7,-⟩:=cls HZ.out
 exact bodyPost_ret (v:= .agg #[.int .i64 op,.string tb,.string nm,.int .i64 ix,.int .i64 vk,.int .i64 vi,.string vt,.slice A1 k1 c1]) (by simp[results,Tryz.results258,go_sem,q0,q1,q2,q3,q4,q5,q6,q7]) rfl ⟨_,rfl,by rw[HRs.out];exact HS1.out.grown HGr.out (fun q hq=>by have:=HG.out;have:=Option.some.inj hq;omega),HC1.out.own HGr.out (fun q hq=>by have:=Option.some.inj hq;rw[HN0.out];omega),by rw[HRv.out,HN0.out];exact bg HXX.out HGr.out (Nat.lt_succ_self _)⟩
theorem and_rd {n:Nat} {p:M Ex} (hfw:Fwd p) (hr:Rdr 68 P A c L w0 n 152 (notP p)) (hn:s.r.length<n) (hp:PsAt 68 P A c L w0 w s) (hL:TkL L):
  Calls Tryz.prog 78 #[.pointer (some ⟨P,0,none⟩)] w (Ran 68 P A c L w0 w (fh p s).2 fun v w'=>ExG w.heap.size w' (fh p s).1 v):=by
 have hx0:=(Ext.refl w).alloc (.cells #[.int .i64 0,.string ⟨#[]⟩,.string ⟨#[]⟩,.int .i64 0,.int .i64 0,.int .i64 0,.string ⟨#[]⟩,.slice none 0 0] 37)
 have HS0:=hid (hp.ext hx0)
 have HG0:Hid (P<w.heap.size):=hp.lt
 have HR0:=hid (Blk.of_new w 37 [.int .i64 0,.string ⟨#[]⟩,.string ⟨#[]⟩,.int .i64 0,.int .i64 0,.int .i64 0,.string ⟨#[]⟩,.slice none 0 0])
 have HC0:=hid (Chg.of (P:=P) hx0)
 have HM:Hid (fh p s=aL (notP p) opsAnd s):=rfl
 have HN1:Hid (w.heap.size≤(w.alloc (.cells #[.int .i64 0,.string ⟨#[]⟩,.string ⟨#[]⟩,.int .i64 0,.int .i64 0,.int .i64 0,.string ⟨#[]⟩,.slice none 0 0] 37)).heap.size):=hx0.size
 obtain⟨R,hR⟩:∃R,fh p s=R:=⟨_,rfl⟩
 rw[hR]at HM ⊢
 clear hp hx0 hR
 go_enter Tryz.func78,Tryz.ntmps78
 go_upto_region 1 with fail
 generalize w.alloc (.cells #[.int .i64 0,.string ⟨#[]⟩,.string ⟨#[]⟩,.int .i64 0,.int .i64 0,.int .i64 0,.string ⟨#[]⟩,.slice none 0 0] 37)=wz at*
 obtain⟨g0,hg0⟩:∃g,w.heap.size=g:=⟨_,rfl⟩
 have HN0:=hid hg0
 rw[hg0]at HG0 HR0 HN1 ⊢
 clear hg0
 have HG:=HG0
 go_wp2_with fail
 refine(fa 152 (fun _ _=>by kernel_rfl) (notP p) (fun s=>eQ hfw _ s) opsAnd (by decide) (by unfold I64;decide) wz.heap.size (Blk.of_new wz 120 [.string ⟨#[65,78,68]⟩,.int .i64 18]) (by have:=HS0.out.lt;omega) (HS0.out.ext ((Ext.refl wz).alloc (.cells #[.string ⟨#[65,78,68]⟩,.int .i64 18] 120))) hL (fun W st h1 h2=>hr W st h1 (by omega))).mono ?_
 rintro _ w1 ⟨v,rfl,h1,h2,A1,k1,c1,rfl,h3⟩
 replace h2:Chg P wz w1:=(Chg.of ((Ext.refl wz).alloc (.cells #[.string ⟨#[65,78,68]⟩,.int .i64 18] 120))).trans h2
 have HS1:=hid h1
 have HR1:=hid (h2.blk HR0.out (by have:=HG.out;omega))
 have HC1:=hid (HC0.out.trans h2)
 obtain⟨e1,he1⟩:∃e,(aL (notP p) opsAnd s).1=e:=⟨_,rfl⟩
 have HV1:=hid he1
 rw[he1]at h3 ⊢
 clear he1
 obtain⟨⟨op,tb,nm,ix,vk,vi,vt⟩,ks⟩:=e1
 unfold Nd.val
 simp only[Ex.d]
 have HX1_1:Hid (Stb (g0+1≤·) w1 fun w'=>ExV w' (.mk ⟨op,tb,nm,ix,vk,vi,vt⟩ ks) A1 k1 c1):=h3.weak fun q _ hq=>Nat.le_trans HR0.out.lt (Nat.le_trans (by simp) hq)
 clear h1 h2 h3
 clear HR0 HC0 HS0
 have HXX:Hid (ExG (g0+1) w1 (.mk ⟨op,tb,nm,ix,vk,vi,vt⟩ ks) (.agg #[.int .i64 op,.string tb,.string nm,.int .i64 ix,.int .i64 vk,.int .i64 vi,.string vt,.slice A1 k1 c1])):=⟨A1,k1,c1,rfl,HX1_1.out⟩
 have HRv:Hid (R.1=(.mk ⟨op,tb,nm,ix,vk,vi,vt⟩ ks)):=by
  rw[HM.out]
  exact HV1.out
 have HRs:Hid (R.2=(aL (notP p) opsAnd s).2):=by
  rw[HM.out]
  rfl
 obtain⟨z0,z1,z2,z3,z4,z5,z6,z7,-⟩:=cls HR1.out
 obtain⟨y0,y1,y2,y3,y4,y5,y6,y7,-⟩:=frz HR1.out
 have hz:=ax HR1.out [.int .i64 op,.string tb,.string nm,.int .i64 ix,.int .i64 vk,.int .i64 vi,.string vt,.slice A1 k1 c1] rfl
 have HGr:=hid (ak g0 [.int .i64 op,.string tb,.string nm,.int .i64 ix,.int .i64 vk,.int .i64 vi,.string vt,.slice A1 k1 c1] w1 0)
 simp only[sts]at hz
 have HZ:=hid hz
 clear hz
 go_wp2_with fail
 obtain⟨q0,q1,q2,q3,q4,q5,q6,q7,-⟩:=cls HZ.out
 exact bodyPost_ret (v:= .agg #[.int .i64 op,.string tb,.string nm,.int .i64 ix,.int .i64 vk,.int .i64 vi,.string vt,.slice A1 k1 c1]) (by simp[results,Tryz.results78,go_sem,q0,q1,q2,q3,q4,q5,q6,q7]) rfl ⟨_,rfl,by rw[HRs.out];exact HS1.out.grown HGr.out (fun q hq=>by have:=HG.out;have:=Option.some.inj hq;omega),HC1.out.own HGr.out (fun q hq=>by have:=Option.some.inj hq;rw[HN0.out];omega),by rw[HRv.out,HN0.out];exact bg HXX.out HGr.out (Nat.lt_succ_self _)⟩
theorem expr_rd {n:Nat} {p:M Ex} (hfw:Fwd p) (hr:Rdr 68 P A c L w0 n 78 (fh p)) (hn:s.r.length<n) (hp:PsAt 68 P A c L w0 w s) (hL:TkL L):
  Calls Tryz.prog 39 #[.pointer (some ⟨P,0,none⟩)] w (Ran 68 P A c L w0 w (orP p s).2 fun v w'=>ExG w.heap.size w' (orP p s).1 v):=by
 have hx0:=(Ext.refl w).alloc (.cells #[.int .i64 0,.string ⟨#[]⟩,.string ⟨#[]⟩,.int .i64 0,.int .i64 0,.int .i64 0,.string ⟨#[]⟩,.slice none 0 0] 37)
 have HS0:=hid (hp.ext hx0)
 have HG0:Hid (P<w.heap.size):=hp.lt
 have HR0:=hid (Blk.of_new w 37 [.int .i64 0,.string ⟨#[]⟩,.string ⟨#[]⟩,.int .i64 0,.int .i64 0,.int .i64 0,.string ⟨#[]⟩,.slice none 0 0])
 have HC0:=hid (Chg.of (P:=P) hx0)
 have HM:Hid (orP p s=aL (fh p) opsOr s):=rfl
 have HN1:Hid (w.heap.size≤(w.alloc (.cells #[.int .i64 0,.string ⟨#[]⟩,.string ⟨#[]⟩,.int .i64 0,.int .i64 0,.int .i64 0,.string ⟨#[]⟩,.slice none 0 0] 37)).heap.size):=hx0.size
 obtain⟨R,hR⟩:∃R,orP p s=R:=⟨_,rfl⟩
 rw[hR]at HM ⊢
 clear hp hx0 hR
 go_enter Tryz.func39,Tryz.ntmps39
 go_upto_region 1 with fail
 generalize w.alloc (.cells #[.int .i64 0,.string ⟨#[]⟩,.string ⟨#[]⟩,.int .i64 0,.int .i64 0,.int .i64 0,.string ⟨#[]⟩,.slice none 0 0] 37)=wz at*
 obtain⟨g0,hg0⟩:∃g,w.heap.size=g:=⟨_,rfl⟩
 have HN0:=hid hg0
 rw[hg0]at HG0 HR0 HN1 ⊢
 clear hg0
 have HG:=HG0
 go_wp2_with fail
 refine(fa 78 (fun _ _=>by kernel_rfl) (fh p) (iJ hfw) opsOr (by decide) (by unfold I64;decide) wz.heap.size (Blk.of_new wz 120 [.string ⟨#[79,82]⟩,.int .i64 19]) (by have:=HS0.out.lt;omega) (HS0.out.ext ((Ext.refl wz).alloc (.cells #[.string ⟨#[79,82]⟩,.int .i64 19] 120))) hL (fun W st h1 h2=>hr W st h1 (by omega))).mono ?_
 rintro _ w1 ⟨v,rfl,h1,h2,A1,k1,c1,rfl,h3⟩
 replace h2:Chg P wz w1:=(Chg.of ((Ext.refl wz).alloc (.cells #[.string ⟨#[79,82]⟩,.int .i64 19] 120))).trans h2
 have HS1:=hid h1
 have HR1:=hid (h2.blk HR0.out (by have:=HG.out;omega))
 have HC1:=hid (HC0.out.trans h2)
 obtain⟨e1,he1⟩:∃e,(aL (fh p) opsOr s).1=e:=⟨_,rfl⟩
 have HV1:=hid he1
 rw[he1]at h3 ⊢
 clear he1
 obtain⟨⟨op,tb,nm,ix,vk,vi,vt⟩,ks⟩:=e1
 unfold Nd.val
 simp only[Ex.d]
 have HX1_1:Hid (Stb (g0+1≤·) w1 fun w'=>ExV w' (.mk ⟨op,tb,nm,ix,vk,vi,vt⟩ ks) A1 k1 c1):=h3.weak fun q _ hq=>Nat.le_trans HR0.out.lt (Nat.le_trans (by simp) hq)
 clear h1 h2 h3
 clear HR0 HC0 HS0
 have HXX:Hid (ExG (g0+1) w1 (.mk ⟨op,tb,nm,ix,vk,vi,vt⟩ ks) (.agg #[.int .i64 op,.string tb,.string nm,.int .i64 ix,.int .i64 vk,.int .i64 vi,.string vt,.slice A1 k1 c1])):=⟨A1,k1,c1,rfl,HX1_1.out⟩
 have HRv:Hid (R.1=(.mk ⟨op,tb,nm,ix,vk,vi,vt⟩ ks)):=by
  rw[HM.out]
  exact HV1.out
 have HRs:Hid (R.2=(aL (fh p) opsOr s).2):=by
  rw[HM.out]
  rfl
 obtain⟨z0,z1,z2,z3,z4,z5,z6,z7,-⟩:=cls HR1.out
 obtain⟨y0,y1,y2,y3,y4,y5,y6,y7,-⟩:=frz HR1.out
 have hz:=ax HR1.out [.int .i64 op,.string tb,.string nm,.int .i64 ix,.int .i64 vk,.int .i64 vi,.string vt,.slice A1 k1 c1] rfl
 have HGr:=hid (ak g0 [.int .i64 op,.string tb,.string nm,.int .i64 ix,.int .i64 vk,.int .i64 vi,.string vt,.slice A1 k1 c1] w1 0)
 simp only[sts]at hz
 have HZ:=hid hz
 clear hz
 go_wp2_with fail
 obtain⟨q0,q1,q2,q3,q4,q5,q6,q7,-⟩:=cls HZ.out
 exact bodyPost_ret (v:= .agg #[.int .i64 op,.string tb,.string nm,.int .i64 ix,.int .i64 vk,.int .i64 vi,.string vt,.slice A1 k1 c1]) (by simp[results,Tryz.results39,go_sem,q0,q1,q2,q3,q4,q5,q6,q7]) rfl ⟨_,rfl,by rw[HRs.out];exact HS1.out.grown HGr.out (fun q hq=>by have:=HG.out;have:=Option.some.inj hq;omega),HC1.out.own HGr.out (fun q hq=>by have:=Option.some.inj hq;rw[HN0.out];omega),by rw[HRv.out,HN0.out];exact bg HXX.out HGr.out (Nat.lt_succ_self _)⟩
theorem not_eq (p:M Ex) (s:Ps):notP p s=if isS kNOT s=true then (opE 20 [(notP p s.next).1],(notP p s.next).2)else testP p s:=by
 unfold notP
 cases hs:isS kNOT s
 ·cases s.r.length with
  |zero=>rfl
  |succ k=>rw[notGo,hs];rfl
 ·have hl:=aP hs
  rw[←hl,notGo,hs]
theorem not_rd1 {n N:Nat} {p:M Ex} (ht:Rdr 68 P A c L w0 N 220 (testP p)) (hr:Rdr 68 P A c L w0 n 152 (notP p)) (hn:s.r.length<n+1) (hN:s.r.length<N) (hp:PsAt 68 P A c L w0 w s) (hL:TkL L):
  Calls Tryz.prog 152 #[.pointer (some ⟨P,0,none⟩)] w (Ran 68 P A c L w0 w (notP p s).2 fun v w'=>ExG w.heap.size w' (notP p s).1 v):=by
 have hx0:=(Ext.refl w).alloc (.cells #[.int .i64 0,.string ⟨#[]⟩,.string ⟨#[]⟩,.int .i64 0,.int .i64 0,.int .i64 0,.string ⟨#[]⟩,.slice none 0 0] 37)
 have HS0:=hid (hp.ext hx0)
 have HG0:Hid (P<w.heap.size):=hp.lt
 have HR0:=hid (Blk.of_new w 37 [.int .i64 0,.string ⟨#[]⟩,.string ⟨#[]⟩,.int .i64 0,.int .i64 0,.int .i64 0,.string ⟨#[]⟩,.slice none 0 0])
 have HC0:=hid (Chg.of (P:=P) hx0)
 have HM:Hid (notP p s=if isS kNOT s=true then (opE 20 [(notP p s.next).1],(notP p s.next).2)else testP p s):=not_eq p s
 have HN1:Hid (w.heap.size≤(w.alloc (.cells #[.int .i64 0,.string ⟨#[]⟩,.string ⟨#[]⟩,.int .i64 0,.int .i64 0,.int .i64 0,.string ⟨#[]⟩,.slice none 0 0] 37)).heap.size):=hx0.size
 obtain⟨R,hR⟩:∃R,notP p s=R:=⟨_,rfl⟩
 rw[hR]at HM ⊢
 clear hp hx0 hR
 go_enter Tryz.func152,Tryz.ntmps152
 go_upto_region 1 with fail
 generalize w.alloc (.cells #[.int .i64 0,.string ⟨#[]⟩,.string ⟨#[]⟩,.int .i64 0,.int .i64 0,.int .i64 0,.string ⟨#[]⟩,.slice none 0 0] 37)=wz at*
 obtain⟨g0,hg0⟩:∃g,w.heap.size=g:=⟨_,rfl⟩
 have HN0:=hid hg0
 rw[hg0]at HG0 HR0 HN1 ⊢
 clear hg0
 have HG:=HG0
 go_wp2_with fail
 refine(aq HS0.out hL kNOT).mono ?_
 rintro _ w1 ⟨v,rfl,h1,h2,rfl⟩
 have HS1:=hid h1
 have HR1:=hid (h2.blk HR0.out (by have:=HG.out;omega))
 have HC1:=hid (HC0.out.trans h2)
 clear h1 h2
 clear HR0 HC0 HS0
 cases hb1:isS kNOT s
 ·have e:(au kNOT s).2=s:=by simp[au,hb1]
  rw[e]at HS1
  clear e
  go_wp2_with fail
  refine(ht _ _ HS1.out hN).mono ?_
  rintro _ w2 ⟨v,rfl,h1,h2,A1,k1,c1,rfl,h3⟩
  have HS2:=hid h1
  have HR2:=hid (h2.blk HR1.out (by have:=HG.out;omega))
  have HC2:=hid (HC1.out.trans h2)
  obtain⟨e1,he1⟩:∃e,(testP p s).1=e:=⟨_,rfl⟩
  have HV1:=hid he1
  rw[he1]at h3 ⊢
  clear he1
  obtain⟨⟨op,tb,nm,ix,vk,vi,vt⟩,ks⟩:=e1
  unfold Nd.val
  simp only[Ex.d]
  have HX1_2:Hid (Stb (g0+1≤·) w2 fun w'=>ExV w' (.mk ⟨op,tb,nm,ix,vk,vi,vt⟩ ks) A1 k1 c1):=h3.weak fun q _ hq=>Nat.le_trans HR1.out.lt hq
  clear h1 h2 h3
  clear HR1 HC1 HS1
  have HXX:Hid (ExG (g0+1) w2 (.mk ⟨op,tb,nm,ix,vk,vi,vt⟩ ks) (.agg #[.int .i64 op,.string tb,.string nm,.int .i64 ix,.int .i64 vk,.int .i64 vi,.string vt,.slice A1 k1 c1])):=⟨A1,k1,c1,rfl,HX1_2.out⟩
  have HRv:Hid (R.1=(.mk ⟨op,tb,nm,ix,vk,vi,vt⟩ ks)):=by
   rw[HM.out,hb1]
   exact HV1.out
  have HRs:Hid (R.2=(testP p s).2):=by
   rw[HM.out,hb1]
   rfl
  obtain⟨z0,z1,z2,z3,z4,z5,z6,z7,-⟩:=cls HR2.out
  obtain⟨y0,y1,y2,y3,y4,y5,y6,y7,-⟩:=frz HR2.out
  have hz:=ax HR2.out [.int .i64 op,.string tb,.string nm,.int .i64 ix,.int .i64 vk,.int .i64 vi,.string vt,.slice A1 k1 c1] rfl
  have HGr:=hid (ak g0 [.int .i64 op,.string tb,.string nm,.int .i64 ix,.int .i64 vk,.int .i64 vi,.string vt,.slice A1 k1 c1] w2 0)
  simp only[sts]at hz
  have HZ:=hid hz
  clear hz
  go_wp2_with fail
  obtain⟨q0,q1,q2,q3,q4,q5,q6,q7,-⟩:=cls HZ.out
  exact bodyPost_ret (v:= .agg #[.int .i64 op,.string tb,.string nm,.int .i64 ix,.int .i64 vk,.int .i64 vi,.string vt,.slice A1 k1 c1]) (by simp[results,Tryz.results152,go_sem,q0,q1,q2,q3,q4,q5,q6,q7]) rfl ⟨_,rfl,by rw[HRs.out];exact HS2.out.grown HGr.out (fun q hq=>by have:=HG.out;have:=Option.some.inj hq;omega),HC2.out.own HGr.out (fun q hq=>by have:=Option.some.inj hq;rw[HN0.out];omega),by rw[HRv.out,HN0.out];exact bg HXX.out HGr.out (Nat.lt_succ_self _)⟩
 ·have e:(au kNOT s).2=s.next:=by simp[au,hb1]
  rw[e]at HS1
  clear e
  have hln:=aP hb1
  go_wp2_with fail
  refine(hr _ _ HS1.out (by omega)).mono ?_
  rintro _ w2 ⟨v,rfl,h1,h2,A1,k1,c1,rfl,h3⟩
  have HS2:=hid h1
  have HR2:=hid (h2.blk HR1.out (by have:=HG.out;omega))
  have HC2:=hid (HC1.out.trans h2)
  obtain⟨e1,he1⟩:∃e,(notP p s.next).1=e:=⟨_,rfl⟩
  have HV1:=hid he1
  rw[he1]at h3 ⊢
  clear he1
  obtain⟨⟨op,tb,nm,ix,vk,vi,vt⟩,ks⟩:=e1
  unfold Nd.val
  simp only[Ex.d]
  have HX1_2:Hid (Stb (g0+1≤·) w2 fun w'=>ExV w' (.mk ⟨op,tb,nm,ix,vk,vi,vt⟩ ks) A1 k1 c1):=h3.weak fun q _ hq=>Nat.le_trans HR1.out.lt hq
  clear h1 h2 h3
  clear HR1 HC1 HS1
  go_wp2_with fail
  refine(bY _ _ _ _ _).mono ?_
  rintro _ w3 ⟨rfl,hx⟩
  have hx2:Ext w2 w3:=((Ext.refl w2).alloc (.cells #[.int .i64 op,.string tb,.string nm,.int .i64 ix,.int .i64 vk,.int .i64 vi,.string vt,.slice A1 k1 c1] 37)).trans hx
  have HR3:=hid (HR2.out.ext hx2)
  have HC3:=hid (HC2.out.ext hx2)
  have HS3:=hid (HS2.out.ext hx2)
  have HX1_3:=hid (Stb.ext HX1_2.out hx2)
  have HO_3:=hid ((iO (n:=g0+1) (T:=37) (o:=20) (by unfold I64;omega) HR2.out.lt HX1_2.out).ext hx)
  clear hx hx2
  clear HR2 HC2 HS2 HX1_2
  have HXX:Hid (ExG (g0+1) w3 (opE 20 [(.mk ⟨op,tb,nm,ix,vk,vi,vt⟩ ks)]) (.agg #[.int .i64 20,.string ⟨#[]⟩,.string ⟨#[]⟩,.int .i64 0,.int .i64 0,.int .i64 0,.string ⟨#[]⟩,.slice (some ⟨w2.heap.size,0,none⟩) 1 1])):=HO_3.out
  have HRv:Hid (R.1=(opE 20 [(.mk ⟨op,tb,nm,ix,vk,vi,vt⟩ ks)])):=by
   rw[HM.out,hb1]
   exact congrArg (fun x=>opE 20 [x]) HV1.out
  have HRs:Hid (R.2=(notP p s.next).2):=by
   rw[HM.out,hb1]
   rfl
  obtain⟨z0,z1,z2,z3,z4,z5,z6,z7,-⟩:=cls HR3.out
  obtain⟨y0,y1,y2,y3,y4,y5,y6,y7,-⟩:=frz HR3.out
  have hz:=ax HR3.out [.int .i64 20,.string ⟨#[]⟩,.string ⟨#[]⟩,.int .i64 0,.int .i64 0,.int .i64 0,.string ⟨#[]⟩,.slice (some ⟨w2.heap.size,0,none⟩) 1 1] rfl
  have HGr:=hid (ak g0 [.int .i64 20,.string ⟨#[]⟩,.string ⟨#[]⟩,.int .i64 0,.int .i64 0,.int .i64 0,.string ⟨#[]⟩,.slice (some ⟨w2.heap.size,0,none⟩) 1 1] w3 0)
  simp only[sts]at hz
  have HZ:=hid hz
  clear hz
  go_wp2_with fail
  obtain⟨q0,q1,q2,q3,q4,q5,q6,q7,-⟩:=cls HZ.out
  exact bodyPost_ret (v:= .agg #[.int .i64 20,.string ⟨#[]⟩,.string ⟨#[]⟩,.int .i64 0,.int .i64 0,.int .i64 0,.string ⟨#[]⟩,.slice (some ⟨w2.heap.size,0,none⟩) 1 1]) (by simp[results,Tryz.results152,go_sem,q0,q1,q2,q3,q4,q5,q6,q7]) rfl ⟨_,rfl,by rw[HRs.out];exact HS3.out.grown HGr.out (fun q hq=>by have:=HG.out;have:=Option.some.inj hq;omega),HC3.out.own HGr.out (fun q hq=>by have:=Option.some.inj hq;rw[HN0.out];omega),by rw[HRv.out,HN0.out];exact bg HXX.out HGr.out (Nat.lt_succ_self _)⟩
theorem not_rd {N:Nat} {p:M Ex} (ht:Rdr 68 P A c L w0 N 220 (testP p)) (hL:TkL L):∀n,n≤N→Rdr 68 P A c L w0 n 152 (notP p)
 |0,_=>fun _ _ _ h=>absurd h (Nat.not_lt_zero _)
 |n+1,hn=>fun W st hp h=>not_rd1 ht (not_rd ht hL n (by omega)) h (by omega) hp hL
end
end
section
open Lx (Tk)
section
variable {P c:Nat} {A:Option Addr} {L:List Tk} {w0 w:World} {s:Ps}
theorem prim_rd1 {n:Nat} {rec:M Ex} (hE:Er w0) (hr:Rdr 68 P A c L w0 n 39 rec) (hn:s.r.length<n+1) (hp:PsAt 68 P A c L w0 w s) (hL:TkL L):
  Calls Tryz.prog 313 #[.pointer (some ⟨P,0,none⟩)] w (Ran 68 P A c L w0 w (aE rec s).2 fun v w'=>ExG w.heap.size w' (aE rec s).1 v):=by
 have hx0:=(Ext.refl w).alloc (.cells #[.int .i64 0,.string ⟨#[]⟩,.string ⟨#[]⟩,.int .i64 0,.int .i64 0,.int .i64 0,.string ⟨#[]⟩,.slice none 0 0] 37)
 have HS0:=hid (hp.ext hx0)
 have HG0:Hid (P<w.heap.size):=hp.lt
 have HR0:=hid (Blk.of_new w 37 [.int .i64 0,.string ⟨#[]⟩,.string ⟨#[]⟩,.int .i64 0,.int .i64 0,.int .i64 0,.string ⟨#[]⟩,.slice none 0 0])
 have HC0:=hid (Chg.of (P:=P) hx0)
 have HM:Hid (aE rec s=if hasK 3 s=true then (cQ 1 (bj s).1 ⟨#[]⟩,(bj s).2)
  else if hasK 4 s=true then (cQ 2 0 (takP 4 s).1,(takP 4 s).2)
  else if isS kNULL s=true then (cQ 0 0 ⟨#[]⟩,s.next)
  else if isS ec s=true then (opE 9 [(rec (needP yLp s.next)).1],needP yRp (rec (needP yLp s.next)).2)
  else if isS yLp s=true then ((rec s.next).1,needP yRp (rec s.next).2)
  else cU s):=rfl
 have HN1:Hid (w.heap.size≤(w.alloc (.cells #[.int .i64 0,.string ⟨#[]⟩,.string ⟨#[]⟩,.int .i64 0,.int .i64 0,.int .i64 0,.string ⟨#[]⟩,.slice none 0 0] 37)).heap.size):=hx0.size
 obtain⟨R,hR⟩:∃R,aE rec s=R:=⟨_,rfl⟩
 rw[hR]at HM ⊢
 clear hp hx0 hR
 go_enter Tryz.func313,Tryz.ntmps313
 go_upto_region 1 with fail
 generalize w.alloc (.cells #[.int .i64 0,.string ⟨#[]⟩,.string ⟨#[]⟩,.int .i64 0,.int .i64 0,.int .i64 0,.string ⟨#[]⟩,.slice none 0 0] 37)=wz at*
 obtain⟨g0,hg0⟩:∃g,w.heap.size=g:=⟨_,rfl⟩
 have HN0:=hid hg0
 rw[hg0]at HG0 HR0 HN1 ⊢
 clear hg0
 have HG:=HG0
 have HNl:=hid (HS0.out.num_le hL)
 have HTl:=hid (HS0.out.tak_size hL 4)
 go_wp2_with fail
 refine(eY HS0.out hL 3).mono ?_
 rintro _ w1 ⟨rfl,hx⟩
 have HR1:=hid (HR0.out.ext hx)
 have HC1:=hid (HC0.out.ext hx)
 have HS1:=hid (HS0.out.ext hx)
 clear hx
 clear HR0 HC0 HS0
 cases hb1:hasK 3 s
 ·skip
  go_wp2_with fail
  refine(eY HS1.out hL 4).mono ?_
  rintro _ w2 ⟨rfl,hx⟩
  have HR2:=hid (HR1.out.ext hx)
  have HC2:=hid (HC1.out.ext hx)
  have HS2:=hid (HS1.out.ext hx)
  clear hx
  clear HR1 HC1 HS1
  cases hb2:hasK 4 s
  ·skip
   go_wp2_with fail
   refine(aq HS2.out hL kNULL).mono ?_
   rintro _ w3 ⟨v,rfl,h1,h2,rfl⟩
   have HS3:=hid h1
   have HR3:=hid (h2.blk HR2.out (by have:=HG.out;omega))
   have HC3:=hid (HC2.out.trans h2)
   clear h1 h2
   clear HR2 HC2 HS2
   cases hb3:isS kNULL s
   ·have e:(au kNULL s).2=s:=by simp[au,hb3]
    rw[e]at HS3
    clear e
    go_wp2_with fail
    refine(aq HS3.out hL ec).mono ?_
    rintro _ w4 ⟨v,rfl,h1,h2,rfl⟩
    have HS4:=hid h1
    have HR4:=hid (h2.blk HR3.out (by have:=HG.out;omega))
    have HC4:=hid (HC3.out.trans h2)
    clear h1 h2
    clear HR3 HC3 HS3
    cases hb4:isS ec s
    ·have e:(au ec s).2=s:=by simp[au,hb4]
     rw[e]at HS4
     clear e
     go_wp2_with fail
     refine(aq HS4.out hL yLp).mono ?_
     rintro _ w5 ⟨v,rfl,h1,h2,rfl⟩
     have HS5:=hid h1
     have HR5:=hid (h2.blk HR4.out (by have:=HG.out;omega))
     have HC5:=hid (HC4.out.trans h2)
     clear h1 h2
     clear HR4 HC4 HS4
     cases hb5:isS yLp s
     ·have e:(au yLp s).2=s:=by simp[au,hb5]
      rw[e]at HS5
      clear e
      go_wp2_with fail
      refine(jN HS5.out hL).mono ?_
      rintro _ w6 ⟨v,rfl,h1,h2,A1,k1,c1,rfl,h3⟩
      have HS6:=hid h1
      have HR6:=hid (h2.blk HR5.out (by have:=HG.out;omega))
      have HC6:=hid (HC5.out.trans h2)
      obtain⟨e1,he1⟩:∃e,(cU s).1=e:=⟨_,rfl⟩
      have HV1:=hid he1
      rw[he1]at h3 ⊢
      clear he1
      obtain⟨⟨op,tb,nm,ix,vk,vi,vt⟩,ks⟩:=e1
      unfold Nd.val
      simp only[Ex.d]
      have HX1_6:Hid (Stb (g0+1≤·) w6 fun w'=>ExV w' (.mk ⟨op,tb,nm,ix,vk,vi,vt⟩ ks) A1 k1 c1):=h3.weak fun q _ hq=>Nat.le_trans HR5.out.lt hq
      clear h1 h2 h3
      clear HR5 HC5 HS5
      have HXX:Hid (ExG (g0+1) w6 (.mk ⟨op,tb,nm,ix,vk,vi,vt⟩ ks) (.agg #[.int .i64 op,.string tb,.string nm,.int .i64 ix,.int .i64 vk,.int .i64 vi,.string vt,.slice A1 k1 c1])):=⟨A1,k1,c1,rfl,HX1_6.out⟩
      have HRv:Hid (R.1=(.mk ⟨op,tb,nm,ix,vk,vi,vt⟩ ks)):=by
       rw[HM.out,hb1,hb2,hb3,hb4,hb5]
       exact HV1.out
      have HRs:Hid (R.2=(cU s).2):=by
       rw[HM.out,hb1,hb2,hb3,hb4,hb5]
       rfl
      obtain⟨z0,z1,z2,z3,z4,z5,z6,z7,-⟩:=cls HR6.out
      obtain⟨y0,y1,y2,y3,y4,y5,y6,y7,-⟩:=frz HR6.out
      have hz:=ax HR6.out [.int .i64 op,.string tb,.string nm,.int .i64 ix,.int .i64 vk,.int .i64 vi,.string vt,.slice A1 k1 c1] rfl
      have HGr:=hid (ak g0 [.int .i64 op,.string tb,.string nm,.int .i64 ix,.int .i64 vk,.int .i64 vi,.string vt,.slice A1 k1 c1] w6 0)
      simp only[sts]at hz
      have HZ:=hid hz
      clear hz
      go_wp2_with fail
      obtain⟨q0,q1,q2,q3,q4,q5,q6,q7,-⟩:=cls HZ.out
      exact bodyPost_ret (v:= .agg #[.int .i64 op,.string tb,.string nm,.int .i64 ix,.int .i64 vk,.int .i64 vi,.string vt,.slice A1 k1 c1]) (by simp[results,Tryz.results313,go_sem,q0,q1,q2,q3,q4,q5,q6,q7]) rfl ⟨_,rfl,by rw[HRs.out];exact HS6.out.grown HGr.out (fun q hq=>by have:=HG.out;have:=Option.some.inj hq;omega),HC6.out.own HGr.out (fun q hq=>by have:=Option.some.inj hq;rw[HN0.out];omega),by rw[HRv.out,HN0.out];exact bg HXX.out HGr.out (Nat.lt_succ_self _)⟩
     ·have e:(au yLp s).2=s.next:=by simp[au,hb5]
      rw[e]at HS5
      clear e
      go_wp2_with fail
      refine(hr _ _ HS5.out (by have:=aP hb5;omega)).mono ?_
      rintro _ w6 ⟨v,rfl,h1,h2,A1,k1,c1,rfl,h3⟩
      have HS6:=hid h1
      have HR6:=hid (h2.blk HR5.out (by have:=HG.out;omega))
      have HC6:=hid (HC5.out.trans h2)
      obtain⟨e1,he1⟩:∃e,(rec s.next).1=e:=⟨_,rfl⟩
      have HV1:=hid he1
      rw[he1]at h3 ⊢
      clear he1
      obtain⟨⟨op,tb,nm,ix,vk,vi,vt⟩,ks⟩:=e1
      unfold Nd.val
      simp only[Ex.d]
      have HX1_6:Hid (Stb (g0+1≤·) w6 fun w'=>ExV w' (.mk ⟨op,tb,nm,ix,vk,vi,vt⟩ ks) A1 k1 c1):=h3.weak fun q _ hq=>Nat.le_trans HR5.out.lt hq
      clear h1 h2 h3
      clear HR5 HC5 HS5
      go_upto_region 14 with fail
      have hx:=(Ext.refl w6).alloc (.cells #[.int .i64 op,.string tb,.string nm,.int .i64 ix,.int .i64 vk,.int .i64 vi,.string vt,.slice A1 k1 c1] 37)
      have HR7:=hid (HR6.out.ext hx)
      have HC7:=hid (HC6.out.ext hx)
      have HS7:=hid (HS6.out.ext hx)
      have HX1_7:=hid (Stb.ext HX1_6.out hx)
      have HBv_7:=hid (Blk.of_new w6 37 [.int .i64 op,.string tb,.string nm,.int .i64 ix,.int .i64 vk,.int .i64 vi,.string vt,.slice A1 k1 c1])
      have HGv:Hid (g0<w6.heap.size):=HR6.out.lt
      clear hx
      clear HR6 HC6 HS6 HX1_6
      generalize w6.alloc (.cells #[.int .i64 op,.string tb,.string nm,.int .i64 ix,.int .i64 vk,.int .i64 vi,.string vt,.slice A1 k1 c1] 37)=w7 at*
      generalize w6.heap.size=gv at*
      go_wp2_with fail
      refine(a7 (HS7.out.ext ((Ext.refl w7).alloc (.cells #[.string yRp] 9))) hL yRp w7.heap.size (by simp[World.cell?_alloc_new])).mono ?_
      rintro _ w8 ⟨v,rfl,h1,h2,_⟩
      replace h2:Chg P w7 w8:=(Chg.of ((Ext.refl w7).alloc (.cells #[.string yRp] 9))).trans h2
      have HS8:=hid h1
      have HR8:=hid (h2.blk HR7.out (by have:=HG.out;omega))
      have HC8:=hid (HC7.out.trans h2)
      have HX1_8:=hid (Stb.chg HX1_7.out h2 (by have:=HG.out;omega))
      have HBv_8:=hid (h2.blk HBv_7.out (by have:=HG.out;have:=HGv.out;omega))
      clear h1 h2
      clear HR7 HC7 HS7 HX1_7 HBv_7
      obtain⟨b0,b1,b2,b3,b4,b5,b6,b7,-⟩:=cls HBv_8.out
      have HXX:Hid (ExG (g0+1) w8 (.mk ⟨op,tb,nm,ix,vk,vi,vt⟩ ks) (.agg #[.int .i64 op,.string tb,.string nm,.int .i64 ix,.int .i64 vk,.int .i64 vi,.string vt,.slice A1 k1 c1])):=⟨A1,k1,c1,rfl,HX1_8.out⟩
      have HRv:Hid (R.1=(.mk ⟨op,tb,nm,ix,vk,vi,vt⟩ ks)):=by
       rw[HM.out,hb1,hb2,hb3,hb4,hb5]
       exact HV1.out
      have HRs:Hid (R.2=(needP yRp (rec s.next).2)):=by
       rw[HM.out,hb1,hb2,hb3,hb4,hb5]
       rfl
      obtain⟨z0,z1,z2,z3,z4,z5,z6,z7,-⟩:=cls HR8.out
      obtain⟨y0,y1,y2,y3,y4,y5,y6,y7,-⟩:=frz HR8.out
      have hz:=ax HR8.out [.int .i64 op,.string tb,.string nm,.int .i64 ix,.int .i64 vk,.int .i64 vi,.string vt,.slice A1 k1 c1] rfl
      have HGr:=hid (ak g0 [.int .i64 op,.string tb,.string nm,.int .i64 ix,.int .i64 vk,.int .i64 vi,.string vt,.slice A1 k1 c1] w8 0)
      simp only[sts]at hz
      have HZ:=hid hz
      clear hz
      go_wp2_with fail
      obtain⟨q0,q1,q2,q3,q4,q5,q6,q7,-⟩:=cls HZ.out
      exact bodyPost_ret (v:= .agg #[.int .i64 op,.string tb,.string nm,.int .i64 ix,.int .i64 vk,.int .i64 vi,.string vt,.slice A1 k1 c1]) (by simp[results,Tryz.results313,go_sem,q0,q1,q2,q3,q4,q5,q6,q7]) rfl ⟨_,rfl,by rw[HRs.out];exact HS8.out.grown HGr.out (fun q hq=>by have:=HG.out;have:=Option.some.inj hq;omega),HC8.out.own HGr.out (fun q hq=>by have:=Option.some.inj hq;rw[HN0.out];omega),by rw[HRv.out,HN0.out];exact bg HXX.out HGr.out (Nat.lt_succ_self _)⟩
    ·have e:(au ec s).2=s.next:=by simp[au,hb4]
     rw[e]at HS4
     clear e
     go_wp2_with fail
     refine(a7 (HS4.out.ext ((Ext.refl w4).alloc (.cells #[.string yLp] 9))) hL yLp w4.heap.size (by simp[World.cell?_alloc_new])).mono ?_
     rintro _ w5 ⟨v,rfl,h1,h2,_⟩
     replace h2:Chg P w4 w5:=(Chg.of ((Ext.refl w4).alloc (.cells #[.string yLp] 9))).trans h2
     have HS5:=hid h1
     have HR5:=hid (h2.blk HR4.out (by have:=HG.out;omega))
     have HC5:=hid (HC4.out.trans h2)
     clear h1 h2
     clear HR4 HC4 HS4
     go_wp2_with fail
     refine(hr _ _ HS5.out (by have:=aO yLp s.next;have:=aP hb4;omega)).mono ?_
     rintro _ w6 ⟨v,rfl,h1,h2,A1,k1,c1,rfl,h3⟩
     have HS6:=hid h1
     have HR6:=hid (h2.blk HR5.out (by have:=HG.out;omega))
     have HC6:=hid (HC5.out.trans h2)
     obtain⟨e1,he1⟩:∃e,(rec (needP yLp s.next)).1=e:=⟨_,rfl⟩
     have HV1:=hid he1
     rw[he1]at h3 ⊢
     clear he1
     obtain⟨⟨op,tb,nm,ix,vk,vi,vt⟩,ks⟩:=e1
     unfold Nd.val
     simp only[Ex.d]
     have HX1_6:Hid (Stb (g0+1≤·) w6 fun w'=>ExV w' (.mk ⟨op,tb,nm,ix,vk,vi,vt⟩ ks) A1 k1 c1):=h3.weak fun q _ hq=>Nat.le_trans HR5.out.lt hq
     clear h1 h2 h3
     clear HR5 HC5 HS5
     go_wp2_with fail
     refine(bY _ _ _ _ _).mono ?_
     rintro _ w7 ⟨rfl,hx⟩
     have hx2:Ext w6 w7:=((Ext.refl w6).alloc (.cells #[.int .i64 op,.string tb,.string nm,.int .i64 ix,.int .i64 vk,.int .i64 vi,.string vt,.slice A1 k1 c1] 37)).trans hx
     have HR7:=hid (HR6.out.ext hx2)
     have HC7:=hid (HC6.out.ext hx2)
     have HS7:=hid (HS6.out.ext hx2)
     have HX1_7:=hid (Stb.ext HX1_6.out hx2)
     have HO_7:=hid ((iO (n:=g0+1) (T:=37) (o:=9) (by unfold I64;omega) HR6.out.lt HX1_6.out).ext hx)
     clear hx hx2
     clear HR6 HC6 HS6 HX1_6
     have HOV:Hid (ExG (g0+1) w7 (opE 9 [(.mk ⟨op,tb,nm,ix,vk,vi,vt⟩ ks)]) (.agg #[.int .i64 9,.string ⟨#[]⟩,.string ⟨#[]⟩,.int .i64 0,.int .i64 0,.int .i64 0,.string ⟨#[]⟩,.slice (some ⟨w6.heap.size,0,none⟩) 1 1])):=HO_7.out
     obtain⟨A9,k9,c9,hv9,h9⟩:=HOV.out
     have e9:=hv9
     unfold Nd.val at e9
     simp only[opE,Ex.d,Value.agg.injEq,Array.mk.injEq,List.cons.injEq,Value.slice.injEq,true_and,and_true]at e9
     obtain⟨e90,e91,e92⟩:=e9
     subst e90 e91 e92
     have HXO_7:=hid h9
     clear h9 hv9 HOV
     go_upto_region 10 with fail
     have hx:=(Ext.refl w7).alloc (.cells #[.int .i64 9,.string ⟨#[]⟩,.string ⟨#[]⟩,.int .i64 0,.int .i64 0,.int .i64 0,.string ⟨#[]⟩,.slice (some ⟨w6.heap.size,0,none⟩) 1 1] 37)
     have HR8:=hid (HR7.out.ext hx)
     have HC8:=hid (HC7.out.ext hx)
     have HS8:=hid (HS7.out.ext hx)
     have HXO_8:=hid (Stb.ext HXO_7.out hx)
     have HBv_8:=hid (Blk.of_new w7 37 [.int .i64 9,.string ⟨#[]⟩,.string ⟨#[]⟩,.int .i64 0,.int .i64 0,.int .i64 0,.string ⟨#[]⟩,.slice (some ⟨w6.heap.size,0,none⟩) 1 1])
     have HGv:Hid (g0<w7.heap.size):=HR7.out.lt
     clear hx
     clear HR7 HC7 HS7 HXO_7
     generalize w7.alloc (.cells #[.int .i64 9,.string ⟨#[]⟩,.string ⟨#[]⟩,.int .i64 0,.int .i64 0,.int .i64 0,.string ⟨#[]⟩,.slice (some ⟨w6.heap.size,0,none⟩) 1 1] 37)=w8 at*
     generalize w7.heap.size=gv at*
     go_wp2_with fail
     refine(a7 (HS8.out.ext ((Ext.refl w8).alloc (.cells #[.string yRp] 9))) hL yRp w8.heap.size (by simp[World.cell?_alloc_new])).mono ?_
     rintro _ w9 ⟨v,rfl,h1,h2,_⟩
     replace h2:Chg P w8 w9:=(Chg.of ((Ext.refl w8).alloc (.cells #[.string yRp] 9))).trans h2
     have HS9:=hid h1
     have HR9:=hid (h2.blk HR8.out (by have:=HG.out;omega))
     have HC9:=hid (HC8.out.trans h2)
     have HXO_9:=hid (Stb.chg HXO_8.out h2 (by have:=HG.out;omega))
     have HBv_9:=hid (h2.blk HBv_8.out (by have:=HG.out;have:=HGv.out;omega))
     clear h1 h2
     clear HR8 HC8 HS8 HXO_8 HBv_8
     obtain⟨b0,b1,b2,b3,b4,b5,b6,b7,-⟩:=cls HBv_9.out
     have HXX:Hid (ExG (g0+1) w9 (opE 9 [(.mk ⟨op,tb,nm,ix,vk,vi,vt⟩ ks)]) (.agg #[.int .i64 9,.string ⟨#[]⟩,.string ⟨#[]⟩,.int .i64 0,.int .i64 0,.int .i64 0,.string ⟨#[]⟩,.slice (some ⟨w6.heap.size,0,none⟩) 1 1])):=⟨_,_,_,rfl,HXO_9.out⟩
     have HRv:Hid (R.1=(opE 9 [(.mk ⟨op,tb,nm,ix,vk,vi,vt⟩ ks)])):=by
      rw[HM.out,hb1,hb2,hb3,hb4]
      exact congrArg (fun x=>opE 9 [x]) HV1.out
     have HRs:Hid (R.2=(needP yRp (rec (needP yLp s.next)).2)):=by
      rw[HM.out,hb1,hb2,hb3,hb4]
      rfl
     obtain⟨z0,z1,z2,z3,z4,z5,z6,z7,-⟩:=cls HR9.out
     obtain⟨y0,y1,y2,y3,y4,y5,y6,y7,-⟩:=frz HR9.out
     have hz:=ax HR9.out [.int .i64 9,.string ⟨#[]⟩,.string ⟨#[]⟩,.int .i64 0,.int .i64 0,.int .i64 0,.string ⟨#[]⟩,.slice (some ⟨w6.heap.size,0,none⟩) 1 1] rfl
     have HGr:=hid (ak g0 [.int .i64 9,.string ⟨#[]⟩,.string ⟨#[]⟩,.int .i64 0,.int .i64 0,.int .i64 0,.string ⟨#[]⟩,.slice (some ⟨w6.heap.size,0,none⟩) 1 1] w9 0)
     simp only[sts]at hz
     have HZ:=hid hz
     clear hz
     go_wp2_with fail
     obtain⟨q0,q1,q2,q3,q4,q5,q6,q7,-⟩:=cls HZ.out
     exact bodyPost_ret (v:= .agg #[.int .i64 9,.string ⟨#[]⟩,.string ⟨#[]⟩,.int .i64 0,.int .i64 0,.int .i64 0,.string ⟨#[]⟩,.slice (some ⟨w6.heap.size,0,none⟩) 1 1]) (by simp[results,Tryz.results313,go_sem,q0,q1,q2,q3,q4,q5,q6,q7]) rfl ⟨_,rfl,by rw[HRs.out];exact HS9.out.grown HGr.out (fun q hq=>by have:=HG.out;have:=Option.some.inj hq;omega),HC9.out.own HGr.out (fun q hq=>by have:=Option.some.inj hq;rw[HN0.out];omega),by rw[HRv.out,HN0.out];exact bg HXX.out HGr.out (Nat.lt_succ_self _)⟩
   ·have e:(au kNULL s).2=s.next:=by simp[au,hb3]
    rw[e]at HS3
    clear e
    go_wp2_with fail
    refine(iQ 0 0 ⟨#[]⟩ _).mono ?_
    rintro _ w4 ⟨rfl,hx⟩
    have hx2:=hx
    have HR4:=hid (HR3.out.ext hx2)
    have HC4:=hid (HC3.out.ext hx2)
    have HS4:=hid (HS3.out.ext hx2)
    clear hx hx2
    clear HR3 HC3 HS3
    have HXX:Hid (ExG (g0+1) w4 (cQ 0 0 ⟨#[]⟩) (.agg #[.int .i64 1,.string ⟨#[]⟩,.string ⟨#[]⟩,.int .i64 0,.int .i64 0,.int .i64 0,.string ⟨#[]⟩,.slice none 0 0])):=lk _ _ ca ca (Nat.zero_le _)
    have HRv:Hid (R.1=(cQ 0 0 ⟨#[]⟩)):=by
     rw[HM.out,hb1,hb2,hb3]
     rfl
    have HRs:Hid (R.2=s.next):=by
     rw[HM.out,hb1,hb2,hb3]
     rfl
    obtain⟨z0,z1,z2,z3,z4,z5,z6,z7,-⟩:=cls HR4.out
    obtain⟨y0,y1,y2,y3,y4,y5,y6,y7,-⟩:=frz HR4.out
    have hz:=ax HR4.out [.int .i64 1,.string ⟨#[]⟩,.string ⟨#[]⟩,.int .i64 0,.int .i64 0,.int .i64 0,.string ⟨#[]⟩,.slice none 0 0] rfl
    have HGr:=hid (ak g0 [.int .i64 1,.string ⟨#[]⟩,.string ⟨#[]⟩,.int .i64 0,.int .i64 0,.int .i64 0,.string ⟨#[]⟩,.slice none 0 0] w4 0)
    simp only[sts]at hz
    have HZ:=hid hz
    clear hz
    go_wp2_with fail
    obtain⟨q0,q1,q2,q3,q4,q5,q6,q7,-⟩:=cls HZ.out
    exact bodyPost_ret (v:= .agg #[.int .i64 1,.string ⟨#[]⟩,.string ⟨#[]⟩,.int .i64 0,.int .i64 0,.int .i64 0,.string ⟨#[]⟩,.slice none 0 0]) (by simp[results,Tryz.results313,go_sem,q0,q1,q2,q3,q4,q5,q6,q7]) rfl ⟨_,rfl,by rw[HRs.out];exact HS4.out.grown HGr.out (fun q hq=>by have:=HG.out;have:=Option.some.inj hq;omega),HC4.out.own HGr.out (fun q hq=>by have:=Option.some.inj hq;rw[HN0.out];omega),by rw[HRv.out,HN0.out];exact bg HXX.out HGr.out (Nat.lt_succ_self _)⟩
  ·skip
   go_wp2_with fail
   refine(gq HS2.out hL 4 (by decide)).mono ?_
   rintro _ w3 ⟨v,rfl,h1,h2,rfl⟩
   have HS3:=hid h1
   have HR3:=hid (h2.blk HR2.out (by have:=HG.out;omega))
   have HC3:=hid (HC2.out.trans h2)
   clear h1 h2
   clear HR2 HC2 HS2
   go_wp2_with fail
   refine(iQ 2 0 (takP 4 s).1 _).mono ?_
   rintro _ w4 ⟨rfl,hx⟩
   have hx2:=hx
   have HR4:=hid (HR3.out.ext hx2)
   have HC4:=hid (HC3.out.ext hx2)
   have HS4:=hid (HS3.out.ext hx2)
   clear hx hx2
   clear HR3 HC3 HS3
   have HXX:Hid (ExG (g0+1) w4 (cQ 2 0 (takP 4 s).1) (.agg #[.int .i64 1,.string ⟨#[]⟩,.string ⟨#[]⟩,.int .i64 0,.int .i64 2,.int .i64 0,.string (takP 4 s).1,.slice none 0 0])):=lk _ _ i64_2 ca (by have:=HTl.out;omega)
   have HRv:Hid (R.1=(cQ 2 0 (takP 4 s).1)):=by
    rw[HM.out,hb1,hb2]
    rfl
   have HRs:Hid (R.2=(takP 4 s).2):=by
    rw[HM.out,hb1,hb2]
    rfl
   obtain⟨z0,z1,z2,z3,z4,z5,z6,z7,-⟩:=cls HR4.out
   obtain⟨y0,y1,y2,y3,y4,y5,y6,y7,-⟩:=frz HR4.out
   have hz:=ax HR4.out [.int .i64 1,.string ⟨#[]⟩,.string ⟨#[]⟩,.int .i64 0,.int .i64 2,.int .i64 0,.string (takP 4 s).1,.slice none 0 0] rfl
   have HGr:=hid (ak g0 [.int .i64 1,.string ⟨#[]⟩,.string ⟨#[]⟩,.int .i64 0,.int .i64 2,.int .i64 0,.string (takP 4 s).1,.slice none 0 0] w4 0)
   simp only[sts]at hz
   have HZ:=hid hz
   clear hz
   go_wp2_with fail
   obtain⟨q0,q1,q2,q3,q4,q5,q6,q7,-⟩:=cls HZ.out
   exact bodyPost_ret (v:= .agg #[.int .i64 1,.string ⟨#[]⟩,.string ⟨#[]⟩,.int .i64 0,.int .i64 2,.int .i64 0,.string (takP 4 s).1,.slice none 0 0]) (by simp[results,Tryz.results313,go_sem,q0,q1,q2,q3,q4,q5,q6,q7]) rfl ⟨_,rfl,by rw[HRs.out];exact HS4.out.grown HGr.out (fun q hq=>by have:=HG.out;have:=Option.some.inj hq;omega),HC4.out.own HGr.out (fun q hq=>by have:=Option.some.inj hq;rw[HN0.out];omega),by rw[HRv.out,HN0.out];exact bg HXX.out HGr.out (Nat.lt_succ_self _)⟩
 ·skip
  go_wp2_with fail
  refine(ei HS1.out hL hE).mono ?_
  rintro _ w2 ⟨v,rfl,h1,h2,rfl⟩
  have HS2:=hid h1
  have HR2:=hid (h2.blk HR1.out (by have:=HG.out;omega))
  have HC2:=hid (HC1.out.trans h2)
  clear h1 h2
  clear HR1 HC1 HS1
  go_wp2_with fail
  refine(iQ 1 (bj s).1 ⟨#[]⟩ _).mono ?_
  rintro _ w3 ⟨rfl,hx⟩
  have hx2:=hx
  have HR3:=hid (HR2.out.ext hx2)
  have HC3:=hid (HC2.out.ext hx2)
  have HS3:=hid (HS2.out.ext hx2)
  clear hx hx2
  clear HR2 HC2 HS2
  have HXX:Hid (ExG (g0+1) w3 (cQ 1 (bj s).1 ⟨#[]⟩) (.agg #[.int .i64 1,.string ⟨#[]⟩,.string ⟨#[]⟩,.int .i64 0,.int .i64 1,.int .i64 (bj s).1,.string ⟨#[]⟩,.slice none 0 0])):=lk _ _ i64_1 (by have:=HNl.out;unfold I64;omega) (Nat.zero_le _)
  have HRv:Hid (R.1=(cQ 1 (bj s).1 ⟨#[]⟩)):=by
   rw[HM.out,hb1]
   rfl
  have HRs:Hid (R.2=(bj s).2):=by
   rw[HM.out,hb1]
   rfl
  obtain⟨z0,z1,z2,z3,z4,z5,z6,z7,-⟩:=cls HR3.out
  obtain⟨y0,y1,y2,y3,y4,y5,y6,y7,-⟩:=frz HR3.out
  have hz:=ax HR3.out [.int .i64 1,.string ⟨#[]⟩,.string ⟨#[]⟩,.int .i64 0,.int .i64 1,.int .i64 (bj s).1,.string ⟨#[]⟩,.slice none 0 0] rfl
  have HGr:=hid (ak g0 [.int .i64 1,.string ⟨#[]⟩,.string ⟨#[]⟩,.int .i64 0,.int .i64 1,.int .i64 (bj s).1,.string ⟨#[]⟩,.slice none 0 0] w3 0)
  simp only[sts]at hz
  have HZ:=hid hz
  clear hz
  go_wp2_with fail
  obtain⟨q0,q1,q2,q3,q4,q5,q6,q7,-⟩:=cls HZ.out
  exact bodyPost_ret (v:= .agg #[.int .i64 1,.string ⟨#[]⟩,.string ⟨#[]⟩,.int .i64 0,.int .i64 1,.int .i64 (bj s).1,.string ⟨#[]⟩,.slice none 0 0]) (by simp[results,Tryz.results313,go_sem,q0,q1,q2,q3,q4,q5,q6,q7]) rfl ⟨_,rfl,by rw[HRs.out];exact HS3.out.grown HGr.out (fun q hq=>by have:=HG.out;have:=Option.some.inj hq;omega),HC3.out.own HGr.out (fun q hq=>by have:=Option.some.inj hq;rw[HN0.out];omega),by rw[HRv.out,HN0.out];exact bg HXX.out HGr.out (Nat.lt_succ_self _)⟩
theorem prim_rd {n:Nat} {rec:M Ex} (hE:Er w0) (hL:TkL L) (hr:Rdr 68 P A c L w0 n 39 rec):Rdr 68 P A c L w0 (n+1) 313 (aE rec):=fun W st hp h=>prim_rd1 hE hr h hp hL
end
end
end Go.Proofs.YtjigcpfjhfoheaaGreatDoor
