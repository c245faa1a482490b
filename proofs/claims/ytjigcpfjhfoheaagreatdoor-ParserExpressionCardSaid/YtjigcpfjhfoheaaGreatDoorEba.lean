/- Walks: Print, the reference's canonical text; Print returns the canonical text; FormatExpr and TextExpr. -/
import Derived.Test.YtjigcpfjhfoheaaGreatDoorEaj
namespace Go.Proofs.YtjigcpfjhfoheaaGreatDoor
open Go.RowKit
set_option maxHeartbeats 4000000
set_option maxRecDepth 100000
set_option linter.unusedVariables false
set_option linter.unusedSimpArgs false
theorem rsign_any (op:Int) (w:World) (hop:4≤op∧op≤8∨10≤op∧op≤16∨op=18∨op=19):Calls Tryz.prog 93 #[.int .i64 op] w fun r w'=>r= .returned (.string (sgn op))∧Ext w w':=by
 have HS:=hid (sgnC_get op hop)
 have HC:=hid (Blk.of_new w 9 sgnC.toList)
 have HX:=hid ((Ext.refl w).alloc (.cells sgnC 9))
 have hga:(.cells sgnC.toList.toArray 9:Obj)= .cells sgnC 9:=rfl
 rw[hga]at HC
 have o0:(0:Int)≤op:=by omega
 have o1:op<20:=by omega
 have hc:=(HC.out.cell op.toNat).trans HS.out
 clear hga hop
 generalize sgn op=G at*
 go_enter Tryz.func93,Tryz.ntmps93
 unfold sgnC at hc HX
 go_wp2_with fail
 go_ret
 exact⟨rfl,HX.out⟩
theorem pr_num (tb nm:ByteArray) (ix vk vi:Int) (vt:ByteArray) (A:Option Addr) (n c:Nat) (w:World) (L r:Int) (d1:decide (L<r)=false)
  (HLv:Hid (∀W,Calls Tryz.prog 90 #[.agg #[.int .i64 1,.string tb,.string nm,.int .i64 ix,.int .i64 1,.int .i64 vi,.string vt,.slice A n c]] W fun r w'=>r= .returned (.int .i64 L)∧Ext W w')) (hi:I64 vi) (hm: -9223372036854775808<vi):
  Calls Tryz.prog 50 #[.agg #[.int .i64 1,.string tb,.string nm,.int .i64 ix,.int .i64 1,.int .i64 vi,.string vt,.slice A n c],.int .i64 r] w fun r w'=>r= .returned (.string (itoB vi))∧Ext w w':=by
 have HB:=hid (Blk.of_new w 37 (eC 1 tb nm ix 1 vi vt A n c))
 have HX:=hid ((Ext.refl w).alloc (.cells #[.int .i64 1,.string tb,.string nm,.int .i64 ix,.int .i64 1,.int .i64 vi,.string vt,.slice A n c] 37))
 go_enter Tryz.func50,Tryz.ntmps50
 go_wp2_with (first|(go_at_call 90;refine(HLv.out _).mono ?_;rintro _ w2 ⟨rfl,hx2⟩;have hb2:=HB.out.ext hx2;obtain⟨c0,c1,c2,c3,c4,c5,c6,c7,-⟩:=cls hb2;clear hb2)|(go_at_call 91;refine(rnum_any _ _ hm hi.2).mono ?_;rintro _ w3 ⟨rfl,hx3⟩))
 go_ret
 exact⟨rfl,(HX.out.trans hx2).trans hx3⟩
theorem pr_text (tb nm:ByteArray) (ix vk vi:Int) (vt:ByteArray) (A:Option Addr) (n c:Nat) (w:World) (L r:Int) (d1:decide (L<r)=false)
  (HLv:Hid (∀W,Calls Tryz.prog 90 #[.agg #[.int .i64 1,.string tb,.string nm,.int .i64 ix,.int .i64 2,.int .i64 vi,.string vt,.slice A n c]] W fun r w'=>r= .returned (.int .i64 L)∧Ext W w')) (hs:vt.size≤1000):
  Calls Tryz.prog 50 #[.agg #[.int .i64 1,.string tb,.string nm,.int .i64 ix,.int .i64 2,.int .i64 vi,.string vt,.slice A n c],.int .i64 r] w fun r w'=>r= .returned (.string (⟨#[39]⟩++quoB vt++⟨#[39]⟩))∧Ext w w':=by
 have HB:=hid (Blk.of_new w 37 (eC 1 tb nm ix 2 vi vt A n c))
 have HX:=hid ((Ext.refl w).alloc (.cells #[.int .i64 1,.string tb,.string nm,.int .i64 ix,.int .i64 2,.int .i64 vi,.string vt,.slice A n c] 37))
 go_enter Tryz.func50,Tryz.ntmps50
 go_wp2_with (first|(go_at_call 90;refine(HLv.out _).mono ?_;rintro _ w2 ⟨rfl,hx2⟩;have hb2:=HB.out.ext hx2;obtain⟨c0,c1,c2,c3,c4,c5,c6,c7,-⟩:=cls hb2;clear hb2)|(go_at_call 92;refine(rquote_any _ _ hs).mono ?_;rintro _ w3 ⟨rfl,hx3⟩))
 go_ret
 exact⟨rfl,(HX.out.trans hx2).trans hx3⟩
theorem pr_null (tb nm:ByteArray) (ix vk vi:Int) (vt:ByteArray) (A:Option Addr) (n c:Nat) (w:World) (L r:Int) (d1:decide (L<r)=false)
  (HLv:Hid (∀W,Calls Tryz.prog 90 #[.agg #[.int .i64 1,.string tb,.string nm,.int .i64 ix,.int .i64 0,.int .i64 vi,.string vt,.slice A n c]] W fun r w'=>r= .returned (.int .i64 L)∧Ext W w')):
  Calls Tryz.prog 50 #[.agg #[.int .i64 1,.string tb,.string nm,.int .i64 ix,.int .i64 0,.int .i64 vi,.string vt,.slice A n c],.int .i64 r] w fun r w'=>r= .returned (.string ⟨#[78,85,76,76]⟩)∧Ext w w':=by
 have HB:=hid (Blk.of_new w 37 (eC 1 tb nm ix 0 vi vt A n c))
 have HX:=hid ((Ext.refl w).alloc (.cells #[.int .i64 1,.string tb,.string nm,.int .i64 ix,.int .i64 0,.int .i64 vi,.string vt,.slice A n c] 37))
 go_enter Tryz.func50,Tryz.ntmps50
 go_wp2_with (first|(go_at_call 90;refine(HLv.out _).mono ?_;rintro _ w2 ⟨rfl,hx2⟩;have hb2:=HB.out.ext hx2;obtain⟨c0,c1,c2,c3,c4,c5,c6,c7,-⟩:=cls hb2;clear hb2))
 go_ret
 exact⟨rfl,HX.out.trans hx2⟩
theorem pr_col (tb nm:ByteArray) (ix vk vi:Int) (vt:ByteArray) (A:Option Addr) (n c:Nat) (w:World) (L r:Int) (d1:decide (L<r)=false)
  (HLv:Hid (∀W,Calls Tryz.prog 90 #[.agg #[.int .i64 2,.string ⟨#[]⟩,.string nm,.int .i64 ix,.int .i64 vk,.int .i64 vi,.string vt,.slice A n c]] W fun r w'=>r= .returned (.int .i64 L)∧Ext W w')):
  Calls Tryz.prog 50 #[.agg #[.int .i64 2,.string ⟨#[]⟩,.string nm,.int .i64 ix,.int .i64 vk,.int .i64 vi,.string vt,.slice A n c],.int .i64 r] w fun r w'=>r= .returned (.string nm)∧Ext w w':=by
 have HB:=hid (Blk.of_new w 37 (eC 2 ⟨#[]⟩ nm ix vk vi vt A n c))
 have HX:=hid ((Ext.refl w).alloc (.cells #[.int .i64 2,.string ⟨#[]⟩,.string nm,.int .i64 ix,.int .i64 vk,.int .i64 vi,.string vt,.slice A n c] 37))
 go_enter Tryz.func50,Tryz.ntmps50
 go_wp2_with (first|(go_at_call 90;refine(HLv.out _).mono ?_;rintro _ w2 ⟨rfl,hx2⟩;have hb2:=HB.out.ext hx2;obtain⟨c0,c1,c2,c3,c4,c5,c6,c7,-⟩:=cls hb2;clear hb2))
 go_ret
 exact⟨rfl,HX.out.trans hx2⟩
theorem pr_qual (tb nm:ByteArray) (ix vk vi:Int) (vt:ByteArray) (A:Option Addr) (n c:Nat) (w:World) (L r:Int) (d1:decide (L<r)=false)
  (HLv:Hid (∀W,Calls Tryz.prog 90 #[.agg #[.int .i64 2,.string tb,.string nm,.int .i64 ix,.int .i64 vk,.int .i64 vi,.string vt,.slice A n c]] W fun r w'=>r= .returned (.int .i64 L)∧Ext W w')) (t1:¬tb.toList= []) (t2:tb.toList.isEmpty=false) (hs:tb.size≤1000) (hs2:nm.size≤1000):
  Calls Tryz.prog 50 #[.agg #[.int .i64 2,.string tb,.string nm,.int .i64 ix,.int .i64 vk,.int .i64 vi,.string vt,.slice A n c],.int .i64 r] w fun r w'=>r= .returned (.string (tb++⟨#[46]⟩++nm))∧Ext w w':=by
 have HB:=hid (Blk.of_new w 37 (eC 2 tb nm ix vk vi vt A n c))
 have HX:=hid ((Ext.refl w).alloc (.cells #[.int .i64 2,.string tb,.string nm,.int .i64 ix,.int .i64 vk,.int .i64 vi,.string vt,.slice A n c] 37))
 go_enter Tryz.func50,Tryz.ntmps50
 go_wp2_with (first|(go_at_call 90;refine(HLv.out _).mono ?_;rintro _ w2 ⟨rfl,hx2⟩;have hb2:=HB.out.ext hx2;obtain⟨c0,c1,c2,c3,c4,c5,c6,c7,-⟩:=cls hb2;clear hb2))
 go_ret
 exact⟨rfl,HX.out.trans hx2⟩
theorem pr_neg (tb nm:ByteArray) (ix vk vi:Int) (vt:ByteArray) (b off n c:Nat) (w:World) (L r:Int) (d1:decide (L<r)=false)
  (HLv:Hid (∀W,Calls Tryz.prog 90 #[.agg #[.int .i64 3,.string tb,.string nm,.int .i64 ix,.int .i64 vk,.int .i64 vi,.string vt,.slice (some ⟨b,off,none⟩) n c]] W fun r w'=>r= .returned (.int .i64 L)∧Ext W w')) (x:Ex) (X:ByteArray) (A1:Option Addr) (n1 c1:Nat) (hn:n=1) (hX:X.size≤100000)
  (e1:EltAt w b (off+0*8) x A1 n1 c1)
  (h1:∀W,Ext w W→Calls Tryz.prog 50 #[x.d.val A1 n1 c1,.int .i64 8] W fun r w'=>r= .returned (.string X)∧Ext W w'):
  Calls Tryz.prog 50 #[.agg #[.int .i64 3,.string tb,.string nm,.int .i64 ix,.int .i64 vk,.int .i64 vi,.string vt,.slice (some ⟨b,off,none⟩) n c],.int .i64 r] w fun r w'=>r= .returned (.string (⟨#[45]⟩++X))∧Ext w w':=by
 subst hn
 have HB:=hid (Blk.of_new w 37 (eC 3 tb nm ix vk vi vt (some ⟨b,off,none⟩) 1 c))
 have HX:=hid ((Ext.refl w).alloc (.cells #[.int .i64 3,.string tb,.string nm,.int .i64 ix,.int .i64 vk,.int .i64 vi,.string vt,.slice (some ⟨b,off,none⟩) 1 c] 37))
 have H1:=hid h1
 unfold Nd.val at H1
 simp only[Nat.zero_mul,Nat.add_zero]at e1
 have HE:=hid e1
 clear h1 e1
 go_enter Tryz.func50,Tryz.ntmps50
 go_wp2_with (first|(go_at_call 90;refine(HLv.out _).mono ?_;rintro _ w2 ⟨rfl,hx2⟩;have hb2:=HB.out.ext hx2;obtain⟨c0,c1,c2,c3,c4,c5,c6,c7,-⟩:=cls hb2;clear hb2;have q0:=(HX.out.trans hx2).keep HE.out.c0;have q1:=(HX.out.trans hx2).keep HE.out.c1;have q2:=(HX.out.trans hx2).keep HE.out.c2;have q3:=(HX.out.trans hx2).keep HE.out.c3;have q4:=(HX.out.trans hx2).keep HE.out.c4;have q5:=(HX.out.trans hx2).keep HE.out.c5;have q6:=(HX.out.trans hx2).keep HE.out.c6;have q7:=(HX.out.trans hx2).keep HE.out.c7)|(go_at_call 50;refine(H1.out _ (HX.out.trans hx2)).mono ?_;rintro _ w3 ⟨rfl,hx3⟩))
 go_ret
 exact⟨rfl,(HX.out.trans hx2).trans hx3⟩
theorem pr_len (tb nm:ByteArray) (ix vk vi:Int) (vt:ByteArray) (b off n c:Nat) (w:World) (L r:Int) (d1:decide (L<r)=false)
  (HLv:Hid (∀W,Calls Tryz.prog 90 #[.agg #[.int .i64 9,.string tb,.string nm,.int .i64 ix,.int .i64 vk,.int .i64 vi,.string vt,.slice (some ⟨b,off,none⟩) n c]] W fun r w'=>r= .returned (.int .i64 L)∧Ext W w')) (x:Ex) (X:ByteArray) (A1:Option Addr) (n1 c1:Nat) (hn:n=1) (hX:X.size≤100000)
  (e1:EltAt w b (off+0*8) x A1 n1 c1)
  (h1:∀W,Ext w W→Calls Tryz.prog 50 #[x.d.val A1 n1 c1,.int .i64 1] W fun r w'=>r= .returned (.string X)∧Ext W w'):
  Calls Tryz.prog 50 #[.agg #[.int .i64 9,.string tb,.string nm,.int .i64 ix,.int .i64 vk,.int .i64 vi,.string vt,.slice (some ⟨b,off,none⟩) n c],.int .i64 r] w fun r w'=>r= .returned (.string (⟨#[76,69,78,71,84,72,40]⟩++X++⟨#[41]⟩))∧Ext w w':=by
 subst hn
 have HB:=hid (Blk.of_new w 37 (eC 9 tb nm ix vk vi vt (some ⟨b,off,none⟩) 1 c))
 have HX:=hid ((Ext.refl w).alloc (.cells #[.int .i64 9,.string tb,.string nm,.int .i64 ix,.int .i64 vk,.int .i64 vi,.string vt,.slice (some ⟨b,off,none⟩) 1 c] 37))
 have H1:=hid h1
 unfold Nd.val at H1
 simp only[Nat.zero_mul,Nat.add_zero]at e1
 have HE:=hid e1
 clear h1 e1
 go_enter Tryz.func50,Tryz.ntmps50
 go_wp2_with (first|(go_at_call 90;refine(HLv.out _).mono ?_;rintro _ w2 ⟨rfl,hx2⟩;have hb2:=HB.out.ext hx2;obtain⟨c0,c1,c2,c3,c4,c5,c6,c7,-⟩:=cls hb2;clear hb2;have q0:=(HX.out.trans hx2).keep HE.out.c0;have q1:=(HX.out.trans hx2).keep HE.out.c1;have q2:=(HX.out.trans hx2).keep HE.out.c2;have q3:=(HX.out.trans hx2).keep HE.out.c3;have q4:=(HX.out.trans hx2).keep HE.out.c4;have q5:=(HX.out.trans hx2).keep HE.out.c5;have q6:=(HX.out.trans hx2).keep HE.out.c6;have q7:=(HX.out.trans hx2).keep HE.out.c7)|(go_at_call 50;refine(H1.out _ (HX.out.trans hx2)).mono ?_;rintro _ w3 ⟨rfl,hx3⟩))
 go_ret
 exact⟨rfl,(HX.out.trans hx2).trans hx3⟩
theorem pr_isnull (tb nm:ByteArray) (ix vk vi:Int) (vt:ByteArray) (b off n c:Nat) (w:World) (L r:Int) (d1:decide (L<r)=false)
  (HLv:Hid (∀W,Calls Tryz.prog 90 #[.agg #[.int .i64 17,.string tb,.string nm,.int .i64 ix,.int .i64 vk,.int .i64 vi,.string vt,.slice (some ⟨b,off,none⟩) n c]] W fun r w'=>r= .returned (.int .i64 L)∧Ext W w')) (x:Ex) (X:ByteArray) (A1:Option Addr) (n1 c1:Nat) (hn:n=1) (hX:X.size≤100000)
  (e1:EltAt w b (off+0*8) x A1 n1 c1)
  (h1:∀W,Ext w W→Calls Tryz.prog 50 #[x.d.val A1 n1 c1,.int .i64 5] W fun r w'=>r= .returned (.string X)∧Ext W w'):
  Calls Tryz.prog 50 #[.agg #[.int .i64 17,.string tb,.string nm,.int .i64 ix,.int .i64 vk,.int .i64 vi,.string vt,.slice (some ⟨b,off,none⟩) n c],.int .i64 r] w fun r w'=>r= .returned (.string (X++⟨#[32,73,83,32,78,85,76,76]⟩))∧Ext w w':=by
 subst hn
 have HB:=hid (Blk.of_new w 37 (eC 17 tb nm ix vk vi vt (some ⟨b,off,none⟩) 1 c))
 have HX:=hid ((Ext.refl w).alloc (.cells #[.int .i64 17,.string tb,.string nm,.int .i64 ix,.int .i64 vk,.int .i64 vi,.string vt,.slice (some ⟨b,off,none⟩) 1 c] 37))
 have H1:=hid h1
 unfold Nd.val at H1
 simp only[Nat.zero_mul,Nat.add_zero]at e1
 have HE:=hid e1
 clear h1 e1
 go_enter Tryz.func50,Tryz.ntmps50
 go_wp2_with (first|(go_at_call 90;refine(HLv.out _).mono ?_;rintro _ w2 ⟨rfl,hx2⟩;have hb2:=HB.out.ext hx2;obtain⟨c0,c1,c2,c3,c4,c5,c6,c7,-⟩:=cls hb2;clear hb2;have q0:=(HX.out.trans hx2).keep HE.out.c0;have q1:=(HX.out.trans hx2).keep HE.out.c1;have q2:=(HX.out.trans hx2).keep HE.out.c2;have q3:=(HX.out.trans hx2).keep HE.out.c3;have q4:=(HX.out.trans hx2).keep HE.out.c4;have q5:=(HX.out.trans hx2).keep HE.out.c5;have q6:=(HX.out.trans hx2).keep HE.out.c6;have q7:=(HX.out.trans hx2).keep HE.out.c7)|(go_at_call 50;refine(H1.out _ (HX.out.trans hx2)).mono ?_;rintro _ w3 ⟨rfl,hx3⟩))
 go_ret
 exact⟨rfl,(HX.out.trans hx2).trans hx3⟩
theorem pr_not (tb nm:ByteArray) (ix vk vi:Int) (vt:ByteArray) (b off n c:Nat) (w:World) (L r:Int) (d1:decide (L<r)=false)
  (HLv:Hid (∀W,Calls Tryz.prog 90 #[.agg #[.int .i64 20,.string tb,.string nm,.int .i64 ix,.int .i64 vk,.int .i64 vi,.string vt,.slice (some ⟨b,off,none⟩) n c]] W fun r w'=>r= .returned (.int .i64 L)∧Ext W w')) (x:Ex) (X:ByteArray) (A1:Option Addr) (n1 c1:Nat) (hn:n=1) (hX:X.size≤100000)
  (e1:EltAt w b (off+0*8) x A1 n1 c1)
  (h1:∀W,Ext w W→Calls Tryz.prog 50 #[x.d.val A1 n1 c1,.int .i64 3] W fun r w'=>r= .returned (.string X)∧Ext W w'):
  Calls Tryz.prog 50 #[.agg #[.int .i64 20,.string tb,.string nm,.int .i64 ix,.int .i64 vk,.int .i64 vi,.string vt,.slice (some ⟨b,off,none⟩) n c],.int .i64 r] w fun r w'=>r= .returned (.string (⟨#[78,79,84,32]⟩++X))∧Ext w w':=by
 subst hn
 have HB:=hid (Blk.of_new w 37 (eC 20 tb nm ix vk vi vt (some ⟨b,off,none⟩) 1 c))
 have HX:=hid ((Ext.refl w).alloc (.cells #[.int .i64 20,.string tb,.string nm,.int .i64 ix,.int .i64 vk,.int .i64 vi,.string vt,.slice (some ⟨b,off,none⟩) 1 c] 37))
 have H1:=hid h1
 unfold Nd.val at H1
 simp only[Nat.zero_mul,Nat.add_zero]at e1
 have HE:=hid e1
 clear h1 e1
 go_enter Tryz.func50,Tryz.ntmps50
 go_wp2_with (first|(go_at_call 90;refine(HLv.out _).mono ?_;rintro _ w2 ⟨rfl,hx2⟩;have hb2:=HB.out.ext hx2;obtain⟨c0,c1,c2,c3,c4,c5,c6,c7,-⟩:=cls hb2;clear hb2;have q0:=(HX.out.trans hx2).keep HE.out.c0;have q1:=(HX.out.trans hx2).keep HE.out.c1;have q2:=(HX.out.trans hx2).keep HE.out.c2;have q3:=(HX.out.trans hx2).keep HE.out.c3;have q4:=(HX.out.trans hx2).keep HE.out.c4;have q5:=(HX.out.trans hx2).keep HE.out.c5;have q6:=(HX.out.trans hx2).keep HE.out.c6;have q7:=(HX.out.trans hx2).keep HE.out.c7)|(go_at_call 50;refine(H1.out _ (HX.out.trans hx2)).mono ?_;rintro _ w3 ⟨rfl,hx3⟩))
 go_ret
 exact⟨rfl,(HX.out.trans hx2).trans hx3⟩
theorem pr_bin4 (op:Int) (tb nm:ByteArray) (ix vk vi:Int) (vt:ByteArray) (b off n c:Nat) (w:World) (L r:Int) (d1:decide (L<r)=false) (hl1:1≤L) (hl2:L≤8) (b4:(L==4)=true)
  (HLv:Hid (∀W,Calls Tryz.prog 90 #[.agg #[.int .i64 op,.string tb,.string nm,.int .i64 ix,.int .i64 vk,.int .i64 vi,.string vt,.slice (some ⟨b,off,none⟩) n c]] W fun r w'=>r= .returned (.int .i64 L)∧Ext W w')) (x y:Ex) (X Y:ByteArray) (A1 A2:Option Addr) (n1 n2 c1 c2:Nat)
  (hop:4≤op∧op≤8∨10≤op∧op≤16∨op=18∨op=19) (hn:n=2) (hX:X.size≤100000) (hY:Y.size≤100000)
  (e1:EltAt w b (off+0*8) x A1 n1 c1) (e2:EltAt w b (off+1*8) y A2 n2 c2)
  (h1:∀W,Ext w W→Calls Tryz.prog 50 #[x.d.val A1 n1 c1,.int .i64 5] W fun r w'=>r= .returned (.string X)∧Ext W w')
  (h2:∀W,Ext w W→Calls Tryz.prog 50 #[y.d.val A2 n2 c2,.int .i64 (L+1)] W fun r w'=>r= .returned (.string Y)∧Ext W w'):
  Calls Tryz.prog 50 #[.agg #[.int .i64 op,.string tb,.string nm,.int .i64 ix,.int .i64 vk,.int .i64 vi,.string vt,.slice (some ⟨b,off,none⟩) n c],.int .i64 r] w fun r w'=>r= .returned (.string (X++⟨#[32]⟩++sgn op++⟨#[32]⟩++Y))∧Ext w w':=by
 subst hn
 have b1:(op==1)=false:=by rw[beq_eq_false_iff_ne];omega
 have b2:(op==2)=false:=by rw[beq_eq_false_iff_ne];omega
 have b3:(op==3)=false:=by rw[beq_eq_false_iff_ne];omega
 have b9:(op==9)=false:=by rw[beq_eq_false_iff_ne];omega
 have b17:(op==17)=false:=by rw[beq_eq_false_iff_ne];omega
 have b20:(op==20)=false:=by rw[beq_eq_false_iff_ne];omega
 have hs1:=sgn_size op
 have HSg:=hid (fun W=>rsign_any op W hop)
 have HE:=hid e1
 have HE2:=hid e2
 have H1:=hid h1
 have H2:=hid h2
 clear e1 e2 h1 h2 hop
 unfold Nd.val at H1 H2
 generalize sgn op=G at*
 have HB:=hid (Blk.of_new w 37 (eC op tb nm ix vk vi vt (some ⟨b,off,none⟩) 2 c))
 have HX:=hid ((Ext.refl w).alloc (.cells #[.int .i64 op,.string tb,.string nm,.int .i64 ix,.int .i64 vk,.int .i64 vi,.string vt,.slice (some ⟨b,off,none⟩) 2 c] 37))
 have lw:IntKind.i64.wrap (L+1)=L+1:=IntWalk.i64_in _ (by omega)
 have HLW:=hid lw
 clear lw
 go_enter Tryz.func50,Tryz.ntmps50
 go_wp2_with (go_at_call 90;refine(HLv.out _).mono ?_;rintro _ w2 ⟨rfl,hx2⟩;have hb2:=HB.out.ext hx2;obtain⟨c0,c1,c2,c3,c4,c5,c6,c7,-⟩:=cls hb2;clear hb2)
 have HX2:=hid (HX.out.trans hx2)
 have HB2:=hid (HB.out.ext hx2)
 clear c0 c1 c2 c3 c4 c5 c6 c7 hx2
 have hb:=HB2.out
 obtain⟨k0,k1,k2,k3,k4,k5,k6,k7,-⟩:=lks hb
 have lw:=HLW.out
 clear hb
 refine wp_region_later (by kernel_rfl) (by kernel_rfl) ?_
 repeat (go_big_quiet_step ((go_at_call 90;exact later_of (HLv.out _))))
 refine wpQuiet_nil ?_
 intro w3 hw3
 have hx3:=later_out hw3
 clear hw3 k0 k1 k2 k3 k4 k5 k6 k7 lw
 have HX3:=hid (HX2.out.trans hx3)
 have HB3:=hid (HB2.out.ext hx3)
 clear hx3
 have hb2:=HB3.out
 obtain⟨c0,c1,c2,c3,c4,c5,c6,c7,-⟩:=cls hb2
 clear hb2
 go_wp2_with (go_at_call 90;refine(HLv.out _).mono ?_;rintro _ w4 ⟨rfl,hx4⟩)
 have HX4:=hid (HX3.out.trans hx4)
 have hb:=HB3.out.ext hx4
 clear c0 c1 c2 c3 c4 c5 c6 c7 hx4
 obtain⟨k0,k1,k2,k3,k4,k5,k6,k7,-⟩:=lks hb
 have q0:=Later.keep (HX4.out.keep HE.out.c0)
 have q1:=Later.keep (HX4.out.keep HE.out.c1)
 have q2:=Later.keep (HX4.out.keep HE.out.c2)
 have q3:=Later.keep (HX4.out.keep HE.out.c3)
 have q4:=Later.keep (HX4.out.keep HE.out.c4)
 have q5:=Later.keep (HX4.out.keep HE.out.c5)
 have q6:=Later.keep (HX4.out.keep HE.out.c6)
 have q7:=Later.keep (HX4.out.keep HE.out.c7)
 have s0:=Later.keep (HX4.out.keep HE2.out.c0)
 have s1:=Later.keep (HX4.out.keep HE2.out.c1)
 have s2:=Later.keep (HX4.out.keep HE2.out.c2)
 have s3:=Later.keep (HX4.out.keep HE2.out.c3)
 have s4:=Later.keep (HX4.out.keep HE2.out.c4)
 have s5:=Later.keep (HX4.out.keep HE2.out.c5)
 have s6:=Later.keep (HX4.out.keep HE2.out.c6)
 have s7:=Later.keep (HX4.out.keep HE2.out.c7)
 simp only[Nat.zero_mul,Nat.add_zero]at q0 q1 q2 q3 q4 q5 q6 q7
 have HC1:Hid (∀z:Later w4,Calls Tryz.prog 50 _ z.now _):=fun z=>H1.out z.now (HX4.out.trans z.ext)
 have HC2:Hid (∀z:Later w4,Calls Tryz.prog 50 _ z.now _):=fun z=>H2.out z.now (HX4.out.trans z.ext)
 clear hb
 refine wp_region_later (by kernel_rfl) (by kernel_rfl) ?_
 repeat (go_big_quiet_step ((first|(go_at_call 50;with_reducible exact later_of (HC1.out _))|(go_at_call 50;with_reducible exact later_of (HC2.out _))|(go_at_call 93;exact later_of (HSg.out _)))))
 refine wpQuiet_nil ?_
 intro w5 hw5
 have hx5:=later_out hw5
 clear hw5 k0 k1 k2 k3 k4 k5 k6 k7 q0 q1 q2 q3 q4 q5 q6 q7 s0 s1 s2 s3 s4 s5 s6 s7
 go_wp2_with fail
 go_ret
 exact⟨rfl,HX4.out.trans hx5⟩
theorem pr_bin (op:Int) (tb nm:ByteArray) (ix vk vi:Int) (vt:ByteArray) (b off n c:Nat) (w:World) (L r:Int) (d1:decide (L<r)=false) (hl1:1≤L) (hl2:L≤8) (b4:(L==4)=false)
  (HLv:Hid (∀W,Calls Tryz.prog 90 #[.agg #[.int .i64 op,.string tb,.string nm,.int .i64 ix,.int .i64 vk,.int .i64 vi,.string vt,.slice (some ⟨b,off,none⟩) n c]] W fun r w'=>r= .returned (.int .i64 L)∧Ext W w')) (x y:Ex) (X Y:ByteArray) (A1 A2:Option Addr) (n1 n2 c1 c2:Nat)
  (hop:4≤op∧op≤8∨10≤op∧op≤16∨op=18∨op=19) (hn:n=2) (hX:X.size≤100000) (hY:Y.size≤100000)
  (e1:EltAt w b (off+0*8) x A1 n1 c1) (e2:EltAt w b (off+1*8) y A2 n2 c2)
  (h1:∀W,Ext w W→Calls Tryz.prog 50 #[x.d.val A1 n1 c1,.int .i64 L] W fun r w'=>r= .returned (.string X)∧Ext W w')
  (h2:∀W,Ext w W→Calls Tryz.prog 50 #[y.d.val A2 n2 c2,.int .i64 (L+1)] W fun r w'=>r= .returned (.string Y)∧Ext W w'):
  Calls Tryz.prog 50 #[.agg #[.int .i64 op,.string tb,.string nm,.int .i64 ix,.int .i64 vk,.int .i64 vi,.string vt,.slice (some ⟨b,off,none⟩) n c],.int .i64 r] w fun r w'=>r= .returned (.string (X++⟨#[32]⟩++sgn op++⟨#[32]⟩++Y))∧Ext w w':=by
 subst hn
 have b1:(op==1)=false:=by rw[beq_eq_false_iff_ne];omega
 have b2:(op==2)=false:=by rw[beq_eq_false_iff_ne];omega
 have b3:(op==3)=false:=by rw[beq_eq_false_iff_ne];omega
 have b9:(op==9)=false:=by rw[beq_eq_false_iff_ne];omega
 have b17:(op==17)=false:=by rw[beq_eq_false_iff_ne];omega
 have b20:(op==20)=false:=by rw[beq_eq_false_iff_ne];omega
 have hs1:=sgn_size op
 have HSg:=hid (fun W=>rsign_any op W hop)
 have HE:=hid e1
 have HE2:=hid e2
 have H1:=hid h1
 have H2:=hid h2
 clear e1 e2 h1 h2 hop
 unfold Nd.val at H1 H2
 generalize sgn op=G at*
 have HB:=hid (Blk.of_new w 37 (eC op tb nm ix vk vi vt (some ⟨b,off,none⟩) 2 c))
 have HX:=hid ((Ext.refl w).alloc (.cells #[.int .i64 op,.string tb,.string nm,.int .i64 ix,.int .i64 vk,.int .i64 vi,.string vt,.slice (some ⟨b,off,none⟩) 2 c] 37))
 have lw:IntKind.i64.wrap (L+1)=L+1:=IntWalk.i64_in _ (by omega)
 have HLW:=hid lw
 clear lw
 go_enter Tryz.func50,Tryz.ntmps50
 go_wp2_with (go_at_call 90;refine(HLv.out _).mono ?_;rintro _ w2 ⟨rfl,hx2⟩;have hb2:=HB.out.ext hx2;obtain⟨c0,c1,c2,c3,c4,c5,c6,c7,-⟩:=cls hb2;clear hb2)
 have HX2:=hid (HX.out.trans hx2)
 have HB2:=hid (HB.out.ext hx2)
 clear c0 c1 c2 c3 c4 c5 c6 c7 hx2
 have hb:=HB2.out
 obtain⟨k0,k1,k2,k3,k4,k5,k6,k7,-⟩:=lks hb
 have lw:=HLW.out
 clear hb
 refine wp_region_later (by kernel_rfl) (by kernel_rfl) ?_
 repeat (go_big_quiet_step ((go_at_call 90;exact later_of (HLv.out _))))
 refine wpQuiet_nil ?_
 intro w3 hw3
 have hx3:=later_out hw3
 clear hw3 k0 k1 k2 k3 k4 k5 k6 k7 lw
 have HX3:=hid (HX2.out.trans hx3)
 have HB3:=hid (HB2.out.ext hx3)
 clear hx3
 have hb2:=HB3.out
 obtain⟨c0,c1,c2,c3,c4,c5,c6,c7,-⟩:=cls hb2
 clear hb2
 go_wp2_with (go_at_call 90;refine(HLv.out _).mono ?_;rintro _ w4 ⟨rfl,hx4⟩)
 have HX4:=hid (HX3.out.trans hx4)
 have hb:=HB3.out.ext hx4
 clear c0 c1 c2 c3 c4 c5 c6 c7 hx4
 obtain⟨k0,k1,k2,k3,k4,k5,k6,k7,-⟩:=lks hb
 have q0:=Later.keep (HX4.out.keep HE.out.c0)
 have q1:=Later.keep (HX4.out.keep HE.out.c1)
 have q2:=Later.keep (HX4.out.keep HE.out.c2)
 have q3:=Later.keep (HX4.out.keep HE.out.c3)
 have q4:=Later.keep (HX4.out.keep HE.out.c4)
 have q5:=Later.keep (HX4.out.keep HE.out.c5)
 have q6:=Later.keep (HX4.out.keep HE.out.c6)
 have q7:=Later.keep (HX4.out.keep HE.out.c7)
 have s0:=Later.keep (HX4.out.keep HE2.out.c0)
 have s1:=Later.keep (HX4.out.keep HE2.out.c1)
 have s2:=Later.keep (HX4.out.keep HE2.out.c2)
 have s3:=Later.keep (HX4.out.keep HE2.out.c3)
 have s4:=Later.keep (HX4.out.keep HE2.out.c4)
 have s5:=Later.keep (HX4.out.keep HE2.out.c5)
 have s6:=Later.keep (HX4.out.keep HE2.out.c6)
 have s7:=Later.keep (HX4.out.keep HE2.out.c7)
 simp only[Nat.zero_mul,Nat.add_zero]at q0 q1 q2 q3 q4 q5 q6 q7
 have HC1:Hid (∀z:Later w4,Calls Tryz.prog 50 _ z.now _):=fun z=>H1.out z.now (HX4.out.trans z.ext)
 have HC2:Hid (∀z:Later w4,Calls Tryz.prog 50 _ z.now _):=fun z=>H2.out z.now (HX4.out.trans z.ext)
 clear hb
 refine wp_region_later (by kernel_rfl) (by kernel_rfl) ?_
 repeat (go_big_quiet_step ((first|(go_at_call 50;with_reducible exact later_of (HC1.out _))|(go_at_call 50;with_reducible exact later_of (HC2.out _))|(go_at_call 93;exact later_of (HSg.out _)))))
 refine wpQuiet_nil ?_
 intro w5 hw5
 have hx5:=later_out hw5
 clear hw5 k0 k1 k2 k3 k4 k5 k6 k7 q0 q1 q2 q3 q4 q5 q6 q7 s0 s1 s2 s3 s4 s5 s6 s7
 go_wp2_with fail
 go_ret
 exact⟨rfl,HX4.out.trans hx5⟩
theorem pr_brk (d:Nd) (A:Option Addr) (n c:Nat) (w:World) (L r:Int) (P:ByteArray) (d1:decide (L<r)=true) (hP:P.size≤100000)
  (HLv:Hid (∀W,Calls Tryz.prog 90 #[d.val A n c] W fun r w'=>r= .returned (.int .i64 L)∧Ext W w'))
  (H1:Hid (∀W,Ext w W→Calls Tryz.prog 50 #[d.val A n c,.int .i64 1] W fun r w'=>r= .returned (.string P)∧Ext W w')):
  Calls Tryz.prog 50 #[d.val A n c,.int .i64 r] w fun r w'=>r= .returned (.string (⟨#[40]⟩++P++⟨#[41]⟩))∧Ext w w':=by
 have HB:=hid (Blk.of_new w 37 (d.cells A n c))
 have HX:=hid ((Ext.refl w).alloc (.cells (d.cells A n c).toArray 37))
 unfold Nd.val at*
 unfold Nd.cells at*
 obtain⟨op,tb,nm,ix,vk,vi,vt⟩:=d
 simp only at*
 go_enter Tryz.func50,Tryz.ntmps50
 go_wp2_with (first|(go_at_call 90;refine(HLv.out _).mono ?_;rintro _ w2 ⟨rfl,hx2⟩;have hb2:=HB.out.ext hx2;obtain⟨c0,c1,c2,c3,c4,c5,c6,c7,-⟩:=cls hb2;clear hb2)|(go_at_call 50;refine(H1.out _ (HX.out.trans hx2)).mono ?_;rintro _ w3 ⟨rfl,hx3⟩))
 go_ret
 exact⟨rfl,(HX.out.trans hx2).trans hx3⟩
theorem lvl_bd (op:Int):1≤lvl op∧lvl op≤8:=by unfold lvl;repeat' split<;>try omega
theorem opN_op {op:Int} {k:Nat} (h:opN op=(k:Int)):1≤op∧op≤20:=by
 rcases opN_cases op with ⟨h0,h5⟩|⟨h0,h5⟩|⟨h0,h5⟩|h0<;>omega
theorem rprint_any:∀(e:Ex) (r:Int) (A:Option Addr) (n c:Nat) (w:World),ExV w e A n c→e.formed=true→e.size≤1000→
  Calls Tryz.prog 50 #[e.d.val A n c,.int .i64 r] w fun x w'=>x= .returned (.string (e.tx r))∧Ext w w':=by
 intro e
 induction e using Ex.ind with
 |h d ks ih=>
  intro r A n c w hv hf hs
  have hps:=pl_size _ hf
  have key:∀(r:Int) (w:World),ExV w (.mk d ks) A n c→¬lvl d.op<r→Calls Tryz.prog 50 #[(Ex.mk d ks).d.val A n c,.int .i64 r] w fun x w'=>x= .returned (.string (Ex.mk d ks).pl)∧Ext w w':=by
   intro r w hv hr
   obtain⟨h1,h2,h3,h4⟩:=hv
   have h1:ks.length=n:=h1
   have h4:KidsAt w A ks:=h4
   have h3:d.fit:=h3
   obtain⟨f1,f2,f3⟩:=formed_parts hf
   have hop:=opN_op f1
   have d1:decide (lvl d.op<r)=false:=by simpa using hr
   have hx:∀x∈ks,∀(r:Int) (A':Option Addr) (n' c':Nat) (W:World),Ext w W→ExV W x A' n' c'→Calls Tryz.prog 50 #[x.d.val A' n' c',.int .i64 r] W fun y w'=>y= .returned (.string (x.tx r))∧Ext W w':=
    fun x hx r A' n' c' W _ hxv=>ih x hx r A' n' c' W hxv (f2 x hx) (Nat.le_trans (formed_size_kid (d:=d) hx) hs)
   have htx:∀x∈ks,∀r,(x.tx r).size≤100000:=by
    intro x hx r
    have hsz:x.size≤1000:=Nat.le_trans (formed_size_kid (d:=d) hx) hs
    have:=tx_size x r (f2 x hx)
    omega
   have HLv:∀A,Hid (∀W,Calls Tryz.prog 90 #[.agg #[.int .i64 d.op,.string d.tb,.string d.nm,.int .i64 d.ix,.int .i64 d.vk,.int .i64 d.vi,.string d.vt,.slice A n c]] W fun r w'=>r= .returned (.int .i64 (lvl d.op))∧Ext W w'):=
    fun A W=>rlevel_any (.mk d ks) A n c W hop
   rw[pl_mk]
   have hval:∀A,(Ex.mk d ks).d.val A n c= .agg #[.int .i64 d.op,.string d.tb,.string d.nm,.int .i64 d.ix,.int .i64 d.vk,.int .i64 d.vi,.string d.vt,.slice A n c]:=fun _=>rfl
   rw[hval]
   unfold plD
   rcases opN_cases d.op with ⟨h0,h5⟩|⟨h0,h5⟩|⟨h0,h5⟩|h0
   ·have HL:=HLv A
    rcases h5 with h5|h5
    ·unfold ndB at f3
     rw[if_neg (by omega),if_pos h5]at f3
     simp only[Bool.and_eq_true]at f3
     obtain⟨l1,l2,l3⟩:=litB_size f3.2
     generalize lvl d.op=L at*
     rw[h5]at HL
     rw[if_pos h5,h5]
     rcases l3 with l3|l3|l3
     ·rw[l3]at HL
      rw[if_neg (by omega),if_neg (by omega),l3]
      exact pr_null _ _ _ d.vk _ _ _ _ _ _ L r d1 HL
     ·rw[if_pos l3]
      rw[l3]at HL ⊢
      exact pr_num _ _ _ d.vk _ _ _ _ _ _ L r d1 HL h3.vi (by have:=l2 l3;omega)
     ·rw[if_neg (by omega),if_pos l3]
      rw[l3]at HL ⊢
      exact pr_text _ _ _ d.vk _ _ _ _ _ _ L r d1 HL (by omega)
    ·unfold ndB at f3
     rw[if_pos h5]at f3
     simp only[Bool.and_eq_true,Bool.or_eq_true,beq_iff_eq]at f3
     have l1:=nameB_size f3.1.1
     generalize lvl d.op=L at*
     rw[h5]at HL
     rw[if_neg (by omega),if_pos h5,h5]
     by_cases ht:d.tb.size=0
     ·rw[empty_yes ht]at HL
      rw[if_pos ht,empty_yes ht]
      exact pr_col d.tb _ _ _ _ _ _ _ _ _ L r d1 HL
     ·rw[if_neg ht]
      have l2:d.tb.size≤24:=by
       rcases f3.1.2 with h|h
       ·exact absurd h ht
       ·exact nameB_size h
      exact pr_qual _ _ _ _ _ _ _ _ _ _ L r d1 HL (empty_no ht) (empty_no2 ht) (by omega) (by omega)
   ·obtain⟨a,rfl⟩:∃a,ks= [a]:=by
     have:ks.length=1:=by omega
     exact List.length_eq_one_iff.1 this
    obtain⟨b,off,A',n',c',rfl,hE⟩:=h4.get (i:=0) (e:=a) rfl
    have HL:=HLv (some ⟨b,off,none⟩)
    have ha:a∈[a]:=by simp
    have hn1:n=1:=by rw[←h1];rfl
    simp only[List.map_cons,List.map_nil,List.getD_cons_zero]
    generalize lvl d.op=L at*
    rcases h5 with h5|h5|h5|h5
    ·rw[h5]at HL
     rw[if_neg (by omega),if_neg (by omega),if_pos h5,h5]
     exact pr_neg _ _ _ _ _ _ b off n c w L r d1 HL a _ A' n' c' hn1 (htx a ha 8) hE fun W hW=>hx a ha 8 A' n' c' W hW (hE.val.ext hW)
    ·rw[h5]at HL
     rw[if_neg (by omega),if_neg (by omega),if_neg (by omega),if_pos h5,h5]
     exact pr_len _ _ _ _ _ _ b off n c w L r d1 HL a _ A' n' c' hn1 (htx a ha 1) hE fun W hW=>hx a ha 1 A' n' c' W hW (hE.val.ext hW)
    ·rw[h5]at HL
     rw[if_neg (by omega),if_neg (by omega),if_neg (by omega),if_neg (by omega),if_pos h5,h5]
     exact pr_isnull _ _ _ _ _ _ b off n c w L r d1 HL a _ A' n' c' hn1 (htx a ha 5) hE fun W hW=>hx a ha 5 A' n' c' W hW (hE.val.ext hW)
    ·rw[h5]at HL
     rw[if_neg (by omega),if_neg (by omega),if_neg (by omega),if_neg (by omega),if_neg (by omega),if_pos h5,h5]
     exact pr_not _ _ _ _ _ _ b off n c w L r d1 HL a _ A' n' c' hn1 (htx a ha 3) hE fun W hW=>hx a ha 3 A' n' c' W hW (hE.val.ext hW)
   ·obtain⟨x,y,rfl⟩:∃x y,ks= [x,y]:=by
     have:ks.length=2:=by omega
     match ks,this with
     | [x,y],_=>exact⟨x,y,rfl⟩
    obtain⟨b,off,A1,n1,c1,rfl,hE⟩:=h4.get (i:=0) (e:=x) rfl
    obtain⟨b2,off2,A2,n2,c2,hA2,hE2⟩:=h4.get (i:=1) (e:=y) rfl
    simp only[Option.some.injEq,Addr.mk.injEq,and_true]at hA2
    obtain⟨rfl,rfl⟩:=hA2
    have HL:=HLv (some ⟨b,off,none⟩)
    have ha:x∈[x,y]:=by simp
    have hb:y∈[x,y]:=by simp
    have hn2:n=2:=by rw[←h1];rfl
    have hlb:=lvl_bd d.op
    simp only[List.map_cons,List.map_nil,List.getD_cons_zero,List.getD_cons_succ]
    rw[if_neg (by omega),if_neg (by omega),if_neg (by omega),if_neg (by omega),if_neg (by omega),if_neg (by omega)]
    by_cases h4':lvl d.op=4
    ·rw[if_pos h4']
     exact pr_bin4 d.op _ _ _ _ _ _ b off n c w (lvl d.op) r d1 hlb.1 hlb.2 (by rw[h4'];rfl) HL x y _ _ A1 A2 n1 n2 c1 c2 h5 hn2 (htx x ha 5) (htx y hb (lvl d.op+1)) hE hE2
      (fun W hW=>hx x ha 5 A1 n1 c1 W hW (hE.val.ext hW)) (fun W hW=>hx y hb (lvl d.op+1) A2 n2 c2 W hW (hE2.val.ext hW))
    ·rw[if_neg h4']
     exact pr_bin d.op _ _ _ _ _ _ b off n c w (lvl d.op) r d1 hlb.1 hlb.2 (by simpa using h4') HL x y _ _ A1 A2 n1 n2 c1 c2 h5 hn2 (htx x ha (lvl d.op)) (htx y hb (lvl d.op+1)) hE hE2
      (fun W hW=>hx x ha (lvl d.op) A1 n1 c1 W hW (hE.val.ext hW)) (fun W hW=>hx y hb (lvl d.op+1) A2 n2 c2 W hW (hE2.val.ext hW))
   ·omega
  have htx:(Ex.mk d ks).tx r=if lvl d.op<r then ⟨#[40]⟩++(Ex.mk d ks).pl++⟨#[41]⟩else (Ex.mk d ks).pl:=rfl
  rw[htx]
  by_cases hr:lvl d.op<r
  ·rw[if_pos hr]
   have hop:=opN_op (formed_parts hf).1
   exact pr_brk d A n c w (lvl d.op) r _ (by simpa using hr) (by omega) (fun W=>rlevel_any (.mk d ks) A n c W hop) fun W hW=>key 1 W (hv.ext hW) (by have:=lvl_bd d.op;omega)
  ·rw[if_neg hr]
   exact key r w hv hr
def textE (e:Ex):ByteArray:=if validE e=0 then e.tx 1 else ⟨#[]⟩
theorem validE_cases (e:Ex):validE e=0∧e.formed=true∧e.size≤400∨validE e=1∨validE e=3:=by
 unfold validE
 rw[large_one]
 by_cases h:(decide (400<e.nodes)||decide (50<e.depth))=true
 ·rw[if_pos h];exact .inr (.inr rfl)
 ·rw[if_neg h]
  by_cases hf:e.formed=true
  ·rw[if_pos hf]
   refine .inl ⟨rfl,hf,?_⟩
   have:=formed_nodes e hf
   simp only[Bool.or_eq_true,decide_eq_true_eq,not_or]at h
   omega
  ·rw[if_neg hf];exact .inr (.inl rfl)
theorem ret_2 {a a':ByteArray} {b b':Int} (h:a=a') (h2:b=b'):Ending.returned (.tuple #[.string a,.int .i64 b])= .returned (.tuple #[.string a',.int .i64 b']):=by rw[h,h2]
theorem rtext_expr (e:Ex) (A:Option Addr) (n c:Nat) (w:World) (hv:ExV w e A n c):
  Calls Tryz.prog 26 #[e.d.val A n c] w fun r w'=>r= .returned (.tuple #[.string (textE e),.int .i64 (validE e)])∧Ext w w':=by
 have HV:=hid (fun W (hW:Ext w W)=>rvalid_any e A n c W (hv.ext hW))
 have HP:Hid (validE e=0→∀W,Ext w W→Calls Tryz.prog 50 #[e.d.val A n c,.int .i64 1] W fun r w'=>r= .returned (.string (textE e))∧Ext W w'):=by
  intro h0 W hW
  rcases validE_cases e with ⟨_,h1,h2⟩|h1|h1
  ·unfold textE
   rw[if_pos h0]
   exact rprint_any e 1 A n c W (hv.ext hW) h1 (by omega)
  ·omega
  ·omega
 have HT:Hid (validE e≠0→textE e=⟨#[]⟩):=fun h=>by unfold textE;rw[if_neg h]
 have HB:=hid (Blk.of_new w 37 (e.d.cells A n c))
 have HX:=hid ((Ext.refl w).alloc (.cells (e.d.cells A n c).toArray 37))
 clear hv
 generalize textE e=T at*
 generalize validE e=V at*
 unfold Nd.val at*
 unfold Nd.cells at*
 generalize e.d=d at*
 obtain⟨op,tb,nm,ix,vk,vi,vt⟩:=d
 simp only at*
 by_cases h0:V=0
 ·have HP2:=hid (HP.out h0)
  clear HP HT
  subst h0
  go_enter Tryz.func26,Tryz.ntmps26
  go_wp2_with (first|(go_at_call 42;refine(HV.out _ HX.out).mono ?_;rintro _ w2 ⟨rfl,hx2⟩;have hb2:=HB.out.ext hx2;obtain⟨c0,c1,c2,c3,c4,c5,c6,c7,-⟩:=cls hb2;clear hb2)|(go_at_call 50;refine(HP2.out _ (HX.out.trans hx2)).mono ?_;rintro _ w3 ⟨rfl,hx3⟩))
  go_ret2
  exact⟨rfl,(HX.out.trans hx2).trans hx3⟩
 ·have b:(V !=0)=true:=by simpa using h0
  have HT2:=hid (HT.out h0)
  clear HP HT h0
  go_enter Tryz.func26,Tryz.ntmps26
  go_wp2_with (go_at_call 42;refine(HV.out _ HX.out).mono ?_;rintro _ w2 ⟨rfl,hx2⟩)
  go_ret2
  exact⟨ret_2 HT2.out.symm rfl,HX.out.trans hx2⟩
end Go.Proofs.YtjigcpfjhfoheaaGreatDoor
