/- Walks: Print, the reference's canonical text; Print returns the canonical text; FormatExpr and TextExpr; Opening an expression; Walks: weight (its number), SmallExpr. -/
import Derived.Test.YtjigcpfjhfoheaaGreatDoorQah
import Derived.Deep.Slices
import Derived.Deep.Fields
import Derived.ChangeSame
import Derived.ProofKit
import Derived.OpenShut
import Derived.ShutString
import Derived.Lib.SmallJoins
import Derived.Test.YtjigcpfjhfoheaaGreatDoorQae
namespace Go.Proofs.YtjigcpfjhfoheaaGreatDoor
open Go.RowKit
set_option maxHeartbeats 4000000
set_option maxRecDepth 100000
set_option linter.unusedVariables false
set_option linter.unusedSimpArgs false
theorem kp (op:Int) (w:World) (hop:4≤op∧op≤8∨10≤op∧op≤16∨op=18∨op=19):Calls Tryz.prog 93 #[.int .i64 op] w fun r w'=>r= .returned (.string (sgn op))∧Ext w w':=by
 have HS:=hid (jz op hop)
 have HC:=hid (Blk.of_new w 9 dv.toList)
 have HX:=hid ((Ext.refl w).alloc (.cells dv 9))
 have hga:(.cells dv.toList.toArray 9:Obj)= .cells dv 9:=rfl
 rw[hga]at HC
 have o0:(0:Int)≤op:=by omega
 have o1:op<20:=by omega
 have hc:=(HC.out.cell op.toNat).trans HS.out
 clear hga hop
 generalize sgn op=G at*
 go_enter Tryz.func93,Tryz.ntmps93
 unfold dv at hc HX
 go_wp2_with fail
 go_ret
 exact⟨rfl,HX.out⟩
theorem pr_num (tb nm:ByteArray) (ix vk vi:Int) (vt:ByteArray) (A:Option Addr) (n c:Nat) (w:World) (L r:Int) (d1:decide (L<r)=false)
  (HLv:Hid (∀W,Calls Tryz.prog 90 #[.agg #[.int .i64 1,.string tb,.string nm,.int .i64 ix,.int .i64 1,.int .i64 vi,.string vt,.slice A n c]] W fun r w'=>r= .returned (.int .i64 L)∧Ext W w')) (hi:I64 vi) (hm: -9223372036854775808<vi):
  Calls Tryz.prog 50 #[.agg #[.int .i64 1,.string tb,.string nm,.int .i64 ix,.int .i64 1,.int .i64 vi,.string vt,.slice A n c],.int .i64 r] w fun r w'=>r= .returned (.string (itoB vi))∧Ext w w':=by
 have HB:=hid (Blk.of_new w 37 [.int .i64 1,.string tb,.string nm,.int .i64 ix,.int .i64 1,.int .i64 vi,.string vt,.slice A n c])
 have HX:=hid ((Ext.refl w).alloc (.cells #[.int .i64 1,.string tb,.string nm,.int .i64 ix,.int .i64 1,.int .i64 vi,.string vt,.slice A n c] 37))
 go_enter Tryz.func50,Tryz.ntmps50
 go_wp2_with (first|(go_at_call 90;refine(HLv.out _).mono ?_;rintro _ w2 ⟨rfl,hx2⟩;have hb2:=HB.out.ext hx2;obtain⟨c0,c1,c2,c3,c4,c5,c6,c7,-⟩:=cls hb2;clear hb2)|(go_at_call 91;refine(rnum_any _ _ hm hi.2).mono ?_;rintro _ w3 ⟨rfl,hx3⟩))
 go_ret
 exact⟨rfl,(HX.out.trans hx2).trans hx3⟩
theorem pr_text (tb nm:ByteArray) (ix vk vi:Int) (vt:ByteArray) (A:Option Addr) (n c:Nat) (w:World) (L r:Int) (d1:decide (L<r)=false)
  (HLv:Hid (∀W,Calls Tryz.prog 90 #[.agg #[.int .i64 1,.string tb,.string nm,.int .i64 ix,.int .i64 2,.int .i64 vi,.string vt,.slice A n c]] W fun r w'=>r= .returned (.int .i64 L)∧Ext W w')) (hs:vt.size≤1000):
  Calls Tryz.prog 50 #[.agg #[.int .i64 1,.string tb,.string nm,.int .i64 ix,.int .i64 2,.int .i64 vi,.string vt,.slice A n c],.int .i64 r] w fun r w'=>r= .returned (.string (⟨#[39]⟩++iu vt++⟨#[39]⟩))∧Ext w w':=by
 have HB:=hid (Blk.of_new w 37 [.int .i64 1,.string tb,.string nm,.int .i64 ix,.int .i64 2,.int .i64 vi,.string vt,.slice A n c])
 have HX:=hid ((Ext.refl w).alloc (.cells #[.int .i64 1,.string tb,.string nm,.int .i64 ix,.int .i64 2,.int .i64 vi,.string vt,.slice A n c] 37))
 go_enter Tryz.func50,Tryz.ntmps50
 go_wp2_with (first|(go_at_call 90;refine(HLv.out _).mono ?_;rintro _ w2 ⟨rfl,hx2⟩;have hb2:=HB.out.ext hx2;obtain⟨c0,c1,c2,c3,c4,c5,c6,c7,-⟩:=cls hb2;clear hb2)|(go_at_call 92;refine(nl _ _ hs).mono ?_;rintro _ w3 ⟨rfl,hx3⟩))
 go_ret
 exact⟨rfl,(HX.out.trans hx2).trans hx3⟩
theorem pr_null (tb nm:ByteArray) (ix vk vi:Int) (vt:ByteArray) (A:Option Addr) (n c:Nat) (w:World) (L r:Int) (d1:decide (L<r)=false)
  (HLv:Hid (∀W,Calls Tryz.prog 90 #[.agg #[.int .i64 1,.string tb,.string nm,.int .i64 ix,.int .i64 0,.int .i64 vi,.string vt,.slice A n c]] W fun r w'=>r= .returned (.int .i64 L)∧Ext W w')):
  Calls Tryz.prog 50 #[.agg #[.int .i64 1,.string tb,.string nm,.int .i64 ix,.int .i64 0,.int .i64 vi,.string vt,.slice A n c],.int .i64 r] w fun r w'=>r= .returned (.string ⟨#[78,85,76,76]⟩)∧Ext w w':=by
 have HB:=hid (Blk.of_new w 37 [.int .i64 1,.string tb,.string nm,.int .i64 ix,.int .i64 0,.int .i64 vi,.string vt,.slice A n c])
 have HX:=hid ((Ext.refl w).alloc (.cells #[.int .i64 1,.string tb,.string nm,.int .i64 ix,.int .i64 0,.int .i64 vi,.string vt,.slice A n c] 37))
 go_enter Tryz.func50,Tryz.ntmps50
 go_wp2_with (first|(go_at_call 90;refine(HLv.out _).mono ?_;rintro _ w2 ⟨rfl,hx2⟩;have hb2:=HB.out.ext hx2;obtain⟨c0,c1,c2,c3,c4,c5,c6,c7,-⟩:=cls hb2;clear hb2))
 go_ret
 exact⟨rfl,HX.out.trans hx2⟩
theorem pr_col (tb nm:ByteArray) (ix vk vi:Int) (vt:ByteArray) (A:Option Addr) (n c:Nat) (w:World) (L r:Int) (d1:decide (L<r)=false)
  (HLv:Hid (∀W,Calls Tryz.prog 90 #[.agg #[.int .i64 2,.string ⟨#[]⟩,.string nm,.int .i64 ix,.int .i64 vk,.int .i64 vi,.string vt,.slice A n c]] W fun r w'=>r= .returned (.int .i64 L)∧Ext W w')):
  Calls Tryz.prog 50 #[.agg #[.int .i64 2,.string ⟨#[]⟩,.string nm,.int .i64 ix,.int .i64 vk,.int .i64 vi,.string vt,.slice A n c],.int .i64 r] w fun r w'=>r= .returned (.string nm)∧Ext w w':=by
 have HB:=hid (Blk.of_new w 37 [.int .i64 2,.string ⟨#[]⟩,.string nm,.int .i64 ix,.int .i64 vk,.int .i64 vi,.string vt,.slice A n c])
 have HX:=hid ((Ext.refl w).alloc (.cells #[.int .i64 2,.string ⟨#[]⟩,.string nm,.int .i64 ix,.int .i64 vk,.int .i64 vi,.string vt,.slice A n c] 37))
 go_enter Tryz.func50,Tryz.ntmps50
 go_wp2_with (first|(go_at_call 90;refine(HLv.out _).mono ?_;rintro _ w2 ⟨rfl,hx2⟩;have hb2:=HB.out.ext hx2;obtain⟨c0,c1,c2,c3,c4,c5,c6,c7,-⟩:=cls hb2;clear hb2))
 go_ret
 exact⟨rfl,HX.out.trans hx2⟩
theorem pr_qual (tb nm:ByteArray) (ix vk vi:Int) (vt:ByteArray) (A:Option Addr) (n c:Nat) (w:World) (L r:Int) (d1:decide (L<r)=false)
  (HLv:Hid (∀W,Calls Tryz.prog 90 #[.agg #[.int .i64 2,.string tb,.string nm,.int .i64 ix,.int .i64 vk,.int .i64 vi,.string vt,.slice A n c]] W fun r w'=>r= .returned (.int .i64 L)∧Ext W w')) (t1:¬tb.toList= []) (t2:tb.toList.isEmpty=false) (hs:tb.size≤1000) (hs2:nm.size≤1000):
  Calls Tryz.prog 50 #[.agg #[.int .i64 2,.string tb,.string nm,.int .i64 ix,.int .i64 vk,.int .i64 vi,.string vt,.slice A n c],.int .i64 r] w fun r w'=>r= .returned (.string (tb++⟨#[46]⟩++nm))∧Ext w w':=by
 have HB:=hid (Blk.of_new w 37 [.int .i64 2,.string tb,.string nm,.int .i64 ix,.int .i64 vk,.int .i64 vi,.string vt,.slice A n c])
 have HX:=hid ((Ext.refl w).alloc (.cells #[.int .i64 2,.string tb,.string nm,.int .i64 ix,.int .i64 vk,.int .i64 vi,.string vt,.slice A n c] 37))
 go_enter Tryz.func50,Tryz.ntmps50
 go_wp2_with (first|(go_at_call 90;refine(HLv.out _).mono ?_;rintro _ w2 ⟨rfl,hx2⟩;have hb2:=HB.out.ext hx2;obtain⟨c0,c1,c2,c3,c4,c5,c6,c7,-⟩:=cls hb2;clear hb2))
 go_ret
 exact⟨rfl,HX.out.trans hx2⟩
theorem pr_neg (tb nm:ByteArray) (ix vk vi:Int) (vt:ByteArray) (b off n c:Nat) (w:World) (L r:Int) (d1:decide (L<r)=false)
  (HLv:Hid (∀W,Calls Tryz.prog 90 #[.agg #[.int .i64 3,.string tb,.string nm,.int .i64 ix,.int .i64 vk,.int .i64 vi,.string vt,.slice (some ⟨b,off,none⟩) n c]] W fun r w'=>r= .returned (.int .i64 L)∧Ext W w')) (x:Ex) (X:ByteArray) (A1:Option Addr) (n1 c1:Nat) (hn:n=1) (hX:X.size≤100000)
  (e1:bK w b (off+0*8) x A1 n1 c1)
  (h1:∀W,Ext w W→Calls Tryz.prog 50 #[x.d.val A1 n1 c1,.int .i64 8] W fun r w'=>r= .returned (.string X)∧Ext W w'):
  Calls Tryz.prog 50 #[.agg #[.int .i64 3,.string tb,.string nm,.int .i64 ix,.int .i64 vk,.int .i64 vi,.string vt,.slice (some ⟨b,off,none⟩) n c],.int .i64 r] w fun r w'=>r= .returned (.string (⟨#[45]⟩++X))∧Ext w w':=by
 subst hn
 have HB:=hid (Blk.of_new w 37 [.int .i64 3,.string tb,.string nm,.int .i64 ix,.int .i64 vk,.int .i64 vi,.string vt,.slice (some ⟨b,off,none⟩) 1 c])
 have HX:=hid ((Ext.refl w).alloc (.cells #[.int .i64 3,.string tb,.string nm,.int .i64 ix,.int .i64 vk,.int .i64 vi,.string vt,.slice (some ⟨b,off,none⟩) 1 c] 37))
 have H1:=hid h1
 unfold Nd.val at H1
 simp only[Nat.zero_mul,Nat.add_zero]at e1
 have HE:=hid e1
 clear h1 e1
 go_enter Tryz.func50,Tryz.ntmps50
 go_wp2_with (first|(go_at_call 90;refine(HLv.out _).mono ?_;rintro _ w2 ⟨rfl,hx2⟩;have hb2:=HB.out.ext hx2;obtain⟨c0,c1,c2,c3,c4,c5,c6,c7,-⟩:=cls hb2;clear hb2;have q0:=(HX.out.trans hx2).keep HE.out.c0;have q1:=(HX.out.trans hx2).keep HE.out.c1;have q2:=(HX.out.trans hx2).keep HE.out.c2;have q3:=(HX.out.trans hx2).keep HE.out.c3;have q4:=(HX.out.trans hx2).keep HE.out.c4;have q5:=(HX.out.trans hx2).keep HE.out.c5;have q6:=(HX.out.trans hx2).keep HE.out.c6;have q7:=(HX.out.trans hx2).keep HE.out.c7)|(go_at_call 50;refine(H1.out _ (HX.out.trans hx2)).mono ?_;rintro _ w3 ⟨rfl,hx3⟩))
 go_ret
 exact⟨rfl,(HX.out.trans hx2).trans hx3⟩
theorem pr_len (tb nm:ByteArray) (ix vk vi:Int) (vt:ByteArray) (b off n c:Nat) (w:World) (L r:Int) (d1:decide (L<r)=false)
  (HLv:Hid (∀W,Calls Tryz.prog 90 #[.agg #[.int .i64 9,.string tb,.string nm,.int .i64 ix,.int .i64 vk,.int .i64 vi,.string vt,.slice (some ⟨b,off,none⟩) n c]] W fun r w'=>r= .returned (.int .i64 L)∧Ext W w')) (x:Ex) (X:ByteArray) (A1:Option Addr) (n1 c1:Nat) (hn:n=1) (hX:X.size≤100000)
  (e1:bK w b (off+0*8) x A1 n1 c1)
  (h1:∀W,Ext w W→Calls Tryz.prog 50 #[x.d.val A1 n1 c1,.int .i64 1] W fun r w'=>r= .returned (.string X)∧Ext W w'):
  Calls Tryz.prog 50 #[.agg #[.int .i64 9,.string tb,.string nm,.int .i64 ix,.int .i64 vk,.int .i64 vi,.string vt,.slice (some ⟨b,off,none⟩) n c],.int .i64 r] w fun r w'=>r= .returned (.string (⟨#[76,69,78,71,84,72,40]⟩++X++⟨#[41]⟩))∧Ext w w':=by
 subst hn
 have HB:=hid (Blk.of_new w 37 [.int .i64 9,.string tb,.string nm,.int .i64 ix,.int .i64 vk,.int .i64 vi,.string vt,.slice (some ⟨b,off,none⟩) 1 c])
 have HX:=hid ((Ext.refl w).alloc (.cells #[.int .i64 9,.string tb,.string nm,.int .i64 ix,.int .i64 vk,.int .i64 vi,.string vt,.slice (some ⟨b,off,none⟩) 1 c] 37))
 have H1:=hid h1
 unfold Nd.val at H1
 simp only[Nat.zero_mul,Nat.add_zero]at e1
 have HE:=hid e1
 clear h1 e1
 go_enter Tryz.func50,Tryz.ntmps50
 go_wp2_with (first|(go_at_call 90;refine(HLv.out _).mono ?_;rintro _ w2 ⟨rfl,hx2⟩;have hb2:=HB.out.ext hx2;obtain⟨c0,c1,c2,c3,c4,c5,c6,c7,-⟩:=cls hb2;clear hb2;have q0:=(HX.out.trans hx2).keep HE.out.c0;have q1:=(HX.out.trans hx2).keep HE.out.c1;have q2:=(HX.out.trans hx2).keep HE.out.c2;have q3:=(HX.out.trans hx2).keep HE.out.c3;have q4:=(HX.out.trans hx2).keep HE.out.c4;have q5:=(HX.out.trans hx2).keep HE.out.c5;have q6:=(HX.out.trans hx2).keep HE.out.c6;have q7:=(HX.out.trans hx2).keep HE.out.c7)|(go_at_call 50;refine(H1.out _ (HX.out.trans hx2)).mono ?_;rintro _ w3 ⟨rfl,hx3⟩))
 go_ret
 exact⟨rfl,(HX.out.trans hx2).trans hx3⟩
theorem pr_isnull (tb nm:ByteArray) (ix vk vi:Int) (vt:ByteArray) (b off n c:Nat) (w:World) (L r:Int) (d1:decide (L<r)=false)
  (HLv:Hid (∀W,Calls Tryz.prog 90 #[.agg #[.int .i64 17,.string tb,.string nm,.int .i64 ix,.int .i64 vk,.int .i64 vi,.string vt,.slice (some ⟨b,off,none⟩) n c]] W fun r w'=>r= .returned (.int .i64 L)∧Ext W w')) (x:Ex) (X:ByteArray) (A1:Option Addr) (n1 c1:Nat) (hn:n=1) (hX:X.size≤100000)
  (e1:bK w b (off+0*8) x A1 n1 c1)
  (h1:∀W,Ext w W→Calls Tryz.prog 50 #[x.d.val A1 n1 c1,.int .i64 5] W fun r w'=>r= .returned (.string X)∧Ext W w'):
  Calls Tryz.prog 50 #[.agg #[.int .i64 17,.string tb,.string nm,.int .i64 ix,.int .i64 vk,.int .i64 vi,.string vt,.slice (some ⟨b,off,none⟩) n c],.int .i64 r] w fun r w'=>r= .returned (.string (X++⟨#[32,73,83,32,78,85,76,76]⟩))∧Ext w w':=by
 subst hn
 have HB:=hid (Blk.of_new w 37 [.int .i64 17,.string tb,.string nm,.int .i64 ix,.int .i64 vk,.int .i64 vi,.string vt,.slice (some ⟨b,off,none⟩) 1 c])
 have HX:=hid ((Ext.refl w).alloc (.cells #[.int .i64 17,.string tb,.string nm,.int .i64 ix,.int .i64 vk,.int .i64 vi,.string vt,.slice (some ⟨b,off,none⟩) 1 c] 37))
 have H1:=hid h1
 unfold Nd.val at H1
 simp only[Nat.zero_mul,Nat.add_zero]at e1
 have HE:=hid e1
 clear h1 e1
 go_enter Tryz.func50,Tryz.ntmps50
 go_wp2_with (first|(go_at_call 90;refine(HLv.out _).mono ?_;rintro _ w2 ⟨rfl,hx2⟩;have hb2:=HB.out.ext hx2;obtain⟨c0,c1,c2,c3,c4,c5,c6,c7,-⟩:=cls hb2;clear hb2;have q0:=(HX.out.trans hx2).keep HE.out.c0;have q1:=(HX.out.trans hx2).keep HE.out.c1;have q2:=(HX.out.trans hx2).keep HE.out.c2;have q3:=(HX.out.trans hx2).keep HE.out.c3;have q4:=(HX.out.trans hx2).keep HE.out.c4;have q5:=(HX.out.trans hx2).keep HE.out.c5;have q6:=(HX.out.trans hx2).keep HE.out.c6;have q7:=(HX.out.trans hx2).keep HE.out.c7)|(go_at_call 50;refine(H1.out _ (HX.out.trans hx2)).mono ?_;rintro _ w3 ⟨rfl,hx3⟩))
 go_ret
 exact⟨rfl,(HX.out.trans hx2).trans hx3⟩
theorem pr_not (tb nm:ByteArray) (ix vk vi:Int) (vt:ByteArray) (b off n c:Nat) (w:World) (L r:Int) (d1:decide (L<r)=false)
  (HLv:Hid (∀W,Calls Tryz.prog 90 #[.agg #[.int .i64 20,.string tb,.string nm,.int .i64 ix,.int .i64 vk,.int .i64 vi,.string vt,.slice (some ⟨b,off,none⟩) n c]] W fun r w'=>r= .returned (.int .i64 L)∧Ext W w')) (x:Ex) (X:ByteArray) (A1:Option Addr) (n1 c1:Nat) (hn:n=1) (hX:X.size≤100000)
  (e1:bK w b (off+0*8) x A1 n1 c1)
  (h1:∀W,Ext w W→Calls Tryz.prog 50 #[x.d.val A1 n1 c1,.int .i64 3] W fun r w'=>r= .returned (.string X)∧Ext W w'):
  Calls Tryz.prog 50 #[.agg #[.int .i64 20,.string tb,.string nm,.int .i64 ix,.int .i64 vk,.int .i64 vi,.string vt,.slice (some ⟨b,off,none⟩) n c],.int .i64 r] w fun r w'=>r= .returned (.string (⟨#[78,79,84,32]⟩++X))∧Ext w w':=by
 subst hn
 have HB:=hid (Blk.of_new w 37 [.int .i64 20,.string tb,.string nm,.int .i64 ix,.int .i64 vk,.int .i64 vi,.string vt,.slice (some ⟨b,off,none⟩) 1 c])
 have HX:=hid ((Ext.refl w).alloc (.cells #[.int .i64 20,.string tb,.string nm,.int .i64 ix,.int .i64 vk,.int .i64 vi,.string vt,.slice (some ⟨b,off,none⟩) 1 c] 37))
 have H1:=hid h1
 unfold Nd.val at H1
 simp only[Nat.zero_mul,Nat.add_zero]at e1
 have HE:=hid e1
 clear h1 e1
 go_enter Tryz.func50,Tryz.ntmps50
 go_wp2_with (first|(go_at_call 90;refine(HLv.out _).mono ?_;rintro _ w2 ⟨rfl,hx2⟩;have hb2:=HB.out.ext hx2;obtain⟨c0,c1,c2,c3,c4,c5,c6,c7,-⟩:=cls hb2;clear hb2;have q0:=(HX.out.trans hx2).keep HE.out.c0;have q1:=(HX.out.trans hx2).keep HE.out.c1;have q2:=(HX.out.trans hx2).keep HE.out.c2;have q3:=(HX.out.trans hx2).keep HE.out.c3;have q4:=(HX.out.trans hx2).keep HE.out.c4;have q5:=(HX.out.trans hx2).keep HE.out.c5;have q6:=(HX.out.trans hx2).keep HE.out.c6;have q7:=(HX.out.trans hx2).keep HE.out.c7)|(go_at_call 50;refine(H1.out _ (HX.out.trans hx2)).mono ?_;rintro _ w3 ⟨rfl,hx3⟩))
 go_ret
 exact⟨rfl,(HX.out.trans hx2).trans hx3⟩
theorem pr_bin4 (op:Int) (tb nm:ByteArray) (ix vk vi:Int) (vt:ByteArray) (b off n c:Nat) (w:World) (L r:Int) (d1:decide (L<r)=false) (hl1:1≤L) (hl2:L≤8) (b4:(L==4)=true)
  (HLv:Hid (∀W,Calls Tryz.prog 90 #[.agg #[.int .i64 op,.string tb,.string nm,.int .i64 ix,.int .i64 vk,.int .i64 vi,.string vt,.slice (some ⟨b,off,none⟩) n c]] W fun r w'=>r= .returned (.int .i64 L)∧Ext W w')) (x y:Ex) (X Y:ByteArray) (A1 A2:Option Addr) (n1 n2 c1 c2:Nat)
  (hop:4≤op∧op≤8∨10≤op∧op≤16∨op=18∨op=19) (hn:n=2) (hX:X.size≤100000) (hY:Y.size≤100000)
  (e1:bK w b (off+0*8) x A1 n1 c1) (e2:bK w b (off+1*8) y A2 n2 c2)
  (h1:∀W,Ext w W→Calls Tryz.prog 50 #[x.d.val A1 n1 c1,.int .i64 5] W fun r w'=>r= .returned (.string X)∧Ext W w')
  (h2:∀W,Ext w W→Calls Tryz.prog 50 #[y.d.val A2 n2 c2,.int .i64 (L+1)] W fun r w'=>r= .returned (.string Y)∧Ext W w'):
  Calls Tryz.prog 50 #[.agg #[.int .i64 op,.string tb,.string nm,.int .i64 ix,.int .i64 vk,.int .i64 vi,.string vt,.slice (some ⟨b,off,none⟩) n c],.int .i64 r] w fun r w'=>r= .returned (.string (X++⟨#[32]⟩++sgn op++⟨#[32]⟩++Y))∧Ext w w':=by
 subst hn
 have b1:(op==1)=false:=by rw[beq_eq_false_iff_ne];omega
 have b2:(op==2)=false:=by rw[beq_eq_false_iff_ne];omega
 have b3:(op==3)=false:=by rw[beq_eq_false_iff_ne];omega
 have b9:(op==9)=false:=by rw[beq_eq_false_iff_ne];omega
 have b17:(op==17)=false:=by rw[beq_eq_false_iff_ne];omega
 have b20:(op==20)=false:=by rw[beq_eq_false_iff_ne];omega
 have hs1:=dR op
 have HSg:=hid (fun W=>kp op W hop)
 have HE:=hid e1
 have HE2:=hid e2
 have H1:=hid h1
 have H2:=hid h2
 clear e1 e2 h1 h2 hop
 unfold Nd.val at H1 H2
 generalize sgn op=G at*
 have HB:=hid (Blk.of_new w 37 [.int .i64 op,.string tb,.string nm,.int .i64 ix,.int .i64 vk,.int .i64 vi,.string vt,.slice (some ⟨b,off,none⟩) 2 c])
 have HX:=hid ((Ext.refl w).alloc (.cells #[.int .i64 op,.string tb,.string nm,.int .i64 ix,.int .i64 vk,.int .i64 vi,.string vt,.slice (some ⟨b,off,none⟩) 2 c] 37))
 have lw:IntKind.i64.wrap (L+1)=L+1:=IntWalk.i64_in _ (by omega)
 have HLW:=hid lw
 clear lw
 go_enter Tryz.func50,Tryz.ntmps50
 go_wp2_with (go_at_call 90;refine(HLv.out _).mono ?_;rintro _ w2 ⟨rfl,hx2⟩;have hb2:=HB.out.ext hx2;obtain⟨c0,c1,c2,c3,c4,c5,c6,c7,-⟩:=cls hb2;clear hb2)
 have HX2:=hid (HX.out.trans hx2)
 have HB2:=hid (HB.out.ext hx2)
 clear c0 c1 c2 c3 c4 c5 c6 c7 hx2
 have hb:=HB2.out
 obtain⟨k0,k1,k2,k3,k4,k5,k6,k7,-⟩:=lks hb
 have lw:=HLW.out
 clear hb
 refine ab (by kernel_rfl) (by kernel_rfl) ?_
 repeat (go_big_quiet_step ((go_at_call 90;exact am (HLv.out _))))
 refine wpQuiet_nil ?_
 intro w3 hw3
 have hx3:=ai hw3
 clear hw3 k0 k1 k2 k3 k4 k5 k6 k7 lw
 have HX3:=hid (HX2.out.trans hx3)
 have HB3:=hid (HB2.out.ext hx3)
 clear hx3
 have hb2:=HB3.out
 obtain⟨c0,c1,c2,c3,c4,c5,c6,c7,-⟩:=cls hb2
 clear hb2
 go_wp2_with (go_at_call 90;refine(HLv.out _).mono ?_;rintro _ w4 ⟨rfl,hx4⟩)
 have HX4:=hid (HX3.out.trans hx4)
 have hb:=HB3.out.ext hx4
 clear c0 c1 c2 c3 c4 c5 c6 c7 hx4
 obtain⟨k0,k1,k2,k3,k4,k5,k6,k7,-⟩:=lks hb
 have q0:=af.keep (HX4.out.keep HE.out.c0)
 have q1:=af.keep (HX4.out.keep HE.out.c1)
 have q2:=af.keep (HX4.out.keep HE.out.c2)
 have q3:=af.keep (HX4.out.keep HE.out.c3)
 have q4:=af.keep (HX4.out.keep HE.out.c4)
 have q5:=af.keep (HX4.out.keep HE.out.c5)
 have q6:=af.keep (HX4.out.keep HE.out.c6)
 have q7:=af.keep (HX4.out.keep HE.out.c7)
 have s0:=af.keep (HX4.out.keep HE2.out.c0)
 have s1:=af.keep (HX4.out.keep HE2.out.c1)
 have s2:=af.keep (HX4.out.keep HE2.out.c2)
 have s3:=af.keep (HX4.out.keep HE2.out.c3)
 have s4:=af.keep (HX4.out.keep HE2.out.c4)
 have s5:=af.keep (HX4.out.keep HE2.out.c5)
 have s6:=af.keep (HX4.out.keep HE2.out.c6)
 have s7:=af.keep (HX4.out.keep HE2.out.c7)
 simp only[Nat.zero_mul,Nat.add_zero]at q0 q1 q2 q3 q4 q5 q6 q7
 have HC1:Hid (∀z:af w4,Calls Tryz.prog 50 _ z.now _):=fun z=>H1.out z.now (HX4.out.trans z.ext)
 have HC2:Hid (∀z:af w4,Calls Tryz.prog 50 _ z.now _):=fun z=>H2.out z.now (HX4.out.trans z.ext)
 clear hb
 refine ab (by kernel_rfl) (by kernel_rfl) ?_
 repeat (go_big_quiet_step ((first|(go_at_call 50;with_reducible exact am (HC1.out _))|(go_at_call 50;with_reducible exact am (HC2.out _))|(go_at_call 93;exact am (HSg.out _)))))
 refine wpQuiet_nil ?_
 intro w5 hw5
 have hx5:=ai hw5
 clear hw5 k0 k1 k2 k3 k4 k5 k6 k7 q0 q1 q2 q3 q4 q5 q6 q7 s0 s1 s2 s3 s4 s5 s6 s7
 go_wp2_with fail
 go_ret
 exact⟨rfl,HX4.out.trans hx5⟩
theorem pr_bin (op:Int) (tb nm:ByteArray) (ix vk vi:Int) (vt:ByteArray) (b off n c:Nat) (w:World) (L r:Int) (d1:decide (L<r)=false) (hl1:1≤L) (hl2:L≤8) (b4:(L==4)=false)
  (HLv:Hid (∀W,Calls Tryz.prog 90 #[.agg #[.int .i64 op,.string tb,.string nm,.int .i64 ix,.int .i64 vk,.int .i64 vi,.string vt,.slice (some ⟨b,off,none⟩) n c]] W fun r w'=>r= .returned (.int .i64 L)∧Ext W w')) (x y:Ex) (X Y:ByteArray) (A1 A2:Option Addr) (n1 n2 c1 c2:Nat)
  (hop:4≤op∧op≤8∨10≤op∧op≤16∨op=18∨op=19) (hn:n=2) (hX:X.size≤100000) (hY:Y.size≤100000)
  (e1:bK w b (off+0*8) x A1 n1 c1) (e2:bK w b (off+1*8) y A2 n2 c2)
  (h1:∀W,Ext w W→Calls Tryz.prog 50 #[x.d.val A1 n1 c1,.int .i64 L] W fun r w'=>r= .returned (.string X)∧Ext W w')
  (h2:∀W,Ext w W→Calls Tryz.prog 50 #[y.d.val A2 n2 c2,.int .i64 (L+1)] W fun r w'=>r= .returned (.string Y)∧Ext W w'):
  Calls Tryz.prog 50 #[.agg #[.int .i64 op,.string tb,.string nm,.int .i64 ix,.int .i64 vk,.int .i64 vi,.string vt,.slice (some ⟨b,off,none⟩) n c],.int .i64 r] w fun r w'=>r= .returned (.string (X++⟨#[32]⟩++sgn op++⟨#[32]⟩++Y))∧Ext w w':=by
 subst hn
 have b1:(op==1)=false:=by rw[beq_eq_false_iff_ne];omega
 have b2:(op==2)=false:=by rw[beq_eq_false_iff_ne];omega
 have b3:(op==3)=false:=by rw[beq_eq_false_iff_ne];omega
 have b9:(op==9)=false:=by rw[beq_eq_false_iff_ne];omega
 have b17:(op==17)=false:=by rw[beq_eq_false_iff_ne];omega
 have b20:(op==20)=false:=by rw[beq_eq_false_iff_ne];omega
 have hs1:=dR op
 have HSg:=hid (fun W=>kp op W hop)
 have HE:=hid e1
 have HE2:=hid e2
 have H1:=hid h1
 have H2:=hid h2
 clear e1 e2 h1 h2 hop
 unfold Nd.val at H1 H2
 generalize sgn op=G at*
 have HB:=hid (Blk.of_new w 37 [.int .i64 op,.string tb,.string nm,.int .i64 ix,.int .i64 vk,.int .i64 vi,.string vt,.slice (some ⟨b,off,none⟩) 2 c])
 have HX:=hid ((Ext.refl w).alloc (.cells #[.int .i64 op,.string tb,.string nm,.int .i64 ix,.int .i64 vk,.int .i64 vi,.string vt,.slice (some ⟨b,off,none⟩) 2 c] 37))
 have lw:IntKind.i64.wrap (L+1)=L+1:=IntWalk.i64_in _ (by omega)
 have HLW:=hid lw
 clear lw
 go_enter Tryz.func50,Tryz.ntmps50
 go_wp2_with (go_at_call 90;refine(HLv.out _).mono ?_;rintro _ w2 ⟨rfl,hx2⟩;have hb2:=HB.out.ext hx2;obtain⟨c0,c1,c2,c3,c4,c5,c6,c7,-⟩:=cls hb2;clear hb2)
 have HX2:=hid (HX.out.trans hx2)
 have HB2:=hid (HB.out.ext hx2)
 clear c0 c1 c2 c3 c4 c5 c6 c7 hx2
 have hb:=HB2.out
 obtain⟨k0,k1,k2,k3,k4,k5,k6,k7,-⟩:=lks hb
 have lw:=HLW.out
 clear hb
 refine ab (by kernel_rfl) (by kernel_rfl) ?_
 repeat (go_big_quiet_step ((go_at_call 90;exact am (HLv.out _))))
 refine wpQuiet_nil ?_
 intro w3 hw3
 have hx3:=ai hw3
 clear hw3 k0 k1 k2 k3 k4 k5 k6 k7 lw
 have HX3:=hid (HX2.out.trans hx3)
 have HB3:=hid (HB2.out.ext hx3)
 clear hx3
 have hb2:=HB3.out
 obtain⟨c0,c1,c2,c3,c4,c5,c6,c7,-⟩:=cls hb2
 clear hb2
 go_wp2_with (go_at_call 90;refine(HLv.out _).mono ?_;rintro _ w4 ⟨rfl,hx4⟩)
 have HX4:=hid (HX3.out.trans hx4)
 have hb:=HB3.out.ext hx4
 clear c0 c1 c2 c3 c4 c5 c6 c7 hx4
 obtain⟨k0,k1,k2,k3,k4,k5,k6,k7,-⟩:=lks hb
 have q0:=af.keep (HX4.out.keep HE.out.c0)
 have q1:=af.keep (HX4.out.keep HE.out.c1)
 have q2:=af.keep (HX4.out.keep HE.out.c2)
 have q3:=af.keep (HX4.out.keep HE.out.c3)
 have q4:=af.keep (HX4.out.keep HE.out.c4)
 have q5:=af.keep (HX4.out.keep HE.out.c5)
 have q6:=af.keep (HX4.out.keep HE.out.c6)
 have q7:=af.keep (HX4.out.keep HE.out.c7)
 have s0:=af.keep (HX4.out.keep HE2.out.c0)
 have s1:=af.keep (HX4.out.keep HE2.out.c1)
 have s2:=af.keep (HX4.out.keep HE2.out.c2)
 have s3:=af.keep (HX4.out.keep HE2.out.c3)
 have s4:=af.keep (HX4.out.keep HE2.out.c4)
 have s5:=af.keep (HX4.out.keep HE2.out.c5)
 have s6:=af.keep (HX4.out.keep HE2.out.c6)
 have s7:=af.keep (HX4.out.keep HE2.out.c7)
 simp only[Nat.zero_mul,Nat.add_zero]at q0 q1 q2 q3 q4 q5 q6 q7
 have HC1:Hid (∀z:af w4,Calls Tryz.prog 50 _ z.now _):=fun z=>H1.out z.now (HX4.out.trans z.ext)
 have HC2:Hid (∀z:af w4,Calls Tryz.prog 50 _ z.now _):=fun z=>H2.out z.now (HX4.out.trans z.ext)
 clear hb
 refine ab (by kernel_rfl) (by kernel_rfl) ?_
 repeat (go_big_quiet_step ((first|(go_at_call 50;with_reducible exact am (HC1.out _))|(go_at_call 50;with_reducible exact am (HC2.out _))|(go_at_call 93;exact am (HSg.out _)))))
 refine wpQuiet_nil ?_
 intro w5 hw5
 have hx5:=ai hw5
 clear hw5 k0 k1 k2 k3 k4 k5 k6 k7 q0 q1 q2 q3 q4 q5 q6 q7 s0 s1 s2 s3 s4 s5 s6 s7
 go_wp2_with fail
 go_ret
 exact⟨rfl,HX4.out.trans hx5⟩
theorem pr_brk (d:Nd) (A:Option Addr) (n c:Nat) (w:World) (L r:Int) (P:ByteArray) (d1:decide (L<r)=true) (hP:P.size≤100000)
  (HLv:Hid (∀W,Calls Tryz.prog 90 #[d.val A n c] W fun r w'=>r= .returned (.int .i64 L)∧Ext W w'))
  (H1:Hid (∀W,Ext w W→Calls Tryz.prog 50 #[d.val A n c,.int .i64 1] W fun r w'=>r= .returned (.string P)∧Ext W w')):
  Calls Tryz.prog 50 #[d.val A n c,.int .i64 r] w fun r w'=>r= .returned (.string (⟨#[40]⟩++P++⟨#[41]⟩))∧Ext w w':=by
 have HB:=hid (Blk.of_new w 37 (d.cells A n c))
 have HX:=hid ((Ext.refl w).alloc (.cells (d.cells A n c).toArray 37))
 unfold Nd.val at*
 unfold Nd.cells at*
 obtain⟨op,tb,nm,ix,vk,vi,vt⟩:=d
 simp only at*
 go_enter Tryz.func50,Tryz.ntmps50
 go_wp2_with (first|(go_at_call 90;refine(HLv.out _).mono ?_;rintro _ w2 ⟨rfl,hx2⟩;have hb2:=HB.out.ext hx2;obtain⟨c0,c1,c2,c3,c4,c5,c6,c7,-⟩:=cls hb2;clear hb2)|(go_at_call 50;refine(H1.out _ (HX.out.trans hx2)).mono ?_;rintro _ w3 ⟨rfl,hx3⟩))
 go_ret
 exact⟨rfl,(HX.out.trans hx2).trans hx3⟩
theorem lvl_bd (op:Int):1≤lvl op∧lvl op≤8:=by unfold lvl;repeat' split<;>try omega
theorem opN_op {op:Int} {k:Nat} (h:opN op=(k:Int)):1≤op∧op≤20:=by
 rcases bi op with ⟨h0,h5⟩|⟨h0,h5⟩|⟨h0,h5⟩|h0<;>omega
theorem nq:∀(e:Ex) (r:Int) (A:Option Addr) (n c:Nat) (w:World),ExV w e A n c→e.formed=true→e.size≤1000→
  Calls Tryz.prog 50 #[e.d.val A n c,.int .i64 r] w fun x w'=>x= .returned (.string (e.tx r))∧Ext w w':=by
 intro e
 induction e using Ex.ind with
 |h d ks ih=>
  intro r A n c w hv hf hs
  have hps:=iC _ hf
  have key:∀(r:Int) (w:World),ExV w (.mk d ks) A n c→¬lvl d.op<r→Calls Tryz.prog 50 #[(Ex.mk d ks).d.val A n c,.int .i64 r] w fun x w'=>x= .returned (.string (Ex.mk d ks).pl)∧Ext w w':=by
   intro r w hv hr
   obtain⟨h1,h2,h3,h4⟩:=hv
   have h1:ks.length=n:=h1
   have h4:KidsAt w A ks:=h4
   have h3:d.fit:=h3
   obtain⟨f1,f2,f3⟩:=aA hf
   have hop:=opN_op f1
   have d1:decide (lvl d.op<r)=false:=by simpa using hr
   have hx:∀x∈ks,∀(r:Int) (A':Option Addr) (n' c':Nat) (W:World),Ext w W→ExV W x A' n' c'→Calls Tryz.prog 50 #[x.d.val A' n' c',.int .i64 r] W fun y w'=>y= .returned (.string (x.tx r))∧Ext W w':=
    fun x hx r A' n' c' W _ hxv=>ih x hx r A' n' c' W hxv (f2 x hx) (Nat.le_trans (bV (d:=d) hx) hs)
   have htx:∀x∈ks,∀r,(x.tx r).size≤100000:=by
    intro x hx r
    have hsz:x.size≤1000:=Nat.le_trans (bV (d:=d) hx) hs
    have:=bR x r (f2 x hx)
    omega
   have HLv:∀A,Hid (∀W,Calls Tryz.prog 90 #[.agg #[.int .i64 d.op,.string d.tb,.string d.nm,.int .i64 d.ix,.int .i64 d.vk,.int .i64 d.vi,.string d.vt,.slice A n c]] W fun r w'=>r= .returned (.int .i64 (lvl d.op))∧Ext W w'):=
    fun A W=>ju (.mk d ks) A n c W hop
   rw[pl_mk]
   have hval:∀A,(Ex.mk d ks).d.val A n c= .agg #[.int .i64 d.op,.string d.tb,.string d.nm,.int .i64 d.ix,.int .i64 d.vk,.int .i64 d.vi,.string d.vt,.slice A n c]:=fun _=>rfl
   rw[hval]
   unfold plD
   rcases bi d.op with ⟨h0,h5⟩|⟨h0,h5⟩|⟨h0,h5⟩|h0
   ·have HL:=HLv A
    rcases h5 with h5|h5
    ·unfold ndB at f3
     rw[if_neg (by omega),if_pos h5]at f3
     simp only[Bool.and_eq_true]at f3
     obtain⟨l1,l2,l3⟩:=cZ f3.2
     generalize lvl d.op=L at*
     rw[h5]at HL
     rw[if_pos h5,h5]
     rcases l3 with l3|l3|l3
     ·rw[l3]at HL
      rw[if_neg (by omega),if_neg (by omega),l3]
      exact pr_null _ _ _ d.vk _ _ _ _ _ _ L r d1 HL
     ·rw[if_pos l3]
      rw[l3]at HL ⊢
      exact pr_num _ _ _ d.vk _ _ _ _ _ _ L r d1 HL h3.vi (by have:=l2 l3;omega)
     ·rw[if_neg (by omega),if_pos l3]
      rw[l3]at HL ⊢
      exact pr_text _ _ _ d.vk _ _ _ _ _ _ L r d1 HL (by omega)
    ·unfold ndB at f3
     rw[if_pos h5]at f3
     simp only[Bool.and_eq_true,Bool.or_eq_true,beq_iff_eq]at f3
     have l1:=aS f3.1.1
     generalize lvl d.op=L at*
     rw[h5]at HL
     rw[if_neg (by omega),if_pos h5,h5]
     by_cases ht:d.tb.size=0
     ·rw[bp ht]at HL
      rw[if_pos ht,bp ht]
      exact pr_col d.tb _ _ _ _ _ _ _ _ _ L r d1 HL
     ·rw[if_neg ht]
      have l2:d.tb.size≤24:=by
       rcases f3.1.2 with h|h
       ·exact absurd h ht
       ·exact aS h
      exact pr_qual _ _ _ _ _ _ _ _ _ _ L r d1 HL (bP ht) (bC ht) (by omega) (by omega)
   ·obtain⟨a,rfl⟩:∃a,ks= [a]:=by
     have:ks.length=1:=by omega
     exact List.length_eq_one_iff.1 this
    obtain⟨b,off,A',n',c',rfl,hE⟩:=h4.get (i:=0) (e:=a) rfl
    have HL:=HLv (some ⟨b,off,none⟩)
    have ha:a∈[a]:=by simp
    have hn1:n=1:=by rw[←h1];rfl
    simp only[List.map_cons,List.map_nil,List.getD_cons_zero]
    generalize lvl d.op=L at*
    rcases h5 with h5|h5|h5|h5
    ·rw[h5]at HL
     rw[if_neg (by omega),if_neg (by omega),if_pos h5,h5]
     exact pr_neg _ _ _ _ _ _ b off n c w L r d1 HL a _ A' n' c' hn1 (htx a ha 8) hE fun W hW=>hx a ha 8 A' n' c' W hW (hE.val.ext hW)
    ·rw[h5]at HL
     rw[if_neg (by omega),if_neg (by omega),if_neg (by omega),if_pos h5,h5]
     exact pr_len _ _ _ _ _ _ b off n c w L r d1 HL a _ A' n' c' hn1 (htx a ha 1) hE fun W hW=>hx a ha 1 A' n' c' W hW (hE.val.ext hW)
    ·rw[h5]at HL
     rw[if_neg (by omega),if_neg (by omega),if_neg (by omega),if_neg (by omega),if_pos h5,h5]
     exact pr_isnull _ _ _ _ _ _ b off n c w L r d1 HL a _ A' n' c' hn1 (htx a ha 5) hE fun W hW=>hx a ha 5 A' n' c' W hW (hE.val.ext hW)
    ·rw[h5]at HL
     rw[if_neg (by omega),if_neg (by omega),if_neg (by omega),if_neg (by omega),if_neg (by omega),if_pos h5,h5]
     exact pr_not _ _ _ _ _ _ b off n c w L r d1 HL a _ A' n' c' hn1 (htx a ha 3) hE fun W hW=>hx a ha 3 A' n' c' W hW (hE.val.ext hW)
   ·obtain⟨x,y,rfl⟩:∃x y,ks= [x,y]:=by
     have:ks.length=2:=by omega
     match ks,this with
     | [x,y],_=>exact⟨x,y,rfl⟩
    obtain⟨b,off,A1,n1,c1,rfl,hE⟩:=h4.get (i:=0) (e:=x) rfl
    obtain⟨b2,off2,A2,n2,c2,hA2,hE2⟩:=h4.get (i:=1) (e:=y) rfl
    simp only[Option.some.injEq,Addr.mk.injEq,and_true]at hA2
    obtain⟨rfl,rfl⟩:=hA2
    have HL:=HLv (some ⟨b,off,none⟩)
    have ha:x∈[x,y]:=by simp
    have hb:y∈[x,y]:=by simp
    have hn2:n=2:=by rw[←h1];rfl
    have hlb:=lvl_bd d.op
    simp only[List.map_cons,List.map_nil,List.getD_cons_zero,List.getD_cons_succ]
    rw[if_neg (by omega),if_neg (by omega),if_neg (by omega),if_neg (by omega),if_neg (by omega),if_neg (by omega)]
    by_cases h4':lvl d.op=4
    ·rw[if_pos h4']
     exact pr_bin4 d.op _ _ _ _ _ _ b off n c w (lvl d.op) r d1 hlb.1 hlb.2 (by rw[h4'];rfl) HL x y _ _ A1 A2 n1 n2 c1 c2 h5 hn2 (htx x ha 5) (htx y hb (lvl d.op+1)) hE hE2
      (fun W hW=>hx x ha 5 A1 n1 c1 W hW (hE.val.ext hW)) (fun W hW=>hx y hb (lvl d.op+1) A2 n2 c2 W hW (hE2.val.ext hW))
    ·rw[if_neg h4']
     exact pr_bin d.op _ _ _ _ _ _ b off n c w (lvl d.op) r d1 hlb.1 hlb.2 (by simpa using h4') HL x y _ _ A1 A2 n1 n2 c1 c2 h5 hn2 (htx x ha (lvl d.op)) (htx y hb (lvl d.op+1)) hE hE2
      (fun W hW=>hx x ha (lvl d.op) A1 n1 c1 W hW (hE.val.ext hW)) (fun W hW=>hx y hb (lvl d.op+1) A2 n2 c2 W hW (hE2.val.ext hW))
   ·omega
  have htx:(Ex.mk d ks).tx r=if lvl d.op<r then ⟨#[40]⟩++(Ex.mk d ks).pl++⟨#[41]⟩else (Ex.mk d ks).pl:=rfl
  rw[htx]
  by_cases hr:lvl d.op<r
  ·rw[if_pos hr]
   have hop:=opN_op (aA hf).1
   exact pr_brk d A n c w (lvl d.op) r _ (by simpa using hr) (by omega) (fun W=>ju (.mk d ks) A n c W hop) fun W hW=>key 1 W (hv.ext hW) (by have:=lvl_bd d.op;omega)
  ·rw[if_neg hr]
   exact key r w hv hr
def textE (e:Ex):ByteArray:=if validE e=0 then e.tx 1 else ⟨#[]⟩
theorem ef (e:Ex):validE e=0∧e.formed=true∧e.size≤400∨validE e=1∨validE e=3:=by
 unfold validE
 rw[eU]
 by_cases h:(decide (400<e.nodes)||decide (50<e.depth))=true
 ·rw[if_pos h];exact .inr (.inr rfl)
 ·rw[if_neg h]
  by_cases hf:e.formed=true
  ·rw[if_pos hf]
   refine .inl ⟨rfl,hf,?_⟩
   have:=ch e hf
   simp only[Bool.or_eq_true,decide_eq_true_eq,not_or]at h
   omega
  ·rw[if_neg hf];exact .inr (.inl rfl)
theorem ret_2 {a a':ByteArray} {b b':Int} (h:a=a') (h2:b=b'):Ending.returned (.tuple #[.string a,.int .i64 b])= .returned (.tuple #[.string a',.int .i64 b']):=by rw[h,h2]
theorem fH (e:Ex) (A:Option Addr) (n c:Nat) (w:World) (hv:ExV w e A n c):
  Calls Tryz.prog 26 #[e.d.val A n c] w fun r w'=>r= .returned (.tuple #[.string (textE e),.int .i64 (validE e)])∧Ext w w':=by
 have HV:=hid (fun W (hW:Ext w W)=>nh e A n c W (hv.ext hW))
 have HP:Hid (validE e=0→∀W,Ext w W→Calls Tryz.prog 50 #[e.d.val A n c,.int .i64 1] W fun r w'=>r= .returned (.string (textE e))∧Ext W w'):=by
  intro h0 W hW
  rcases ef e with ⟨_,h1,h2⟩|h1|h1
  ·unfold textE
   rw[if_pos h0]
   exact nq e 1 A n c W (hv.ext hW) h1 (by omega)
  ·omega
  ·omega
 have HT:Hid (validE e≠0→textE e=⟨#[]⟩):=fun h=>by unfold textE;rw[if_neg h]
 have HB:=hid (Blk.of_new w 37 (e.d.cells A n c))
 have HX:=hid ((Ext.refl w).alloc (.cells (e.d.cells A n c).toArray 37))
 clear hv
 generalize textE e=T at*
 generalize validE e=V at*
 unfold Nd.val at*
 unfold Nd.cells at*
 generalize e.d=d at*
 obtain⟨op,tb,nm,ix,vk,vi,vt⟩:=d
 simp only at*
 by_cases h0:V=0
 ·have HP2:=hid (HP.out h0)
  clear HP HT
  subst h0
  go_enter Tryz.func26,Tryz.ntmps26
  go_wp2_with (first|(go_at_call 42;refine(HV.out _ HX.out).mono ?_;rintro _ w2 ⟨rfl,hx2⟩;have hb2:=HB.out.ext hx2;obtain⟨c0,c1,c2,c3,c4,c5,c6,c7,-⟩:=cls hb2;clear hb2)|(go_at_call 50;refine(HP2.out _ (HX.out.trans hx2)).mono ?_;rintro _ w3 ⟨rfl,hx3⟩))
  go_ret2
  exact⟨rfl,(HX.out.trans hx2).trans hx3⟩
 ·have b:(V !=0)=true:=by simpa using h0
  have HT2:=hid (HT.out h0)
  clear HP HT h0
  go_enter Tryz.func26,Tryz.ntmps26
  go_wp2_with (go_at_call 42;refine(HV.out _ HX.out).mono ?_;rintro _ w2 ⟨rfl,hx2⟩)
  go_ret2
  exact⟨ret_2 HT2.out.symm rfl,HX.out.trans hx2⟩
section
open Go.ChangeShapes Go.WideShapes Go.Deep Go.RowKit
theorem cellsE:Tryz.prog.cellsOf 37=8:=by kernel_rfl
theorem cellsV:Tryz.prog.cellsOf 35=3:=by kernel_rfl
theorem cellsI:Tryz.prog.cellsOf 3=1:=by kernel_rfl
theorem cellsI6:Tryz.prog.cellsOf 2=1:=by kernel_rfl
theorem cellsS:Tryz.prog.cellsOf 9=1:=by kernel_rfl
theorem cellsL:Tryz.prog.cellsOf 27=1:=by kernel_rfl
theorem cell_spot {w:World} {a:Addr} {v:Value} (k0:w.cell? a=some v):a.spot=none:=by
 unfold World.cell? at k0
 split at k0
 ·split at k0
  ·cases k0
  ·rename_i h;simpa using h
 ·cases k0
theorem list8 {α:Type} {l:List α} (h:l.length=8):∃c0 c1 c2 c3 c4 c5 c6 c7,l= [c0,c1,c2,c3,c4,c5,c6,c7]:=by
 match l,h with
 | [c0,c1,c2,c3,c4,c5,c6,c7],_=>exact⟨c0,c1,c2,c3,c4,c5,c6,c7,rfl⟩
theorem cG {α:Type} {l:List α} {i n:Nat} (h:l.length=n) (hi:i<n):∃x,l[i]? =some x:=⟨l[i]'(by omega),List.getElem?_eq_getElem (by omega)⟩
section
variable {H:Type} {enc:TypeId×Value→H} {w:World} {spare:Nat→Bool} {held:Bool} {base:Nat}
theorem open_nd {fuel:Nat} {cs:List Value} {x:DataW H×List MemPlace} (h:DataW.trod enc Tryz.prog w base spare held fuel 37 cs=some x):
  ∃(d:Nd) (c7:Value) (n:Nat) (y:DataW H×List MemPlace),fuel=n+1∧d.fit∧cs= [.int .i64 d.op,.string d.tb,.string d.nm,.int .i64 d.ix,.int .i64 d.vk,.int .i64 d.vi,.string d.vt,c7]∧DataW.trod enc Tryz.prog w base spare held n 27 [c7]=some y:=by
 obtain⟨xs,n,rfl,_,hl,hxl,hf⟩:=DataW.trod_struct Tryz.underlying37 h
 obtain⟨c0,c1,c2,c3,c4,c5,c6,c7,rfl⟩:=list8 (hl.trans cellsE)
 have hxl:xs.length=6:=hxl
 obtain⟨x0,hx0⟩:=cG hxl (i:=0) (by omega)
 obtain⟨x1,hx1⟩:=cG hxl (i:=1) (by omega)
 obtain⟨x2,hx2⟩:=cG hxl (i:=2) (by omega)
 obtain⟨x3,hx3⟩:=cG hxl (i:=3) (by omega)
 obtain⟨x4,hx4⟩:=cG hxl (i:=4) (by omega)
 obtain⟨x5,hx5⟩:=cG hxl (i:=5) (by omega)
 have h0:DataW.trod enc Tryz.prog w base spare held n 3 (List.take (Tryz.prog.cellsOf 3) (List.drop 0 [c0,c1,c2,c3,c4,c5,c6,c7]))=some x0:=(hf 0 _ rfl).trans hx0
 have h1:DataW.trod enc Tryz.prog w base spare held n 9 (List.take (Tryz.prog.cellsOf 9) (List.drop 1 [c0,c1,c2,c3,c4,c5,c6,c7]))=some x1:=(hf 1 _ rfl).trans hx1
 have h2:DataW.trod enc Tryz.prog w base spare held n 9 (List.take (Tryz.prog.cellsOf 9) (List.drop 2 [c0,c1,c2,c3,c4,c5,c6,c7]))=some x2:=(hf 2 _ rfl).trans hx2
 have h3:DataW.trod enc Tryz.prog w base spare held n 3 (List.take (Tryz.prog.cellsOf 3) (List.drop 3 [c0,c1,c2,c3,c4,c5,c6,c7]))=some x3:=(hf 3 _ rfl).trans hx3
 have h4:DataW.trod enc Tryz.prog w base spare held n 35 (List.take (Tryz.prog.cellsOf 35) (List.drop 4 [c0,c1,c2,c3,c4,c5,c6,c7]))=some x4:=(hf 4 _ rfl).trans hx4
 have h5:DataW.trod enc Tryz.prog w base spare held n 27 (List.take (Tryz.prog.cellsOf 27) (List.drop 7 [c0,c1,c2,c3,c4,c5,c6,c7]))=some x5:=(hf 5 _ rfl).trans hx5
 simp only[cellsI,cellsS,cellsV,cellsL,List.drop_zero,List.drop_succ_cons,List.take_succ_cons,List.take_zero]at h0 h1 h2 h3 h4 h5
 obtain⟨a0,e0,_,w0⟩:=DataW.trod_int Tryz.underlying3 h0
 obtain⟨a1,e1,_,w1⟩:=DataW.trod_string Tryz.underlying9 h1
 obtain⟨a2,e2,_,w2⟩:=DataW.trod_string Tryz.underlying9 h2
 obtain⟨a3,e3,_,w3⟩:=DataW.trod_int Tryz.underlying3 h3
 obtain⟨ys,m,rfl,_,_,hyl,hg⟩:=DataW.trod_struct Tryz.underlying35 h4
 have hyl:ys.length=3:=hyl
 obtain⟨y0,hy0⟩:=cG hyl (i:=0) (by omega)
 obtain⟨y1,hy1⟩:=cG hyl (i:=1) (by omega)
 obtain⟨y2,hy2⟩:=cG hyl (i:=2) (by omega)
 have g0:DataW.trod enc Tryz.prog w base spare held m 3 (List.take (Tryz.prog.cellsOf 3) (List.drop 0 [c4,c5,c6]))=some y0:=(hg 0 _ rfl).trans hy0
 have g1:DataW.trod enc Tryz.prog w base spare held m 2 (List.take (Tryz.prog.cellsOf 2) (List.drop 1 [c4,c5,c6]))=some y1:=(hg 1 _ rfl).trans hy1
 have g2:DataW.trod enc Tryz.prog w base spare held m 9 (List.take (Tryz.prog.cellsOf 9) (List.drop 2 [c4,c5,c6]))=some y2:=(hg 2 _ rfl).trans hy2
 simp only[cellsI,cellsI6,cellsS,List.drop_zero,List.drop_succ_cons,List.take_succ_cons,List.take_zero]at g0 g1 g2
 obtain⟨b0,i0,_,v0⟩:=DataW.trod_int Tryz.underlying3 g0
 obtain⟨b1,i1,_,v1⟩:=DataW.trod_int Tryz.underlying2 g1
 obtain⟨b2,i2,_,v2⟩:=DataW.trod_string Tryz.underlying9 g2
 simp only[List.cons.injEq,and_true]at e0 e1 e2 e3 i0 i1 i2
 subst e0 e1 e2 e3 i0 i1 i2
 refine⟨⟨a0,a1,a2,a3,b0,b1,b2⟩,c7,m+1,x5,rfl,⟨bounds_i64 w0,bounds_i64 w3,bounds_i64 v0,bounds_i64 v1,?_,?_,?_⟩,rfl,h5⟩
 ·exact Nat.le_trans w1 (by unfold maxLen;omega)
 ·exact Nat.le_trans w2 (by unfold maxLen;omega)
 ·exact Nat.le_trans v2 (by unfold maxLen;omega)
theorem open_ex:∀(fuel:Nat) (cs:List Value) (x:DataW H×List MemPlace),DataW.trod enc Tryz.prog w base spare held fuel 37 cs=some x→∃e:Ex,ExC w e cs:=by
 intro fuel
 induction fuel using Nat.strongRecOn with
 |ind fuel ih=>
  intro cs x h
  obtain⟨d,c7,n,y,rfl,hd,rfl,h5⟩:=open_nd h
  rcases DataW.trod_slice Tryz.underlying27 h5 with ⟨h7,_⟩|⟨a,len,cap,elems,rest,m,rfl,h7,_,_,hl,hm,hlen,hel,_,_⟩
  ·simp only[List.cons.injEq,and_true]at h7
   subst h7
   exact⟨.mk d [],by rw[ExC];exact⟨hd,Nat.zero_le _,none,0,rfl,trivial⟩⟩
  ·simp only[List.cons.injEq,and_true]at h7
   subst h7
   have hk:∀i,∃e:Ex,i<len→∃cs',(∀j,j<8→w.cell? ((a.add (i*8)).add j)=cs'[j]?)∧cs'.length=8∧ExC w e cs':=by
    intro i
    by_cases hi:i<len
    ·have he:=hel i hi
     obtain⟨z,hz⟩:=cG hlen hi
     rw[hz,cellsE,Option.bind_eq_some_iff]at he
     obtain⟨cs',hc,ht⟩:=he
     obtain⟨_,hcl,hat⟩:=World.cells?_some hc
     obtain⟨e,hE⟩:=ih m (by omega) cs' z ht
     exact⟨e,fun _=>⟨cs',hat,hcl,hE⟩⟩
    ·exact⟨exZ,fun h=>absurd h hi⟩
   obtain⟨f,hfs⟩:=Classical.axiomOfChoice hk
   refine⟨.mk d ((List.range len).map f),?_⟩
   rw[ExC]
   refine⟨hd,by simp;unfold maxLen at hm;omega,some a,cap,by simp[Nd.cells],?_⟩
   rw[bZ]
   intro j e he
   rw[List.getElem?_map]at he
   have hlt:j<len:=by
    by_cases h:j<len
    ·exact h
    ·rw[List.getElem?_eq_none (by simp;omega)]at he;cases he
   rw[List.getElem?_range hlt]at he
   simp only[Option.map_some,Option.some.injEq]at he
   subst he
   obtain⟨cs',hat,hcl,hE⟩:=hfs j hlt
   have hsp:a.spot=none:=by
    obtain⟨cs0,hat0,hcl0,_⟩:=hfs 0 (by omega)
    have k0:=hat0 0 (by omega)
    have e0:(a.add (0*8)).add 0=a:=by simp[Addr.add]
    rw[e0,List.getElem?_eq_getElem (by omega)]at k0
    exact cell_spot k0
   obtain⟨b,off,sp⟩:=a
   dsimp only at hsp
   subst hsp
   have hadd:∀(o j:Nat),(⟨b,o,none⟩:Addr).add j=⟨b,o+j,none⟩:=fun o j=>by unfold Addr.add;split<;>simp_all
   refine⟨cs',⟨b,off,rfl,fun i v hv=>?_⟩,hE⟩
   have hi:i<8:=by have:=(List.getElem?_eq_some_iff.1 hv).1;omega
   have:=hat i hi
   rw[hadd,hadd,hv]at this
   rw[show off+(0+j)*8+i=off+j*8+i by omega]
   exact this
end
theorem open_arg {H:Type} {enc:TypeId×Value→H} {w:World} {base b0:Nat} {r:Reach} {spare:Nat→Bool} {held:Bool} {v:Value} {d:DataW H} {p:List MemPlace} (hv:Value.okWide Tryz.prog w r b0 37 v)
  (h:DataW.Trod enc Tryz.prog w base spare held 37 v d p):∃(e:Ex) (A:Option Addr) (n c:Nat),v=e.d.val A n c∧ExV w e A n c:=by
 obtain⟨cs,rfl,hsz⟩:=okWide_struct Tryz.underlying37 hv
 obtain⟨fuel,hf⟩:=h
 obtain⟨e,hE⟩:=open_ex fuel _ _ hf
 cases e with
 |mk d ks=>
  rw[ExC]at hE
  obtain⟨h1,h2,A,c,h3,h4⟩:=hE
  refine⟨.mk d ks,A,ks.length,c,?_,⟨rfl,h2,h1,h4⟩⟩
  obtain⟨l⟩:=cs
  have h3:l=d.cells A ks.length c:=h3
  subst h3
  rfl
end
mutual
def Ex.wt:Ex→Int
 | .mk d ks=>wtL (wrap64 (wrap64 (wrap64 (1+(d.tb.size:Int))+d.nm.size)+d.vt.size)) ks
def wtL:Int→List Ex→Int
 |r,[]=>r
 |r,e::es=>if r<1000 then wtL (wrap64 (r+e.wt)) es else r
end
theorem wtL_full {r:Int} (h:¬r<1000) (l:List Ex):wtL r l=r:=by
 cases l with
 |nil=>rfl
 |cons e l=>rw[wtL,if_neg h]
theorem wtL_step {r:Int} {l:List Ex} {k:Nat} {e:Ex} (h:r<1000) (he:l[k]? =some e):wtL r (l.drop k)=wtL (wrap64 (r+e.wt)) (l.drop (k+1)):=by
 obtain⟨hi,rfl⟩:=List.getElem?_eq_some_iff.1 he
 rw[List.drop_eq_getElem_cons hi,wtL,if_pos h]
theorem wtL_end {r:Int} {l:List Ex} {k:Nat} (h:l.length≤k):wtL r (l.drop k)=r:=by
 rw[List.drop_eq_nil_of_le h,wtL]
theorem nr:∀(e:Ex) (A:Option Addr) (n c:Nat) (w:World),ExV w e A n c→
  Calls Tryz.prog 47 #[e.d.val A n c] w fun r w'=>r= .returned (.int .i64 e.wt)∧Ext w w':=by
 intro e
 induction e using Ex.ind with
 |h d ks ih=>
  intro A n c w hv
  obtain⟨h1,h2,h3,h4⟩:=hv
  have HL:Hid (ks.length=n):=h1
  have HK:Hid (KidsAt w A ks):=h4
  have HI:=hid ih
  have HW:Hid ((Ex.mk d ks).wt=wtL (wrap64 (wrap64 (wrap64 (1+(d.tb.size:Int))+d.nm.size)+d.vt.size)) ks):=by unfold Hid;rw[Ex.wt]
  clear h1 h4 ih h3
  generalize (Ex.mk d ks).wt=V at*
  unfold Nd.val
  simp only[Ex.d]
  obtain⟨op,tb,nm,ix,vk,vi,vt⟩:=d
  simp only at*
  have HB:=hid (Blk.of_new w 37 [.int .i64 op,.string tb,.string nm,.int .i64 ix,.int .i64 vk,.int .i64 vi,.string vt,.slice A n c])
  have HX:=hid ((Ext.refl w).alloc (.cells #[.int .i64 op,.string tb,.string nm,.int .i64 ix,.int .i64 vk,.int .i64 vi,.string vt,.slice A n c] 37))
  go_enter Tryz.func47,Tryz.ntmps47
  go_wp2_with fail
  generalize wrap64 (wrap64 (wrap64 (1+(tb.size:Int))+nm.size)+vt.size)=r0 at*
  generalize w.alloc (.cells #[.int .i64 op,.string tb,.string nm,.int .i64 ix,.int .i64 vk,.int .i64 vi,.string vt,.slice A n c] 37)=w1 at*
  generalize w.heap.size=g at*
  go_loopw [3,4] (fun nv iv wr=> ∃(r:Int) (k:Nat),V=wtL r (ks.drop k)∧k≤n∧nv= .int .i64 r∧iv= .int .i64 k∧Ext w1 wr) (fun _ i _=>n- (intOf i).toNat)
  case atStart=>exact⟨r0,0,HW.out,Nat.zero_le _,rfl,rfl,Ext.refl w1⟩
  case round=>
   obtain⟨r,k,hr,hk,rfl,rfl,hxr⟩:=hrel
   have HXr:=hid hxr
   have HRr:=hid hr
   have c7:=(HB.out.ext hxr).cell 7
   simp only[List.getElem?_cons_succ,List.getElem?_cons_zero]at c7
   clear hr
   by_cases hlt:k<n
   ·obtain⟨e',he⟩:=bu HL.out hlt
    obtain⟨b,off,A',n',c',rfl,q0,q1,q2,q3,q4,q5,q6,q7,hv'⟩:=((HK.out.ext HX.out).ext hxr).get he
    have HV:=hid hv'
    have HM:=hid (bl he)
    have HE:=hid he
    clear he hv' hxr
    by_cases hr1:r<1000
    ·have d1:decide (r<1000)=true:=by simpa using hr1
     have HR1:=hid hr1
     clear hr1
     go_wp2_with (go_at_call 47;refine(HI.out e' HM.out A' n' c' _ HV.out).mono ?_;rintro _ w2 ⟨rfl,hx2⟩)
     go_roundw
     case rel=>exact⟨_,k+1,HRr.out.trans (wtL_step HR1.out HE.out),by omega,rfl,by go_num,HXr.out.trans hx2⟩
     case measure=>simp[intOf];omega
    ·have d1:decide (r<1000)=false:=by simpa using hr1
     have HR1:=hid hr1
     clear hr1
     go_wp2_with fail
     go_ret
     exact⟨aH (HRr.out.trans (wtL_full (by have:=HR1.out;omega) _)).symm,HX.out.trans HXr.out⟩
   ·go_wp2_with fail
    go_ret
    exact⟨aH (HRr.out.trans (wtL_end (by have:=HL.out;omega))).symm,HX.out.trans HXr.out⟩
def Ex.small (e:Ex):Bool:=decide (e.wt≤600)
theorem ns (e:Ex) (A:Option Addr) (n c:Nat) (w:World) (hv:ExV w e A n c):
  Calls Tryz.prog 25 #[e.d.val A n c] w fun r w'=>r= .returned (.bool e.small)∧Ext w w':=by
 have HW:=hid (fun W (hW:Ext w W)=>nr e A n c W (hv.ext hW))
 have HS:Hid (e.small=decide (e.wt≤600)):=rfl
 generalize e.small=b at*
 generalize e.wt=V at*
 clear hv
 unfold Nd.val at*
 generalize e.d=d at*
 obtain⟨op,tb,nm,ix,vk,vi,vt⟩:=d
 simp only at*
 have HX:=hid ((Ext.refl w).alloc (.cells #[.int .i64 op,.string tb,.string nm,.int .i64 ix,.int .i64 vk,.int .i64 vi,.string vt,.slice A n c] 37))
 go_enter Tryz.func25,Tryz.ntmps25
 go_wp2_with (go_at_call 47;refine(HW.out _ HX.out).mono ?_;rintro _ w2 ⟨rfl,hx2⟩)
 go_ret
 exact⟨aa HS.out.symm,HX.out.trans hx2⟩
end Go.Proofs.YtjigcpfjhfoheaaGreatDoor
