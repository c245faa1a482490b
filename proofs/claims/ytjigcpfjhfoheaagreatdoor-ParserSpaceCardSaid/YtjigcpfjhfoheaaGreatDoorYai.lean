/- Walks: Print, the reference's canonical text; Print returns the canonical text; FormatExpr and TextExpr. -/
import Derived.Test.YtjigcpfjhfoheaaGreatDoorYah
namespace Go.Proofs.YtjigcpfjhfoheaaGreatDoor
open Go.RowKit
set_option maxHeartbeats 4000000
set_option maxRecDepth 100000
set_option linter.unusedVariables false
set_option linter.unusedSimpArgs false
theorem kF (op:Int) (w:World) (a:4≤op∧op≤8∨10≤op∧op≤16∨op=18∨op=19):Calls Tryz.prog 93 #[.int .i64 op] w fun r w'=>r= .returned (.string (sgn op))∧Ext w w':=by
 have h:=hid (jD op a)
 have e:=hid (Blk.of_new w 9 dq.toList)
 have f:=hid ((Ext.refl w).alloc (.cells dq 9))
 have b:(.cells dq.toList.toArray 9:Obj)= .cells dq 9:=rfl
 rw[b]at e
 have i:(0:Int)≤op:=by omega
 have o1:op<20:=by omega
 have g:=(e.cell op.toNat).trans h
 clear b a
 generalize sgn op=G at*
 go_enter Tryz.func93,Tryz.ntmps93
 unfold dq at g f
 go_wp2_with fail
 go_ret
 exact⟨rfl,f⟩
theorem pr_num (tb nm:ByteArray) (ix vk vi:Int) (vt:ByteArray) (A:Option Addr) (n c:Nat) (w:World) (L r:Int) (k:decide (L<r)=false)
  (e:Hid (∀W,Calls Tryz.prog 90 #[.agg #[.int .i64 1,.string tb,.string nm,.int .i64 ix,.int .i64 1,.int .i64 vi,.string vt,.slice A n c]] W fun r w'=>r= .returned (.int .i64 L)∧Ext W w')) (hi:I64 vi) (h: -9223372036854775808<vi):
  Calls Tryz.prog 50 #[.agg #[.int .i64 1,.string tb,.string nm,.int .i64 ix,.int .i64 1,.int .i64 vi,.string vt,.slice A n c],.int .i64 r] w fun r w'=>r= .returned (.string (itoB vi))∧Ext w w':=by
 have g:=hid (Blk.of_new w 37 (eC 1 tb nm ix 1 vi vt A n c))
 have i:=hid ((Ext.refl w).alloc (.cells #[.int .i64 1,.string tb,.string nm,.int .i64 ix,.int .i64 1,.int .i64 vi,.string vt,.slice A n c] 37))
 go_enter Tryz.func50,Tryz.ntmps50
 go_wp2_with (first|(go_at_call 90;refine(e _).mono ?_;rintro _ l ⟨rfl,a⟩;have b:=g.ext a;obtain⟨c0,c1,c2,c3,c4,c5,c6,c7,-⟩:=cls b;clear b)|(go_at_call 91;refine(rnum_any _ _ h hi.2).mono ?_;rintro _ j ⟨rfl,f⟩))
 go_ret
 exact⟨rfl,(i.trans a).trans f⟩
theorem pr_text (tb nm:ByteArray) (ix vk vi:Int) (vt:ByteArray) (A:Option Addr) (n c:Nat) (w:World) (L r:Int) (j:decide (L<r)=false)
  (e:Hid (∀W,Calls Tryz.prog 90 #[.agg #[.int .i64 1,.string tb,.string nm,.int .i64 ix,.int .i64 2,.int .i64 vi,.string vt,.slice A n c]] W fun r w'=>r= .returned (.int .i64 L)∧Ext W w')) (hs:vt.size≤1000):
  Calls Tryz.prog 50 #[.agg #[.int .i64 1,.string tb,.string nm,.int .i64 ix,.int .i64 2,.int .i64 vi,.string vt,.slice A n c],.int .i64 r] w fun r w'=>r= .returned (.string (⟨#[39]⟩++quoB vt++⟨#[39]⟩))∧Ext w w':=by
 have g:=hid (Blk.of_new w 37 (eC 1 tb nm ix 2 vi vt A n c))
 have h:=hid ((Ext.refl w).alloc (.cells #[.int .i64 1,.string tb,.string nm,.int .i64 ix,.int .i64 2,.int .i64 vi,.string vt,.slice A n c] 37))
 go_enter Tryz.func50,Tryz.ntmps50
 go_wp2_with (first|(go_at_call 90;refine(e _).mono ?_;rintro _ k ⟨rfl,a⟩;have b:=g.ext a;obtain⟨c0,c1,c2,c3,c4,c5,c6,c7,-⟩:=cls b;clear b)|(go_at_call 92;refine(nM _ _ hs).mono ?_;rintro _ i ⟨rfl,f⟩))
 go_ret
 exact⟨rfl,(h.trans a).trans f⟩
theorem pr_null (tb nm:ByteArray) (ix vk vi:Int) (vt:ByteArray) (A:Option Addr) (n c:Nat) (w:World) (L r:Int) (h:decide (L<r)=false)
  (e:Hid (∀W,Calls Tryz.prog 90 #[.agg #[.int .i64 1,.string tb,.string nm,.int .i64 ix,.int .i64 0,.int .i64 vi,.string vt,.slice A n c]] W fun r w'=>r= .returned (.int .i64 L)∧Ext W w')):
  Calls Tryz.prog 50 #[.agg #[.int .i64 1,.string tb,.string nm,.int .i64 ix,.int .i64 0,.int .i64 vi,.string vt,.slice A n c],.int .i64 r] w fun r w'=>r= .returned (.string ⟨#[78,85,76,76]⟩)∧Ext w w':=by
 have f:=hid (Blk.of_new w 37 (eC 1 tb nm ix 0 vi vt A n c))
 have g:=hid ((Ext.refl w).alloc (.cells #[.int .i64 1,.string tb,.string nm,.int .i64 ix,.int .i64 0,.int .i64 vi,.string vt,.slice A n c] 37))
 go_enter Tryz.func50,Tryz.ntmps50
 go_wp2_with (first|(go_at_call 90;refine(e _).mono ?_;rintro _ i ⟨rfl,a⟩;have b:=f.ext a;obtain⟨c0,c1,c2,c3,c4,c5,c6,c7,-⟩:=cls b;clear b))
 go_ret
 exact⟨rfl,g.trans a⟩
theorem pr_col (tb nm:ByteArray) (ix vk vi:Int) (vt:ByteArray) (A:Option Addr) (n c:Nat) (w:World) (L r:Int) (h:decide (L<r)=false)
  (e:Hid (∀W,Calls Tryz.prog 90 #[.agg #[.int .i64 2,.string ⟨#[]⟩,.string nm,.int .i64 ix,.int .i64 vk,.int .i64 vi,.string vt,.slice A n c]] W fun r w'=>r= .returned (.int .i64 L)∧Ext W w')):
  Calls Tryz.prog 50 #[.agg #[.int .i64 2,.string ⟨#[]⟩,.string nm,.int .i64 ix,.int .i64 vk,.int .i64 vi,.string vt,.slice A n c],.int .i64 r] w fun r w'=>r= .returned (.string nm)∧Ext w w':=by
 have f:=hid (Blk.of_new w 37 (eC 2 ⟨#[]⟩ nm ix vk vi vt A n c))
 have g:=hid ((Ext.refl w).alloc (.cells #[.int .i64 2,.string ⟨#[]⟩,.string nm,.int .i64 ix,.int .i64 vk,.int .i64 vi,.string vt,.slice A n c] 37))
 go_enter Tryz.func50,Tryz.ntmps50
 go_wp2_with (first|(go_at_call 90;refine(e _).mono ?_;rintro _ i ⟨rfl,a⟩;have b:=f.ext a;obtain⟨c0,c1,c2,c3,c4,c5,c6,c7,-⟩:=cls b;clear b))
 go_ret
 exact⟨rfl,g.trans a⟩
theorem pr_qual (tb nm:ByteArray) (ix vk vi:Int) (vt:ByteArray) (A:Option Addr) (n c:Nat) (w:World) (L r:Int) (i:decide (L<r)=false)
  (e:Hid (∀W,Calls Tryz.prog 90 #[.agg #[.int .i64 2,.string tb,.string nm,.int .i64 ix,.int .i64 vk,.int .i64 vi,.string vt,.slice A n c]] W fun r w'=>r= .returned (.int .i64 L)∧Ext W w')) (k:¬tb.toList= []) (j:tb.toList.isEmpty=false) (hs:tb.size≤1000) (g:nm.size≤1000):
  Calls Tryz.prog 50 #[.agg #[.int .i64 2,.string tb,.string nm,.int .i64 ix,.int .i64 vk,.int .i64 vi,.string vt,.slice A n c],.int .i64 r] w fun r w'=>r= .returned (.string (tb++⟨#[46]⟩++nm))∧Ext w w':=by
 have f:=hid (Blk.of_new w 37 (eC 2 tb nm ix vk vi vt A n c))
 have h:=hid ((Ext.refl w).alloc (.cells #[.int .i64 2,.string tb,.string nm,.int .i64 ix,.int .i64 vk,.int .i64 vi,.string vt,.slice A n c] 37))
 go_enter Tryz.func50,Tryz.ntmps50
 go_wp2_with (first|(go_at_call 90;refine(e _).mono ?_;rintro _ l ⟨rfl,a⟩;have b:=f.ext a;obtain⟨c0,c1,c2,c3,c4,c5,c6,c7,-⟩:=cls b;clear b))
 go_ret
 exact⟨rfl,h.trans a⟩
theorem pr_neg (tb nm:ByteArray) (ix vk vi:Int) (vt:ByteArray) (b e n c:Nat) (w:World) (L r:Int) (F:decide (L<r)=false)
  (j:Hid (∀W,Calls Tryz.prog 90 #[.agg #[.int .i64 3,.string tb,.string nm,.int .i64 ix,.int .i64 vk,.int .i64 vi,.string vt,.slice (some ⟨b,e,none⟩) n c]] W fun r w'=>r= .returned (.int .i64 L)∧Ext W w')) (x:Ex) (X:ByteArray) (m:Option Addr) (n1 c1:Nat) (q:n=1) (s:X.size≤100000)
  (k:bP w b (e+0*8) x m n1 c1)
  (o:∀W,Ext w W→Calls Tryz.prog 50 #[x.d.val m n1 c1,.int .i64 8] W fun r w'=>r= .returned (.string X)∧Ext W w'):
  Calls Tryz.prog 50 #[.agg #[.int .i64 3,.string tb,.string nm,.int .i64 ix,.int .i64 vk,.int .i64 vi,.string vt,.slice (some ⟨b,e,none⟩) n c],.int .i64 r] w fun r w'=>r= .returned (.string (⟨#[45]⟩++X))∧Ext w w':=by
 subst q
 have p:=hid (Blk.of_new w 37 (eC 3 tb nm ix vk vi vt (some ⟨b,e,none⟩) 1 c))
 have f:=hid ((Ext.refl w).alloc (.cells #[.int .i64 3,.string tb,.string nm,.int .i64 ix,.int .i64 vk,.int .i64 vi,.string vt,.slice (some ⟨b,e,none⟩) 1 c] 37))
 have l:=hid o
 unfold Nd.val at l
 simp only[Nat.zero_mul,Nat.add_zero]at k
 have g:=hid k
 clear o k
 go_enter Tryz.func50,Tryz.ntmps50
 go_wp2_with (first|(go_at_call 90;refine(j _).mono ?_;rintro _ B ⟨rfl,a⟩;have h:=p.ext a;obtain⟨c0,c1,c2,c3,c4,c5,c6,c7,-⟩:=cls h;clear h;have E:=(f.trans a).keep g.c0;have C:=(f.trans a).keep g.c1;have y:=(f.trans a).keep g.c2;have u:=(f.trans a).keep g.c3;have t:=(f.trans a).keep g.c4;have G:=(f.trans a).keep g.c5;have z:=(f.trans a).keep g.c6;have A:=(f.trans a).keep g.c7)|(go_at_call 50;refine(l _ (f.trans a)).mono ?_;rintro _ D ⟨rfl,i⟩))
 go_ret
 exact⟨rfl,(f.trans a).trans i⟩
theorem pr_len (tb nm:ByteArray) (ix vk vi:Int) (vt:ByteArray) (b e n c:Nat) (w:World) (L r:Int) (F:decide (L<r)=false)
  (j:Hid (∀W,Calls Tryz.prog 90 #[.agg #[.int .i64 9,.string tb,.string nm,.int .i64 ix,.int .i64 vk,.int .i64 vi,.string vt,.slice (some ⟨b,e,none⟩) n c]] W fun r w'=>r= .returned (.int .i64 L)∧Ext W w')) (x:Ex) (X:ByteArray) (m:Option Addr) (n1 c1:Nat) (q:n=1) (s:X.size≤100000)
  (k:bP w b (e+0*8) x m n1 c1)
  (o:∀W,Ext w W→Calls Tryz.prog 50 #[x.d.val m n1 c1,.int .i64 1] W fun r w'=>r= .returned (.string X)∧Ext W w'):
  Calls Tryz.prog 50 #[.agg #[.int .i64 9,.string tb,.string nm,.int .i64 ix,.int .i64 vk,.int .i64 vi,.string vt,.slice (some ⟨b,e,none⟩) n c],.int .i64 r] w fun r w'=>r= .returned (.string (⟨#[76,69,78,71,84,72,40]⟩++X++⟨#[41]⟩))∧Ext w w':=by
 subst q
 have p:=hid (Blk.of_new w 37 (eC 9 tb nm ix vk vi vt (some ⟨b,e,none⟩) 1 c))
 have f:=hid ((Ext.refl w).alloc (.cells #[.int .i64 9,.string tb,.string nm,.int .i64 ix,.int .i64 vk,.int .i64 vi,.string vt,.slice (some ⟨b,e,none⟩) 1 c] 37))
 have l:=hid o
 unfold Nd.val at l
 simp only[Nat.zero_mul,Nat.add_zero]at k
 have g:=hid k
 clear o k
 go_enter Tryz.func50,Tryz.ntmps50
 go_wp2_with (first|(go_at_call 90;refine(j _).mono ?_;rintro _ B ⟨rfl,a⟩;have h:=p.ext a;obtain⟨c0,c1,c2,c3,c4,c5,c6,c7,-⟩:=cls h;clear h;have E:=(f.trans a).keep g.c0;have C:=(f.trans a).keep g.c1;have y:=(f.trans a).keep g.c2;have u:=(f.trans a).keep g.c3;have t:=(f.trans a).keep g.c4;have G:=(f.trans a).keep g.c5;have z:=(f.trans a).keep g.c6;have A:=(f.trans a).keep g.c7)|(go_at_call 50;refine(l _ (f.trans a)).mono ?_;rintro _ D ⟨rfl,i⟩))
 go_ret
 exact⟨rfl,(f.trans a).trans i⟩
theorem pr_isnull (tb nm:ByteArray) (ix vk vi:Int) (vt:ByteArray) (b e n c:Nat) (w:World) (L r:Int) (F:decide (L<r)=false)
  (j:Hid (∀W,Calls Tryz.prog 90 #[.agg #[.int .i64 17,.string tb,.string nm,.int .i64 ix,.int .i64 vk,.int .i64 vi,.string vt,.slice (some ⟨b,e,none⟩) n c]] W fun r w'=>r= .returned (.int .i64 L)∧Ext W w')) (x:Ex) (X:ByteArray) (m:Option Addr) (n1 c1:Nat) (q:n=1) (s:X.size≤100000)
  (k:bP w b (e+0*8) x m n1 c1)
  (o:∀W,Ext w W→Calls Tryz.prog 50 #[x.d.val m n1 c1,.int .i64 5] W fun r w'=>r= .returned (.string X)∧Ext W w'):
  Calls Tryz.prog 50 #[.agg #[.int .i64 17,.string tb,.string nm,.int .i64 ix,.int .i64 vk,.int .i64 vi,.string vt,.slice (some ⟨b,e,none⟩) n c],.int .i64 r] w fun r w'=>r= .returned (.string (X++⟨#[32,73,83,32,78,85,76,76]⟩))∧Ext w w':=by
 subst q
 have p:=hid (Blk.of_new w 37 (eC 17 tb nm ix vk vi vt (some ⟨b,e,none⟩) 1 c))
 have f:=hid ((Ext.refl w).alloc (.cells #[.int .i64 17,.string tb,.string nm,.int .i64 ix,.int .i64 vk,.int .i64 vi,.string vt,.slice (some ⟨b,e,none⟩) 1 c] 37))
 have l:=hid o
 unfold Nd.val at l
 simp only[Nat.zero_mul,Nat.add_zero]at k
 have g:=hid k
 clear o k
 go_enter Tryz.func50,Tryz.ntmps50
 go_wp2_with (first|(go_at_call 90;refine(j _).mono ?_;rintro _ B ⟨rfl,a⟩;have h:=p.ext a;obtain⟨c0,c1,c2,c3,c4,c5,c6,c7,-⟩:=cls h;clear h;have E:=(f.trans a).keep g.c0;have C:=(f.trans a).keep g.c1;have y:=(f.trans a).keep g.c2;have u:=(f.trans a).keep g.c3;have t:=(f.trans a).keep g.c4;have G:=(f.trans a).keep g.c5;have z:=(f.trans a).keep g.c6;have A:=(f.trans a).keep g.c7)|(go_at_call 50;refine(l _ (f.trans a)).mono ?_;rintro _ D ⟨rfl,i⟩))
 go_ret
 exact⟨rfl,(f.trans a).trans i⟩
theorem pr_not (tb nm:ByteArray) (ix vk vi:Int) (vt:ByteArray) (b e n c:Nat) (w:World) (L r:Int) (F:decide (L<r)=false)
  (j:Hid (∀W,Calls Tryz.prog 90 #[.agg #[.int .i64 20,.string tb,.string nm,.int .i64 ix,.int .i64 vk,.int .i64 vi,.string vt,.slice (some ⟨b,e,none⟩) n c]] W fun r w'=>r= .returned (.int .i64 L)∧Ext W w')) (x:Ex) (X:ByteArray) (m:Option Addr) (n1 c1:Nat) (q:n=1) (s:X.size≤100000)
  (k:bP w b (e+0*8) x m n1 c1)
  (o:∀W,Ext w W→Calls Tryz.prog 50 #[x.d.val m n1 c1,.int .i64 3] W fun r w'=>r= .returned (.string X)∧Ext W w'):
  Calls Tryz.prog 50 #[.agg #[.int .i64 20,.string tb,.string nm,.int .i64 ix,.int .i64 vk,.int .i64 vi,.string vt,.slice (some ⟨b,e,none⟩) n c],.int .i64 r] w fun r w'=>r= .returned (.string (⟨#[78,79,84,32]⟩++X))∧Ext w w':=by
 subst q
 have p:=hid (Blk.of_new w 37 (eC 20 tb nm ix vk vi vt (some ⟨b,e,none⟩) 1 c))
 have f:=hid ((Ext.refl w).alloc (.cells #[.int .i64 20,.string tb,.string nm,.int .i64 ix,.int .i64 vk,.int .i64 vi,.string vt,.slice (some ⟨b,e,none⟩) 1 c] 37))
 have l:=hid o
 unfold Nd.val at l
 simp only[Nat.zero_mul,Nat.add_zero]at k
 have g:=hid k
 clear o k
 go_enter Tryz.func50,Tryz.ntmps50
 go_wp2_with (first|(go_at_call 90;refine(j _).mono ?_;rintro _ B ⟨rfl,a⟩;have h:=p.ext a;obtain⟨c0,c1,c2,c3,c4,c5,c6,c7,-⟩:=cls h;clear h;have E:=(f.trans a).keep g.c0;have C:=(f.trans a).keep g.c1;have y:=(f.trans a).keep g.c2;have u:=(f.trans a).keep g.c3;have t:=(f.trans a).keep g.c4;have G:=(f.trans a).keep g.c5;have z:=(f.trans a).keep g.c6;have A:=(f.trans a).keep g.c7)|(go_at_call 50;refine(l _ (f.trans a)).mono ?_;rintro _ D ⟨rfl,i⟩))
 go_ret
 exact⟨rfl,(f.trans a).trans i⟩
theorem pr_bin4 (op:Int) (tb nm:ByteArray) (ix vk vi:Int) (vt:ByteArray) (b f n c:Nat) (w:World) (L r:Int) (d1:decide (L<r)=false) (ag:1≤L) (ad:L≤8) (b4:(L==4)=true)
  (l:Hid (∀W,Calls Tryz.prog 90 #[.agg #[.int .i64 op,.string tb,.string nm,.int .i64 ix,.int .i64 vk,.int .i64 vi,.string vt,.slice (some ⟨b,f,none⟩) n c]] W fun r w'=>r= .returned (.int .i64 L)∧Ext W w')) (x y:Ex) (X Y:ByteArray) (A1 A2:Option Addr) (n1 n2 c1 c2:Nat)
  (s:4≤op∧op≤8∨10≤op∧op≤16∨op=18∨op=19) (hn:n=2) (hX:X.size≤100000) (hY:Y.size≤100000)
  (e1:bP w b (f+0*8) x A1 n1 c1) (e2:bP w b (f+1*8) y A2 n2 c2)
  (h1:∀W,Ext w W→Calls Tryz.prog 50 #[x.d.val A1 n1 c1,.int .i64 5] W fun r w'=>r= .returned (.string X)∧Ext W w')
  (h2:∀W,Ext w W→Calls Tryz.prog 50 #[y.d.val A2 n2 c2,.int .i64 (L+1)] W fun r w'=>r= .returned (.string Y)∧Ext W w'):
  Calls Tryz.prog 50 #[.agg #[.int .i64 op,.string tb,.string nm,.int .i64 ix,.int .i64 vk,.int .i64 vi,.string vt,.slice (some ⟨b,f,none⟩) n c],.int .i64 r] w fun r w'=>r= .returned (.string (X++⟨#[32]⟩++sgn op++⟨#[32]⟩++Y))∧Ext w w':=by
 subst hn
 have b1:(op==1)=false:=by rw[beq_eq_false_iff_ne];omega
 have b2:(op==2)=false:=by rw[beq_eq_false_iff_ne];omega
 have b3:(op==3)=false:=by rw[beq_eq_false_iff_ne];omega
 have b9:(op==9)=false:=by rw[beq_eq_false_iff_ne];omega
 have an:(op==17)=false:=by rw[beq_eq_false_iff_ne];omega
 have ax:(op==20)=false:=by rw[beq_eq_false_iff_ne];omega
 have ac:=ek op
 have E:=hid (fun W=>kF op W s)
 have i:=hid e1
 have e:=hid e2
 have H1:=hid h1
 have H2:=hid h2
 clear e1 e2 h1 h2 s
 unfold Nd.val at H1 H2
 generalize sgn op=G at*
 have HB:=hid (Blk.of_new w 37 (eC op tb nm ix vk vi vt (some ⟨b,f,none⟩) 2 c))
 have HX:=hid ((Ext.refl w).alloc (.cells #[.int .i64 op,.string tb,.string nm,.int .i64 ix,.int .i64 vk,.int .i64 vi,.string vt,.slice (some ⟨b,f,none⟩) 2 c] 37))
 have u:IntKind.i64.wrap (L+1)=L+1:=IntWalk.i64_in _ (by omega)
 have D:=hid u
 clear u
 go_enter Tryz.func50,Tryz.ntmps50
 go_wp2_with (go_at_call 90;refine(l _).mono ?_;rintro _ w2 ⟨rfl,h⟩;have g:=HB.ext h;obtain⟨c0,c1,c2,c3,c4,c5,c6,c7,-⟩:=cls g;clear g)
 have F:=hid (HX.trans h)
 have t:=hid (HB.ext h)
 clear c0 c1 c2 c3 c4 c5 c6 c7 h
 have p:=t.out
 obtain⟨B,U,R,K,A,P,O,J,-⟩:=lks p
 have u:=D.out
 clear p
 refine aa (by kernel_rfl) (by kernel_rfl) ?_
 repeat (go_big_quiet_step ((go_at_call 90;exact am (l _))))
 refine wpQuiet_nil ?_
 intro w3 m
 have k:=af m
 clear m B U R K A P O J u
 have H:=hid (F.trans k)
 have o:=hid (t.ext k)
 clear k
 have g:=o.out
 obtain⟨c0,c1,c2,c3,c4,c5,c6,c7,-⟩:=cls g
 clear g
 go_wp2_with (go_at_call 90;refine(l _).mono ?_;rintro _ w4 ⟨rfl,j⟩)
 have a:=hid (H.trans j)
 have p:=o.ext j
 clear c0 c1 c2 c3 c4 c5 c6 c7 j
 obtain⟨B,U,R,K,A,P,O,J,-⟩:=lks p
 have q0:=ae.keep (a.keep i.c0)
 have q1:=ae.keep (a.keep i.c1)
 have q2:=ae.keep (a.keep i.c2)
 have q3:=ae.keep (a.keep i.c3)
 have V:=ae.keep (a.keep i.c4)
 have q5:=ae.keep (a.keep i.c5)
 have Z:=ae.keep (a.keep i.c6)
 have q7:=ae.keep (a.keep i.c7)
 have s0:=ae.keep (a.keep e.c0)
 have s1:=ae.keep (a.keep e.c1)
 have s2:=ae.keep (a.keep e.c2)
 have s3:=ae.keep (a.keep e.c3)
 have s4:=ae.keep (a.keep e.c4)
 have s5:=ae.keep (a.keep e.c5)
 have s6:=ae.keep (a.keep e.c6)
 have s7:=ae.keep (a.keep e.c7)
 simp only[Nat.zero_mul,Nat.add_zero]at q0 q1 q2 q3 V q5 Z q7
 have I:Hid (∀z:ae w4,Calls Tryz.prog 50 _ z.now _):=fun z=>H1 z.now (a.trans z.ext)
 have C:Hid (∀z:ae w4,Calls Tryz.prog 50 _ z.now _):=fun z=>H2 z.now (a.trans z.ext)
 clear p
 refine aa (by kernel_rfl) (by kernel_rfl) ?_
 repeat (go_big_quiet_step ((first|(go_at_call 50;with_reducible exact am (I.out _))|(go_at_call 50;with_reducible exact am (C.out _))|(go_at_call 93;exact am (E.out _)))))
 refine wpQuiet_nil ?_
 intro w5 q
 have Q:=af q
 clear q B U R K A P O J q0 q1 q2 q3 V q5 Z q7 s0 s1 s2 s3 s4 s5 s6 s7
 go_wp2_with fail
 go_ret
 exact⟨rfl,a.trans Q⟩
theorem pr_bin (op:Int) (tb nm:ByteArray) (ix vk vi:Int) (vt:ByteArray) (b f n c:Nat) (w:World) (L r:Int) (d1:decide (L<r)=false) (ag:1≤L) (ad:L≤8) (b4:(L==4)=false)
  (l:Hid (∀W,Calls Tryz.prog 90 #[.agg #[.int .i64 op,.string tb,.string nm,.int .i64 ix,.int .i64 vk,.int .i64 vi,.string vt,.slice (some ⟨b,f,none⟩) n c]] W fun r w'=>r= .returned (.int .i64 L)∧Ext W w')) (x y:Ex) (X Y:ByteArray) (A1 A2:Option Addr) (n1 n2 c1 c2:Nat)
  (s:4≤op∧op≤8∨10≤op∧op≤16∨op=18∨op=19) (hn:n=2) (hX:X.size≤100000) (hY:Y.size≤100000)
  (e1:bP w b (f+0*8) x A1 n1 c1) (e2:bP w b (f+1*8) y A2 n2 c2)
  (h1:∀W,Ext w W→Calls Tryz.prog 50 #[x.d.val A1 n1 c1,.int .i64 L] W fun r w'=>r= .returned (.string X)∧Ext W w')
  (h2:∀W,Ext w W→Calls Tryz.prog 50 #[y.d.val A2 n2 c2,.int .i64 (L+1)] W fun r w'=>r= .returned (.string Y)∧Ext W w'):
  Calls Tryz.prog 50 #[.agg #[.int .i64 op,.string tb,.string nm,.int .i64 ix,.int .i64 vk,.int .i64 vi,.string vt,.slice (some ⟨b,f,none⟩) n c],.int .i64 r] w fun r w'=>r= .returned (.string (X++⟨#[32]⟩++sgn op++⟨#[32]⟩++Y))∧Ext w w':=by
 subst hn
 have b1:(op==1)=false:=by rw[beq_eq_false_iff_ne];omega
 have b2:(op==2)=false:=by rw[beq_eq_false_iff_ne];omega
 have b3:(op==3)=false:=by rw[beq_eq_false_iff_ne];omega
 have b9:(op==9)=false:=by rw[beq_eq_false_iff_ne];omega
 have an:(op==17)=false:=by rw[beq_eq_false_iff_ne];omega
 have ax:(op==20)=false:=by rw[beq_eq_false_iff_ne];omega
 have ac:=ek op
 have E:=hid (fun W=>kF op W s)
 have i:=hid e1
 have e:=hid e2
 have H1:=hid h1
 have H2:=hid h2
 clear e1 e2 h1 h2 s
 unfold Nd.val at H1 H2
 generalize sgn op=G at*
 have HB:=hid (Blk.of_new w 37 (eC op tb nm ix vk vi vt (some ⟨b,f,none⟩) 2 c))
 have HX:=hid ((Ext.refl w).alloc (.cells #[.int .i64 op,.string tb,.string nm,.int .i64 ix,.int .i64 vk,.int .i64 vi,.string vt,.slice (some ⟨b,f,none⟩) 2 c] 37))
 have u:IntKind.i64.wrap (L+1)=L+1:=IntWalk.i64_in _ (by omega)
 have D:=hid u
 clear u
 go_enter Tryz.func50,Tryz.ntmps50
 go_wp2_with (go_at_call 90;refine(l _).mono ?_;rintro _ w2 ⟨rfl,h⟩;have g:=HB.ext h;obtain⟨c0,c1,c2,c3,c4,c5,c6,c7,-⟩:=cls g;clear g)
 have F:=hid (HX.trans h)
 have t:=hid (HB.ext h)
 clear c0 c1 c2 c3 c4 c5 c6 c7 h
 have p:=t.out
 obtain⟨B,U,R,K,A,P,O,J,-⟩:=lks p
 have u:=D.out
 clear p
 refine aa (by kernel_rfl) (by kernel_rfl) ?_
 repeat (go_big_quiet_step ((go_at_call 90;exact am (l _))))
 refine wpQuiet_nil ?_
 intro w3 m
 have k:=af m
 clear m B U R K A P O J u
 have H:=hid (F.trans k)
 have o:=hid (t.ext k)
 clear k
 have g:=o.out
 obtain⟨c0,c1,c2,c3,c4,c5,c6,c7,-⟩:=cls g
 clear g
 go_wp2_with (go_at_call 90;refine(l _).mono ?_;rintro _ w4 ⟨rfl,j⟩)
 have a:=hid (H.trans j)
 have p:=o.ext j
 clear c0 c1 c2 c3 c4 c5 c6 c7 j
 obtain⟨B,U,R,K,A,P,O,J,-⟩:=lks p
 have q0:=ae.keep (a.keep i.c0)
 have q1:=ae.keep (a.keep i.c1)
 have q2:=ae.keep (a.keep i.c2)
 have q3:=ae.keep (a.keep i.c3)
 have V:=ae.keep (a.keep i.c4)
 have q5:=ae.keep (a.keep i.c5)
 have Z:=ae.keep (a.keep i.c6)
 have q7:=ae.keep (a.keep i.c7)
 have s0:=ae.keep (a.keep e.c0)
 have s1:=ae.keep (a.keep e.c1)
 have s2:=ae.keep (a.keep e.c2)
 have s3:=ae.keep (a.keep e.c3)
 have s4:=ae.keep (a.keep e.c4)
 have s5:=ae.keep (a.keep e.c5)
 have s6:=ae.keep (a.keep e.c6)
 have s7:=ae.keep (a.keep e.c7)
 simp only[Nat.zero_mul,Nat.add_zero]at q0 q1 q2 q3 V q5 Z q7
 have I:Hid (∀z:ae w4,Calls Tryz.prog 50 _ z.now _):=fun z=>H1 z.now (a.trans z.ext)
 have C:Hid (∀z:ae w4,Calls Tryz.prog 50 _ z.now _):=fun z=>H2 z.now (a.trans z.ext)
 clear p
 refine aa (by kernel_rfl) (by kernel_rfl) ?_
 repeat (go_big_quiet_step ((first|(go_at_call 50;with_reducible exact am (I.out _))|(go_at_call 50;with_reducible exact am (C.out _))|(go_at_call 93;exact am (E.out _)))))
 refine wpQuiet_nil ?_
 intro w5 q
 have Q:=af q
 clear q B U R K A P O J q0 q1 q2 q3 V q5 Z q7 s0 s1 s2 s3 s4 s5 s6 s7
 go_wp2_with fail
 go_ret
 exact⟨rfl,a.trans Q⟩
theorem pr_brk (d:Nd) (A:Option Addr) (n c:Nat) (w:World) (L r:Int) (P:ByteArray) (l:decide (L<r)=true) (j:P.size≤100000)
  (e:Hid (∀W,Calls Tryz.prog 90 #[d.val A n c] W fun r w'=>r= .returned (.int .i64 L)∧Ext W w'))
  (h:Hid (∀W,Ext w W→Calls Tryz.prog 50 #[d.val A n c,.int .i64 1] W fun r w'=>r= .returned (.string P)∧Ext W w')):
  Calls Tryz.prog 50 #[d.val A n c,.int .i64 r] w fun r w'=>r= .returned (.string (⟨#[40]⟩++P++⟨#[41]⟩))∧Ext w w':=by
 have i:=hid (Blk.of_new w 37 (d.cells A n c))
 have g:=hid ((Ext.refl w).alloc (.cells (d.cells A n c).toArray 37))
 unfold Nd.val at*
 unfold Nd.cells at*
 obtain⟨op,tb,nm,ix,vk,vi,vt⟩:=d
 simp only at*
 go_enter Tryz.func50,Tryz.ntmps50
 go_wp2_with (first|(go_at_call 90;refine(e _).mono ?_;rintro _ m ⟨rfl,a⟩;have b:=i.ext a;obtain⟨c0,c1,c2,c3,c4,c5,c6,c7,-⟩:=cls b;clear b)|(go_at_call 50;refine(h _ (g.trans a)).mono ?_;rintro _ k ⟨rfl,f⟩))
 go_ret
 exact⟨rfl,(g.trans a).trans f⟩
theorem lvl_bd (op:Int):1≤lvl op∧lvl op≤8:=by unfold lvl;repeat' split<;>try omega
theorem opN_op {op:Int} {k:Nat} (h:opN op=(k:Int)):1≤op∧op≤20:=by
 rcases eO op with ⟨h0,h5⟩|⟨h0,h5⟩|⟨h0,h5⟩|h0<;>omega
theorem nN:∀(e:Ex) (r:Int) (A:Option Addr) (n c:Nat) (w:World),ExV w e A n c→e.formed=true→e.size≤1000→
  Calls Tryz.prog 50 #[e.d.val A n c,.int .i64 r] w fun x w'=>x= .returned (.string (e.tx r))∧Ext w w':=by
 intro e
 induction e using Ex.ind with
 |h d ks ih=>
  intro r A n c w Z hf hs
  have an:=iF _ hf
  have J:∀(r:Int) (w:World),ExV w (.mk d ks) A n c→¬lvl d.op<r→Calls Tryz.prog 50 #[(Ex.mk d ks).d.val A n c,.int .i64 r] w fun x w'=>x= .returned (.string (Ex.mk d ks).pl)∧Ext w w':=by
   intro r w Z I
   obtain⟨X,h2,h3,K⟩:=Z
   have X:ks.length=n:=X
   have K:KidsAt w A ks:=K
   have h3:d.fit:=h3
   obtain⟨f1,f2,C⟩:=bZ hf
   have F:=opN_op f1
   have t:decide (lvl d.op<r)=false:=by simpa using I
   have l:∀x∈ks,∀(r:Int) (s:Option Addr) (m o:Nat) (W:World),Ext w W→ExV W x s m o→Calls Tryz.prog 50 #[x.d.val s m o,.int .i64 r] W fun y w'=>y= .returned (.string (x.tx r))∧Ext W w':=
    fun x l r s m o W _ ac=>ih x l r s m o W ac (f2 x l) (Nat.le_trans (co (d:=d) l) hs)
   have j:∀x∈ks,∀r,(x.tx r).size≤100000:=by
    intro x l r
    have ag:x.size≤1000:=Nat.le_trans (co (d:=d) l) hs
    have:=cg x r (f2 x l)
    omega
   have H:∀A,Hid (∀W,Calls Tryz.prog 90 #[.agg #[.int .i64 d.op,.string d.tb,.string d.nm,.int .i64 d.ix,.int .i64 d.vk,.int .i64 d.vi,.string d.vt,.slice A n c]] W fun r w'=>r= .returned (.int .i64 (lvl d.op))∧Ext W w'):=
    fun A W=>jy (.mk d ks) A n c W F
   rw[pl_mk]
   have Q:∀A,(Ex.mk d ks).d.val A n c= .agg #[.int .i64 d.op,.string d.tb,.string d.nm,.int .i64 d.ix,.int .i64 d.vk,.int .i64 d.vi,.string d.vt,.slice A n c]:=fun _=>rfl
   rw[Q]
   unfold plD
   rcases eO d.op with ⟨h0,h5⟩|⟨h0,h5⟩|⟨h0,h5⟩|h0
   ·have g:=H A
    rcases h5 with h5|h5
    ·unfold ndB at C
     rw[if_neg (by omega),if_pos h5]at C
     simp only[Bool.and_eq_true]at C
     obtain⟨l1,l2,u⟩:=gH C.2
     generalize lvl d.op=L at*
     rw[h5]at g
     rw[if_pos h5,h5]
     rcases u with u|u|u
     ·rw[u]at g
      rw[if_neg (by omega),if_neg (by omega),u]
      exact pr_null _ _ _ d.vk _ _ _ _ _ _ L r t g
     ·rw[if_pos u]
      rw[u]at g ⊢
      exact pr_num _ _ _ d.vk _ _ _ _ _ _ L r t g h3.vi (by have:=l2 u;omega)
     ·rw[if_neg (by omega),if_pos u]
      rw[u]at g ⊢
      exact pr_text _ _ _ d.vk _ _ _ _ _ _ L r t g (by omega)
    ·unfold ndB at C
     rw[if_pos h5]at C
     simp only[Bool.and_eq_true,Bool.or_eq_true,beq_iff_eq]at C
     have l1:=bj C.1.1
     generalize lvl d.op=L at*
     rw[h5]at g
     rw[if_neg (by omega),if_pos h5,h5]
     by_cases G:d.tb.size=0
     ·rw[bu G]at g
      rw[if_pos G,bu G]
      exact pr_col d.tb _ _ _ _ _ _ _ _ _ L r t g
     ·rw[if_neg G]
      have l2:d.tb.size≤24:=by
       rcases C.1.2 with h|h
       ·exact absurd h G
       ·exact bj h
      exact pr_qual _ _ _ _ _ _ _ _ _ _ L r t g (bU G) (bI G) (by omega) (by omega)
   ·obtain⟨a,rfl⟩:∃a,ks= [a]:=by
     have:ks.length=1:=by omega
     exact List.length_eq_one_iff.1 this
    obtain⟨b,k,s,m,o,rfl,q⟩:=K.get (i:=0) (e:=a) rfl
    have g:=H (some ⟨b,k,none⟩)
    have p:a∈[a]:=by simp
    have E:n=1:=by rw[←X];rfl
    simp only[List.map_cons,List.map_nil,List.getD_cons_zero]
    generalize lvl d.op=L at*
    rcases h5 with h5|h5|h5|h5
    ·rw[h5]at g
     rw[if_neg (by omega),if_neg (by omega),if_pos h5,h5]
     exact pr_neg _ _ _ _ _ _ b k n c w L r t g a _ s m o E (j a p 8) q fun W f=>l a p 8 s m o W f (q.val.ext f)
    ·rw[h5]at g
     rw[if_neg (by omega),if_neg (by omega),if_neg (by omega),if_pos h5,h5]
     exact pr_len _ _ _ _ _ _ b k n c w L r t g a _ s m o E (j a p 1) q fun W f=>l a p 1 s m o W f (q.val.ext f)
    ·rw[h5]at g
     rw[if_neg (by omega),if_neg (by omega),if_neg (by omega),if_neg (by omega),if_pos h5,h5]
     exact pr_isnull _ _ _ _ _ _ b k n c w L r t g a _ s m o E (j a p 5) q fun W f=>l a p 5 s m o W f (q.val.ext f)
    ·rw[h5]at g
     rw[if_neg (by omega),if_neg (by omega),if_neg (by omega),if_neg (by omega),if_neg (by omega),if_pos h5,h5]
     exact pr_not _ _ _ _ _ _ b k n c w L r t g a _ s m o E (j a p 3) q fun W f=>l a p 3 s m o W f (q.val.ext f)
   ·obtain⟨x,y,rfl⟩:∃x y,ks= [x,y]:=by
     have:ks.length=2:=by omega
     match ks,this with
     | [x,y],_=>exact⟨x,y,rfl⟩
    obtain⟨b,k,R,n1,c1,rfl,q⟩:=K.get (i:=0) (e:=x) rfl
    obtain⟨b2,ad,U,V,c2,P,B⟩:=K.get (i:=1) (e:=y) rfl
    simp only[Option.some.injEq,Addr.mk.injEq,and_true]at P
    obtain⟨rfl,rfl⟩:=P
    have g:=H (some ⟨b,k,none⟩)
    have p:x∈[x,y]:=by simp
    have Y:y∈[x,y]:=by simp
    have O:n=2:=by rw[←X];rfl
    have z:=lvl_bd d.op
    simp only[List.map_cons,List.map_nil,List.getD_cons_zero,List.getD_cons_succ]
    rw[if_neg (by omega),if_neg (by omega),if_neg (by omega),if_neg (by omega),if_neg (by omega),if_neg (by omega)]
    by_cases D:lvl d.op=4
    ·rw[if_pos D]
     exact pr_bin4 d.op _ _ _ _ _ _ b k n c w (lvl d.op) r t z.1 z.2 (by rw[D];rfl) g x y _ _ R U n1 V c1 c2 h5 O (j x p 5) (j y Y (lvl d.op+1)) q B
      (fun W f=>l x p 5 R n1 c1 W f (q.val.ext f)) (fun W f=>l y Y (lvl d.op+1) U V c2 W f (B.val.ext f))
    ·rw[if_neg D]
     exact pr_bin d.op _ _ _ _ _ _ b k n c w (lvl d.op) r t z.1 z.2 (by simpa using D) g x y _ _ R U n1 V c1 c2 h5 O (j x p (lvl d.op)) (j y Y (lvl d.op+1)) q B
      (fun W f=>l x p (lvl d.op) R n1 c1 W f (q.val.ext f)) (fun W f=>l y Y (lvl d.op+1) U V c2 W f (B.val.ext f))
   ·omega
  have j:(Ex.mk d ks).tx r=if lvl d.op<r then ⟨#[40]⟩++(Ex.mk d ks).pl++⟨#[41]⟩else (Ex.mk d ks).pl:=rfl
  rw[j]
  by_cases I:lvl d.op<r
  ·rw[if_pos I]
   have F:=opN_op (bZ hf).1
   exact pr_brk d A n c w (lvl d.op) r _ (by simpa using I) (by omega) (fun W=>jy (.mk d ks) A n c W F) fun W f=>J 1 W (Z.ext f) (by have:=lvl_bd d.op;omega)
  ·rw[if_neg I]
   exact J r w Z I
def textE (e:Ex):ByteArray:=if validE e=0 then e.tx 1 else ⟨#[]⟩
theorem lq (e:Ex):validE e=0∧e.formed=true∧e.size≤400∨validE e=1∨validE e=3:=by
 unfold validE
 rw[kD]
 by_cases h:(decide (400<e.nodes)||decide (50<e.depth))=true
 ·rw[if_pos h];exact .inr (.inr rfl)
 ·rw[if_neg h]
  by_cases a:e.formed=true
  ·rw[if_pos a]
   refine .inl ⟨rfl,a,?_⟩
   have:=cW e a
   simp only[Bool.or_eq_true,decide_eq_true_eq,not_or]at h
   omega
  ·rw[if_neg a];exact .inr (.inl rfl)
theorem ret_2 {a e:ByteArray} {b f:Int} (h:a=e) (g:b=f):Ending.returned (.tuple #[.string a,.int .i64 b])= .returned (.tuple #[.string e,.int .i64 f]):=by rw[h,g]
theorem jE (e:Ex) (A:Option Addr) (n c:Nat) (w:World) (p:ExV w e A n c):
  Calls Tryz.prog 26 #[e.d.val A n c] w fun r w'=>r= .returned (.tuple #[.string (textE e),.int .i64 (validE e)])∧Ext w w':=by
 have s:=hid (fun W (j:Ext w W)=>nJ e A n c W (p.ext j))
 have o:Hid (validE e=0→∀W,Ext w W→Calls Tryz.prog 50 #[e.d.val A n c,.int .i64 1] W fun r w'=>r= .returned (.string (textE e))∧Ext W w'):=by
  intro f W j
  rcases lq e with ⟨_,h1,h2⟩|h1|h1
  ·unfold textE
   rw[if_pos f]
   exact nN e 1 A n c W (p.ext j) h1 (by omega)
  ·omega
  ·omega
 have l:Hid (validE e≠0→textE e=⟨#[]⟩):=fun h=>by unfold textE;rw[if_neg h]
 have u:=hid (Blk.of_new w 37 (e.d.cells A n c))
 have g:=hid ((Ext.refl w).alloc (.cells (e.d.cells A n c).toArray 37))
 clear p
 generalize textE e=T at*
 generalize validE e=V at*
 unfold Nd.val at*
 unfold Nd.cells at*
 generalize e.d=d at*
 obtain⟨op,tb,nm,ix,vk,vi,vt⟩:=d
 simp only at*
 by_cases f:V=0
 ·have q:=hid (o f)
  clear o l
  subst f
  go_enter Tryz.func26,Tryz.ntmps26
  go_wp2_with (first|(go_at_call 42;refine(s _ g).mono ?_;rintro _ t ⟨rfl,a⟩;have i:=u.ext a;obtain⟨c0,c1,c2,c3,c4,c5,c6,c7,-⟩:=cls i;clear i)|(go_at_call 50;refine(q _ (g.trans a)).mono ?_;rintro _ x ⟨rfl,k⟩))
  go_ret2
  exact⟨rfl,(g.trans a).trans k⟩
 ·have b:(V !=0)=true:=by simpa using f
  have m:=hid (l f)
  clear o l f
  go_enter Tryz.func26,Tryz.ntmps26
  go_wp2_with (go_at_call 42;refine(s _ g).mono ?_;rintro _ t ⟨rfl,a⟩)
  go_ret2
  exact⟨ret_2 m.symm rfl,g.trans a⟩
end Go.Proofs.YtjigcpfjhfoheaaGreatDoor
