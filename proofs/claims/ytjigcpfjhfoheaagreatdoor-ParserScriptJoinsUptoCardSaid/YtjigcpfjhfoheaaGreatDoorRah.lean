/- Walks: Print, the reference's canonical text; Print returns the canonical text; FormatExpr and TextExpr; Opening an expression; Opening an expression: what its size gives; Walks: weight (its number), SmallExpr. -/
import Derived.Test.YtjigcpfjhfoheaaGreatDoorRag
import Derived.Deep.Slices
import Derived.Deep.Fields
import Derived.ChangeSame
import Derived.ProofKit
import Derived.OpenShut
import Derived.ShutString
import Derived.Lib.SmallJoins
import Derived.Test.YtjigcpfjhfoheaaGreatDoorRae
import Derived.Test.YtjigcpfjhfoheaaGreatDoorRows
namespace Go.Proofs.YtjigcpfjhfoheaaGreatDoor
open Go.RowKit
set_option maxHeartbeats 4000000
set_option maxRecDepth 100000
set_option linter.unusedVariables false
set_option linter.unusedSimpArgs false
theorem mX (op:Int) (w:World) (b:4≤op∧op≤8∨10≤op∧op≤16∨op=18∨op=19):Calls Tryz.prog 93 #[.int .i64 op] w fun r w'=>r= .returned (.string (sgn op))∧Ext w w':=by
 have g:=hid (lD op b)
 have e:=hid (Blk.of_new w 9 em.toList)
 have f:=hid ((Ext.refl w).alloc (.cells em 9))
 have a:(.cells em.toList.toArray 9:Obj)= .cells em 9:=rfl
 rw[a]at e
 have i:(0:Int)≤op:=by omega
 have o1:op<20:=by omega
 have h:=(e.cell op.toNat).trans g
 clear a b
 generalize sgn op=G at*
 go_enter Tryz.func93,Tryz.ntmps93
 unfold em at h f
 go_wp2_with fail
 go_ret
 exact⟨rfl,f⟩
theorem pr_num (tb nm:ByteArray) (ix vk vi:Int) (vt:ByteArray) (A:Option Addr) (n c:Nat) (w:World) (L r:Int) (j:decide (L<r)=false)
  (e:Hid (∀W,Calls Tryz.prog 90 #[.agg #[.int .i64 1,.string tb,.string nm,.int .i64 ix,.int .i64 1,.int .i64 vi,.string vt,.slice A n c]] W fun r w'=>r= .returned (.int .i64 L)∧Ext W w')) (hi:I64 vi) (i: -9223372036854775808<vi):
  Calls Tryz.prog 50 #[.agg #[.int .i64 1,.string tb,.string nm,.int .i64 ix,.int .i64 1,.int .i64 vi,.string vt,.slice A n c],.int .i64 r] w fun r w'=>r= .returned (.string (itoB vi))∧Ext w w':=by
 have g:=hid (Blk.of_new w 37 (eC 1 tb nm ix 1 vi vt A n c))
 have h:=hid ((Ext.refl w).alloc (.cells #[.int .i64 1,.string tb,.string nm,.int .i64 ix,.int .i64 1,.int .i64 vi,.string vt,.slice A n c] 37))
 go_enter Tryz.func50,Tryz.ntmps50
 go_wp2_with (first|(go_at_call 90;refine(e _).mono ?_;rintro _ k ⟨rfl,b⟩;have a:=g.ext b;obtain⟨c0,c1,c2,c3,c4,c5,c6,c7,-⟩:=cls a;clear a)|(go_at_call 91;refine(fh _ _ i hi.2).mono ?_;rintro _ l ⟨rfl,f⟩))
 go_ret
 exact⟨rfl,(h.trans b).trans f⟩
theorem pr_text (tb nm:ByteArray) (ix vk vi:Int) (vt:ByteArray) (A:Option Addr) (n c:Nat) (w:World) (L r:Int) (i:decide (L<r)=false)
  (e:Hid (∀W,Calls Tryz.prog 90 #[.agg #[.int .i64 1,.string tb,.string nm,.int .i64 ix,.int .i64 2,.int .i64 vi,.string vt,.slice A n c]] W fun r w'=>r= .returned (.int .i64 L)∧Ext W w')) (hs:vt.size≤1000):
  Calls Tryz.prog 50 #[.agg #[.int .i64 1,.string tb,.string nm,.int .i64 ix,.int .i64 2,.int .i64 vi,.string vt,.slice A n c],.int .i64 r] w fun r w'=>r= .returned (.string (⟨#[39]⟩++kt vt++⟨#[39]⟩))∧Ext w w':=by
 have g:=hid (Blk.of_new w 37 (eC 1 tb nm ix 2 vi vt A n c))
 have h:=hid ((Ext.refl w).alloc (.cells #[.int .i64 1,.string tb,.string nm,.int .i64 ix,.int .i64 2,.int .i64 vi,.string vt,.slice A n c] 37))
 go_enter Tryz.func50,Tryz.ntmps50
 go_wp2_with (first|(go_at_call 90;refine(e _).mono ?_;rintro _ j ⟨rfl,b⟩;have a:=g.ext b;obtain⟨c0,c1,c2,c3,c4,c5,c6,c7,-⟩:=cls a;clear a)|(go_at_call 92;refine(qy _ _ hs).mono ?_;rintro _ k ⟨rfl,f⟩))
 go_ret
 exact⟨rfl,(h.trans b).trans f⟩
theorem pr_null (tb nm:ByteArray) (ix vk vi:Int) (vt:ByteArray) (A:Option Addr) (n c:Nat) (w:World) (L r:Int) (h:decide (L<r)=false)
  (e:Hid (∀W,Calls Tryz.prog 90 #[.agg #[.int .i64 1,.string tb,.string nm,.int .i64 ix,.int .i64 0,.int .i64 vi,.string vt,.slice A n c]] W fun r w'=>r= .returned (.int .i64 L)∧Ext W w')):
  Calls Tryz.prog 50 #[.agg #[.int .i64 1,.string tb,.string nm,.int .i64 ix,.int .i64 0,.int .i64 vi,.string vt,.slice A n c],.int .i64 r] w fun r w'=>r= .returned (.string ⟨#[78,85,76,76]⟩)∧Ext w w':=by
 have f:=hid (Blk.of_new w 37 (eC 1 tb nm ix 0 vi vt A n c))
 have g:=hid ((Ext.refl w).alloc (.cells #[.int .i64 1,.string tb,.string nm,.int .i64 ix,.int .i64 0,.int .i64 vi,.string vt,.slice A n c] 37))
 go_enter Tryz.func50,Tryz.ntmps50
 go_wp2_with (first|(go_at_call 90;refine(e _).mono ?_;rintro _ i ⟨rfl,b⟩;have a:=f.ext b;obtain⟨c0,c1,c2,c3,c4,c5,c6,c7,-⟩:=cls a;clear a))
 go_ret
 exact⟨rfl,g.trans b⟩
theorem pr_col (tb nm:ByteArray) (ix vk vi:Int) (vt:ByteArray) (A:Option Addr) (n c:Nat) (w:World) (L r:Int) (h:decide (L<r)=false)
  (e:Hid (∀W,Calls Tryz.prog 90 #[.agg #[.int .i64 2,.string ⟨#[]⟩,.string nm,.int .i64 ix,.int .i64 vk,.int .i64 vi,.string vt,.slice A n c]] W fun r w'=>r= .returned (.int .i64 L)∧Ext W w')):
  Calls Tryz.prog 50 #[.agg #[.int .i64 2,.string ⟨#[]⟩,.string nm,.int .i64 ix,.int .i64 vk,.int .i64 vi,.string vt,.slice A n c],.int .i64 r] w fun r w'=>r= .returned (.string nm)∧Ext w w':=by
 have f:=hid (Blk.of_new w 37 (eC 2 ⟨#[]⟩ nm ix vk vi vt A n c))
 have g:=hid ((Ext.refl w).alloc (.cells #[.int .i64 2,.string ⟨#[]⟩,.string nm,.int .i64 ix,.int .i64 vk,.int .i64 vi,.string vt,.slice A n c] 37))
 go_enter Tryz.func50,Tryz.ntmps50
 go_wp2_with (first|(go_at_call 90;refine(e _).mono ?_;rintro _ i ⟨rfl,b⟩;have a:=f.ext b;obtain⟨c0,c1,c2,c3,c4,c5,c6,c7,-⟩:=cls a;clear a))
 go_ret
 exact⟨rfl,g.trans b⟩
theorem pr_qual (tb nm:ByteArray) (ix vk vi:Int) (vt:ByteArray) (A:Option Addr) (n c:Nat) (w:World) (L r:Int) (i:decide (L<r)=false)
  (e:Hid (∀W,Calls Tryz.prog 90 #[.agg #[.int .i64 2,.string tb,.string nm,.int .i64 ix,.int .i64 vk,.int .i64 vi,.string vt,.slice A n c]] W fun r w'=>r= .returned (.int .i64 L)∧Ext W w')) (j:¬tb.toList= []) (k:tb.toList.isEmpty=false) (hs:tb.size≤1000) (h:nm.size≤1000):
  Calls Tryz.prog 50 #[.agg #[.int .i64 2,.string tb,.string nm,.int .i64 ix,.int .i64 vk,.int .i64 vi,.string vt,.slice A n c],.int .i64 r] w fun r w'=>r= .returned (.string (tb++⟨#[46]⟩++nm))∧Ext w w':=by
 have f:=hid (Blk.of_new w 37 (eC 2 tb nm ix vk vi vt A n c))
 have g:=hid ((Ext.refl w).alloc (.cells #[.int .i64 2,.string tb,.string nm,.int .i64 ix,.int .i64 vk,.int .i64 vi,.string vt,.slice A n c] 37))
 go_enter Tryz.func50,Tryz.ntmps50
 go_wp2_with (first|(go_at_call 90;refine(e _).mono ?_;rintro _ l ⟨rfl,b⟩;have a:=f.ext b;obtain⟨c0,c1,c2,c3,c4,c5,c6,c7,-⟩:=cls a;clear a))
 go_ret
 exact⟨rfl,g.trans b⟩
theorem pr_neg (tb nm:ByteArray) (ix vk vi:Int) (vt:ByteArray) (b e n c:Nat) (w:World) (L r:Int) (u:decide (L<r)=false)
  (i:Hid (∀W,Calls Tryz.prog 90 #[.agg #[.int .i64 3,.string tb,.string nm,.int .i64 ix,.int .i64 vk,.int .i64 vi,.string vt,.slice (some ⟨b,e,none⟩) n c]] W fun r w'=>r= .returned (.int .i64 L)∧Ext W w')) (x:Ex) (X:ByteArray) (l:Option Addr) (p c1:Nat) (t:n=1) (y:X.size≤100000)
  (j:cq w b (e+0*8) x l p c1)
  (o:∀W,Ext w W→Calls Tryz.prog 50 #[x.d.val l p c1,.int .i64 8] W fun r w'=>r= .returned (.string X)∧Ext W w'):
  Calls Tryz.prog 50 #[.agg #[.int .i64 3,.string tb,.string nm,.int .i64 ix,.int .i64 vk,.int .i64 vi,.string vt,.slice (some ⟨b,e,none⟩) n c],.int .i64 r] w fun r w'=>r= .returned (.string (⟨#[45]⟩++X))∧Ext w w':=by
 subst t
 have s:=hid (Blk.of_new w 37 (eC 3 tb nm ix vk vi vt (some ⟨b,e,none⟩) 1 c))
 have f:=hid ((Ext.refl w).alloc (.cells #[.int .i64 3,.string tb,.string nm,.int .i64 ix,.int .i64 vk,.int .i64 vi,.string vt,.slice (some ⟨b,e,none⟩) 1 c] 37))
 have m:=hid o
 unfold Nd.val at m
 simp only[Nat.zero_mul,Nat.add_zero]at j
 have g:=hid j
 clear o j
 go_enter Tryz.func50,Tryz.ntmps50
 go_wp2_with (first|(go_at_call 90;refine(i _).mono ?_;rintro _ I ⟨rfl,a⟩;have h:=s.ext a;obtain⟨c0,c1,c2,c3,c4,c5,c6,c7,-⟩:=cls h;clear h;have z:=(f.trans a).keep g.c0;have A:=(f.trans a).keep g.c1;have B:=(f.trans a).keep g.c2;have C:=(f.trans a).keep g.c3;have D:=(f.trans a).keep g.c4;have E:=(f.trans a).keep g.c5;have F:=(f.trans a).keep g.c6;have G:=(f.trans a).keep g.c7)|(go_at_call 50;refine(m _ (f.trans a)).mono ?_;rintro _ J ⟨rfl,k⟩))
 go_ret
 exact⟨rfl,(f.trans a).trans k⟩
theorem pr_len (tb nm:ByteArray) (ix vk vi:Int) (vt:ByteArray) (b e n c:Nat) (w:World) (L r:Int) (u:decide (L<r)=false)
  (i:Hid (∀W,Calls Tryz.prog 90 #[.agg #[.int .i64 9,.string tb,.string nm,.int .i64 ix,.int .i64 vk,.int .i64 vi,.string vt,.slice (some ⟨b,e,none⟩) n c]] W fun r w'=>r= .returned (.int .i64 L)∧Ext W w')) (x:Ex) (X:ByteArray) (l:Option Addr) (p c1:Nat) (t:n=1) (y:X.size≤100000)
  (j:cq w b (e+0*8) x l p c1)
  (o:∀W,Ext w W→Calls Tryz.prog 50 #[x.d.val l p c1,.int .i64 1] W fun r w'=>r= .returned (.string X)∧Ext W w'):
  Calls Tryz.prog 50 #[.agg #[.int .i64 9,.string tb,.string nm,.int .i64 ix,.int .i64 vk,.int .i64 vi,.string vt,.slice (some ⟨b,e,none⟩) n c],.int .i64 r] w fun r w'=>r= .returned (.string (⟨#[76,69,78,71,84,72,40]⟩++X++⟨#[41]⟩))∧Ext w w':=by
 subst t
 have s:=hid (Blk.of_new w 37 (eC 9 tb nm ix vk vi vt (some ⟨b,e,none⟩) 1 c))
 have f:=hid ((Ext.refl w).alloc (.cells #[.int .i64 9,.string tb,.string nm,.int .i64 ix,.int .i64 vk,.int .i64 vi,.string vt,.slice (some ⟨b,e,none⟩) 1 c] 37))
 have m:=hid o
 unfold Nd.val at m
 simp only[Nat.zero_mul,Nat.add_zero]at j
 have g:=hid j
 clear o j
 go_enter Tryz.func50,Tryz.ntmps50
 go_wp2_with (first|(go_at_call 90;refine(i _).mono ?_;rintro _ I ⟨rfl,a⟩;have h:=s.ext a;obtain⟨c0,c1,c2,c3,c4,c5,c6,c7,-⟩:=cls h;clear h;have z:=(f.trans a).keep g.c0;have A:=(f.trans a).keep g.c1;have B:=(f.trans a).keep g.c2;have C:=(f.trans a).keep g.c3;have D:=(f.trans a).keep g.c4;have E:=(f.trans a).keep g.c5;have F:=(f.trans a).keep g.c6;have G:=(f.trans a).keep g.c7)|(go_at_call 50;refine(m _ (f.trans a)).mono ?_;rintro _ J ⟨rfl,k⟩))
 go_ret
 exact⟨rfl,(f.trans a).trans k⟩
theorem pr_isnull (tb nm:ByteArray) (ix vk vi:Int) (vt:ByteArray) (b e n c:Nat) (w:World) (L r:Int) (u:decide (L<r)=false)
  (i:Hid (∀W,Calls Tryz.prog 90 #[.agg #[.int .i64 17,.string tb,.string nm,.int .i64 ix,.int .i64 vk,.int .i64 vi,.string vt,.slice (some ⟨b,e,none⟩) n c]] W fun r w'=>r= .returned (.int .i64 L)∧Ext W w')) (x:Ex) (X:ByteArray) (l:Option Addr) (p c1:Nat) (t:n=1) (y:X.size≤100000)
  (j:cq w b (e+0*8) x l p c1)
  (o:∀W,Ext w W→Calls Tryz.prog 50 #[x.d.val l p c1,.int .i64 5] W fun r w'=>r= .returned (.string X)∧Ext W w'):
  Calls Tryz.prog 50 #[.agg #[.int .i64 17,.string tb,.string nm,.int .i64 ix,.int .i64 vk,.int .i64 vi,.string vt,.slice (some ⟨b,e,none⟩) n c],.int .i64 r] w fun r w'=>r= .returned (.string (X++⟨#[32,73,83,32,78,85,76,76]⟩))∧Ext w w':=by
 subst t
 have s:=hid (Blk.of_new w 37 (eC 17 tb nm ix vk vi vt (some ⟨b,e,none⟩) 1 c))
 have f:=hid ((Ext.refl w).alloc (.cells #[.int .i64 17,.string tb,.string nm,.int .i64 ix,.int .i64 vk,.int .i64 vi,.string vt,.slice (some ⟨b,e,none⟩) 1 c] 37))
 have m:=hid o
 unfold Nd.val at m
 simp only[Nat.zero_mul,Nat.add_zero]at j
 have g:=hid j
 clear o j
 go_enter Tryz.func50,Tryz.ntmps50
 go_wp2_with (first|(go_at_call 90;refine(i _).mono ?_;rintro _ I ⟨rfl,a⟩;have h:=s.ext a;obtain⟨c0,c1,c2,c3,c4,c5,c6,c7,-⟩:=cls h;clear h;have z:=(f.trans a).keep g.c0;have A:=(f.trans a).keep g.c1;have B:=(f.trans a).keep g.c2;have C:=(f.trans a).keep g.c3;have D:=(f.trans a).keep g.c4;have E:=(f.trans a).keep g.c5;have F:=(f.trans a).keep g.c6;have G:=(f.trans a).keep g.c7)|(go_at_call 50;refine(m _ (f.trans a)).mono ?_;rintro _ J ⟨rfl,k⟩))
 go_ret
 exact⟨rfl,(f.trans a).trans k⟩
theorem pr_not (tb nm:ByteArray) (ix vk vi:Int) (vt:ByteArray) (b e n c:Nat) (w:World) (L r:Int) (u:decide (L<r)=false)
  (i:Hid (∀W,Calls Tryz.prog 90 #[.agg #[.int .i64 20,.string tb,.string nm,.int .i64 ix,.int .i64 vk,.int .i64 vi,.string vt,.slice (some ⟨b,e,none⟩) n c]] W fun r w'=>r= .returned (.int .i64 L)∧Ext W w')) (x:Ex) (X:ByteArray) (l:Option Addr) (p c1:Nat) (t:n=1) (y:X.size≤100000)
  (j:cq w b (e+0*8) x l p c1)
  (o:∀W,Ext w W→Calls Tryz.prog 50 #[x.d.val l p c1,.int .i64 3] W fun r w'=>r= .returned (.string X)∧Ext W w'):
  Calls Tryz.prog 50 #[.agg #[.int .i64 20,.string tb,.string nm,.int .i64 ix,.int .i64 vk,.int .i64 vi,.string vt,.slice (some ⟨b,e,none⟩) n c],.int .i64 r] w fun r w'=>r= .returned (.string (⟨#[78,79,84,32]⟩++X))∧Ext w w':=by
 subst t
 have s:=hid (Blk.of_new w 37 (eC 20 tb nm ix vk vi vt (some ⟨b,e,none⟩) 1 c))
 have f:=hid ((Ext.refl w).alloc (.cells #[.int .i64 20,.string tb,.string nm,.int .i64 ix,.int .i64 vk,.int .i64 vi,.string vt,.slice (some ⟨b,e,none⟩) 1 c] 37))
 have m:=hid o
 unfold Nd.val at m
 simp only[Nat.zero_mul,Nat.add_zero]at j
 have g:=hid j
 clear o j
 go_enter Tryz.func50,Tryz.ntmps50
 go_wp2_with (first|(go_at_call 90;refine(i _).mono ?_;rintro _ I ⟨rfl,a⟩;have h:=s.ext a;obtain⟨c0,c1,c2,c3,c4,c5,c6,c7,-⟩:=cls h;clear h;have z:=(f.trans a).keep g.c0;have A:=(f.trans a).keep g.c1;have B:=(f.trans a).keep g.c2;have C:=(f.trans a).keep g.c3;have D:=(f.trans a).keep g.c4;have E:=(f.trans a).keep g.c5;have F:=(f.trans a).keep g.c6;have G:=(f.trans a).keep g.c7)|(go_at_call 50;refine(m _ (f.trans a)).mono ?_;rintro _ J ⟨rfl,k⟩))
 go_ret
 exact⟨rfl,(f.trans a).trans k⟩
theorem pr_bin4 (op:Int) (tb nm:ByteArray) (ix vk vi:Int) (vt:ByteArray) (b f n c:Nat) (w:World) (L r:Int) (d1:decide (L<r)=false) (ag:1≤L) (an:L≤8) (b4:(L==4)=true)
  (j:Hid (∀W,Calls Tryz.prog 90 #[.agg #[.int .i64 op,.string tb,.string nm,.int .i64 ix,.int .i64 vk,.int .i64 vi,.string vt,.slice (some ⟨b,f,none⟩) n c]] W fun r w'=>r= .returned (.int .i64 L)∧Ext W w')) (x y:Ex) (X Y:ByteArray) (Z A2:Option Addr) (n1 n2 c1 c2:Nat)
  (s:4≤op∧op≤8∨10≤op∧op≤16∨op=18∨op=19) (hn:n=2) (hX:X.size≤100000) (hY:Y.size≤100000)
  (e1:cq w b (f+0*8) x Z n1 c1) (e2:cq w b (f+1*8) y A2 n2 c2)
  (h1:∀W,Ext w W→Calls Tryz.prog 50 #[x.d.val Z n1 c1,.int .i64 5] W fun r w'=>r= .returned (.string X)∧Ext W w')
  (h2:∀W,Ext w W→Calls Tryz.prog 50 #[y.d.val A2 n2 c2,.int .i64 (L+1)] W fun r w'=>r= .returned (.string Y)∧Ext W w'):
  Calls Tryz.prog 50 #[.agg #[.int .i64 op,.string tb,.string nm,.int .i64 ix,.int .i64 vk,.int .i64 vi,.string vt,.slice (some ⟨b,f,none⟩) n c],.int .i64 r] w fun r w'=>r= .returned (.string (X++⟨#[32]⟩++sgn op++⟨#[32]⟩++Y))∧Ext w w':=by
 subst hn
 have b1:(op==1)=false:=by rw[beq_eq_false_iff_ne];omega
 have b2:(op==2)=false:=by rw[beq_eq_false_iff_ne];omega
 have b3:(op==3)=false:=by rw[beq_eq_false_iff_ne];omega
 have b9:(op==9)=false:=by rw[beq_eq_false_iff_ne];omega
 have ac:(op==17)=false:=by rw[beq_eq_false_iff_ne];omega
 have ad:(op==20)=false:=by rw[beq_eq_false_iff_ne];omega
 have ax:=fS op
 have D:=hid (fun W=>mX op W s)
 have i:=hid e1
 have e:=hid e2
 have H1:=hid h1
 have H2:=hid h2
 clear e1 e2 h1 h2 s
 unfold Nd.val at H1 H2
 generalize sgn op=G at*
 have HB:=hid (Blk.of_new w 37 (eC op tb nm ix vk vi vt (some ⟨b,f,none⟩) 2 c))
 have HX:=hid ((Ext.refl w).alloc (.cells #[.int .i64 op,.string tb,.string nm,.int .i64 ix,.int .i64 vk,.int .i64 vi,.string vt,.slice (some ⟨b,f,none⟩) 2 c] 37))
 have lw:IntKind.i64.wrap (L+1)=L+1:=IntWalk.i64_in _ (by omega)
 have C:=hid lw
 clear lw
 go_enter Tryz.func50,Tryz.ntmps50
 go_wp2_with (go_at_call 90;refine(j _).mono ?_;rintro _ w2 ⟨rfl,h⟩;have g:=HB.ext h;obtain⟨c0,c1,c2,c3,c4,c5,c6,c7,-⟩:=cls g;clear g)
 have E:=hid (HX.trans h)
 have m:=hid (HB.ext h)
 clear c0 c1 c2 c3 c4 c5 c6 c7 h
 have p:=m.out
 obtain⟨J,K,O,P,Q,R,U,V,-⟩:=lks p
 have lw:=C.out
 clear p
 refine ab (by kernel_rfl) (by kernel_rfl) ?_
 repeat (go_big_quiet_step ((go_at_call 90;exact ak (j _))))
 refine wpQuiet_nil ?_
 intro w3 t
 have k:=ah t
 clear t J K O P Q R U V lw
 have F:=hid (E.trans k)
 have o:=hid (m.ext k)
 clear k
 have g:=o.out
 obtain⟨c0,c1,c2,c3,c4,c5,c6,c7,-⟩:=cls g
 clear g
 go_wp2_with (go_at_call 90;refine(j _).mono ?_;rintro _ w4 ⟨rfl,l⟩)
 have a:=hid (F.trans l)
 have p:=o.ext l
 clear c0 c1 c2 c3 c4 c5 c6 c7 l
 obtain⟨J,K,O,P,Q,R,U,V,-⟩:=lks p
 have q0:=ae.keep (a.keep i.c0)
 have q1:=ae.keep (a.keep i.c1)
 have q2:=ae.keep (a.keep i.c2)
 have q3:=ae.keep (a.keep i.c3)
 have q4:=ae.keep (a.keep i.c4)
 have q5:=ae.keep (a.keep i.c5)
 have q6:=ae.keep (a.keep i.c6)
 have q7:=ae.keep (a.keep i.c7)
 have s0:=ae.keep (a.keep e.c0)
 have s1:=ae.keep (a.keep e.c1)
 have s2:=ae.keep (a.keep e.c2)
 have s3:=ae.keep (a.keep e.c3)
 have s4:=ae.keep (a.keep e.c4)
 have s5:=ae.keep (a.keep e.c5)
 have s6:=ae.keep (a.keep e.c6)
 have s7:=ae.keep (a.keep e.c7)
 simp only[Nat.zero_mul,Nat.add_zero]at q0 q1 q2 q3 q4 q5 q6 q7
 have A:Hid (∀z:ae w4,Calls Tryz.prog 50 _ z.now _):=fun z=>H1 z.now (a.trans z.ext)
 have B:Hid (∀z:ae w4,Calls Tryz.prog 50 _ z.now _):=fun z=>H2 z.now (a.trans z.ext)
 clear p
 refine ab (by kernel_rfl) (by kernel_rfl) ?_
 repeat (go_big_quiet_step ((first|(go_at_call 50;with_reducible exact ak (A.out _))|(go_at_call 50;with_reducible exact ak (B.out _))|(go_at_call 93;exact ak (D.out _)))))
 refine wpQuiet_nil ?_
 intro w5 u
 have I:=ah u
 clear u J K O P Q R U V q0 q1 q2 q3 q4 q5 q6 q7 s0 s1 s2 s3 s4 s5 s6 s7
 go_wp2_with fail
 go_ret
 exact⟨rfl,a.trans I⟩
theorem pr_bin (op:Int) (tb nm:ByteArray) (ix vk vi:Int) (vt:ByteArray) (b f n c:Nat) (w:World) (L r:Int) (d1:decide (L<r)=false) (ag:1≤L) (an:L≤8) (b4:(L==4)=false)
  (j:Hid (∀W,Calls Tryz.prog 90 #[.agg #[.int .i64 op,.string tb,.string nm,.int .i64 ix,.int .i64 vk,.int .i64 vi,.string vt,.slice (some ⟨b,f,none⟩) n c]] W fun r w'=>r= .returned (.int .i64 L)∧Ext W w')) (x y:Ex) (X Y:ByteArray) (Z A2:Option Addr) (n1 n2 c1 c2:Nat)
  (s:4≤op∧op≤8∨10≤op∧op≤16∨op=18∨op=19) (hn:n=2) (hX:X.size≤100000) (hY:Y.size≤100000)
  (e1:cq w b (f+0*8) x Z n1 c1) (e2:cq w b (f+1*8) y A2 n2 c2)
  (h1:∀W,Ext w W→Calls Tryz.prog 50 #[x.d.val Z n1 c1,.int .i64 L] W fun r w'=>r= .returned (.string X)∧Ext W w')
  (h2:∀W,Ext w W→Calls Tryz.prog 50 #[y.d.val A2 n2 c2,.int .i64 (L+1)] W fun r w'=>r= .returned (.string Y)∧Ext W w'):
  Calls Tryz.prog 50 #[.agg #[.int .i64 op,.string tb,.string nm,.int .i64 ix,.int .i64 vk,.int .i64 vi,.string vt,.slice (some ⟨b,f,none⟩) n c],.int .i64 r] w fun r w'=>r= .returned (.string (X++⟨#[32]⟩++sgn op++⟨#[32]⟩++Y))∧Ext w w':=by
 subst hn
 have b1:(op==1)=false:=by rw[beq_eq_false_iff_ne];omega
 have b2:(op==2)=false:=by rw[beq_eq_false_iff_ne];omega
 have b3:(op==3)=false:=by rw[beq_eq_false_iff_ne];omega
 have b9:(op==9)=false:=by rw[beq_eq_false_iff_ne];omega
 have ac:(op==17)=false:=by rw[beq_eq_false_iff_ne];omega
 have ad:(op==20)=false:=by rw[beq_eq_false_iff_ne];omega
 have ax:=fS op
 have D:=hid (fun W=>mX op W s)
 have i:=hid e1
 have e:=hid e2
 have H1:=hid h1
 have H2:=hid h2
 clear e1 e2 h1 h2 s
 unfold Nd.val at H1 H2
 generalize sgn op=G at*
 have HB:=hid (Blk.of_new w 37 (eC op tb nm ix vk vi vt (some ⟨b,f,none⟩) 2 c))
 have HX:=hid ((Ext.refl w).alloc (.cells #[.int .i64 op,.string tb,.string nm,.int .i64 ix,.int .i64 vk,.int .i64 vi,.string vt,.slice (some ⟨b,f,none⟩) 2 c] 37))
 have lw:IntKind.i64.wrap (L+1)=L+1:=IntWalk.i64_in _ (by omega)
 have C:=hid lw
 clear lw
 go_enter Tryz.func50,Tryz.ntmps50
 go_wp2_with (go_at_call 90;refine(j _).mono ?_;rintro _ w2 ⟨rfl,h⟩;have g:=HB.ext h;obtain⟨c0,c1,c2,c3,c4,c5,c6,c7,-⟩:=cls g;clear g)
 have E:=hid (HX.trans h)
 have m:=hid (HB.ext h)
 clear c0 c1 c2 c3 c4 c5 c6 c7 h
 have p:=m.out
 obtain⟨J,K,O,P,Q,R,U,V,-⟩:=lks p
 have lw:=C.out
 clear p
 refine ab (by kernel_rfl) (by kernel_rfl) ?_
 repeat (go_big_quiet_step ((go_at_call 90;exact ak (j _))))
 refine wpQuiet_nil ?_
 intro w3 t
 have k:=ah t
 clear t J K O P Q R U V lw
 have F:=hid (E.trans k)
 have o:=hid (m.ext k)
 clear k
 have g:=o.out
 obtain⟨c0,c1,c2,c3,c4,c5,c6,c7,-⟩:=cls g
 clear g
 go_wp2_with (go_at_call 90;refine(j _).mono ?_;rintro _ w4 ⟨rfl,l⟩)
 have a:=hid (F.trans l)
 have p:=o.ext l
 clear c0 c1 c2 c3 c4 c5 c6 c7 l
 obtain⟨J,K,O,P,Q,R,U,V,-⟩:=lks p
 have q0:=ae.keep (a.keep i.c0)
 have q1:=ae.keep (a.keep i.c1)
 have q2:=ae.keep (a.keep i.c2)
 have q3:=ae.keep (a.keep i.c3)
 have q4:=ae.keep (a.keep i.c4)
 have q5:=ae.keep (a.keep i.c5)
 have q6:=ae.keep (a.keep i.c6)
 have q7:=ae.keep (a.keep i.c7)
 have s0:=ae.keep (a.keep e.c0)
 have s1:=ae.keep (a.keep e.c1)
 have s2:=ae.keep (a.keep e.c2)
 have s3:=ae.keep (a.keep e.c3)
 have s4:=ae.keep (a.keep e.c4)
 have s5:=ae.keep (a.keep e.c5)
 have s6:=ae.keep (a.keep e.c6)
 have s7:=ae.keep (a.keep e.c7)
 simp only[Nat.zero_mul,Nat.add_zero]at q0 q1 q2 q3 q4 q5 q6 q7
 have A:Hid (∀z:ae w4,Calls Tryz.prog 50 _ z.now _):=fun z=>H1 z.now (a.trans z.ext)
 have B:Hid (∀z:ae w4,Calls Tryz.prog 50 _ z.now _):=fun z=>H2 z.now (a.trans z.ext)
 clear p
 refine ab (by kernel_rfl) (by kernel_rfl) ?_
 repeat (go_big_quiet_step ((first|(go_at_call 50;with_reducible exact ak (A.out _))|(go_at_call 50;with_reducible exact ak (B.out _))|(go_at_call 93;exact ak (D.out _)))))
 refine wpQuiet_nil ?_
 intro w5 u
 have I:=ah u
 clear u J K O P Q R U V q0 q1 q2 q3 q4 q5 q6 q7 s0 s1 s2 s3 s4 s5 s6 s7
 go_wp2_with fail
 go_ret
 exact⟨rfl,a.trans I⟩
theorem pr_brk (d:Nd) (A:Option Addr) (n c:Nat) (w:World) (L r:Int) (P:ByteArray) (j:decide (L<r)=true) (k:P.size≤100000)
  (e:Hid (∀W,Calls Tryz.prog 90 #[d.val A n c] W fun r w'=>r= .returned (.int .i64 L)∧Ext W w'))
  (h:Hid (∀W,Ext w W→Calls Tryz.prog 50 #[d.val A n c,.int .i64 1] W fun r w'=>r= .returned (.string P)∧Ext W w')):
  Calls Tryz.prog 50 #[d.val A n c,.int .i64 r] w fun r w'=>r= .returned (.string (⟨#[40]⟩++P++⟨#[41]⟩))∧Ext w w':=by
 have i:=hid (Blk.of_new w 37 (d.cells A n c))
 have g:=hid ((Ext.refl w).alloc (.cells (d.cells A n c).toArray 37))
 unfold Nd.val at*
 unfold Nd.cells at*
 obtain⟨op,tb,nm,ix,vk,vi,vt⟩:=d
 simp only at*
 go_enter Tryz.func50,Tryz.ntmps50
 go_wp2_with (first|(go_at_call 90;refine(e _).mono ?_;rintro _ l ⟨rfl,a⟩;have b:=i.ext a;obtain⟨c0,c1,c2,c3,c4,c5,c6,c7,-⟩:=cls b;clear b)|(go_at_call 50;refine(h _ (g.trans a)).mono ?_;rintro _ m ⟨rfl,f⟩))
 go_ret
 exact⟨rfl,(g.trans a).trans f⟩
theorem lvl_bd (op:Int):1≤lvl op∧lvl op≤8:=by unfold lvl;repeat' split<;>try omega
theorem opN_op {op:Int} {k:Nat} (h:opN op=(k:Int)):1≤op∧op≤20:=by
 rcases bL op with ⟨h0,h5⟩|⟨h0,h5⟩|⟨h0,h5⟩|h0<;>omega
theorem dB:∀(e:Ex) (r:Int) (A:Option Addr) (n c:Nat) (w:World),ExV w e A n c→e.formed=true→e.size≤1000→
  Calls Tryz.prog 50 #[e.d.val A n c,.int .i64 r] w fun x w'=>x= .returned (.string (e.tx r))∧Ext w w':=by
 intro e
 induction e using Ex.ind with
 |h d ks ih=>
  intro r A n c w Z hf hs
  have ag:=kz _ hf
  have R:∀(r:Int) (w:World),ExV w (.mk d ks) A n c→¬lvl d.op<r→Calls Tryz.prog 50 #[(Ex.mk d ks).d.val A n c,.int .i64 r] w fun x w'=>x= .returned (.string (Ex.mk d ks).pl)∧Ext w w':=by
   intro r w Z J
   obtain⟨X,h2,h3,K⟩:=Z
   have X:ks.length=n:=X
   have K:KidsAt w A ks:=K
   have h3:d.fit:=h3
   obtain⟨f1,f2,z⟩:=aB hf
   have G:=opN_op f1
   have t:decide (lvl d.op<r)=false:=by simpa using J
   have l:∀x∈ks,∀(r:Int) (m:Option Addr) (s c':Nat) (W:World),Ext w W→ExV W x m s c'→Calls Tryz.prog 50 #[x.d.val m s c',.int .i64 r] W fun y w'=>y= .returned (.string (x.tx r))∧Ext W w':=
    fun x l r m s c' W _ ac=>ih x l r m s c' W ac (f2 x l) (Nat.le_trans (cQ (d:=d) l) hs)
   have j:∀x∈ks,∀r,(x.tx r).size≤100000:=by
    intro x l r
    have an:x.size≤1000:=Nat.le_trans (cQ (d:=d) l) hs
    have:=bJ x r (f2 x l)
    omega
   have F:∀A,Hid (∀W,Calls Tryz.prog 90 #[.agg #[.int .i64 d.op,.string d.tb,.string d.nm,.int .i64 d.ix,.int .i64 d.vk,.int .i64 d.vi,.string d.vt,.slice A n c]] W fun r w'=>r= .returned (.int .i64 (lvl d.op))∧Ext W w'):=
    fun A W=>lu (.mk d ks) A n c W G
   rw[pl_mk]
   have Q:∀A,(Ex.mk d ks).d.val A n c= .agg #[.int .i64 d.op,.string d.tb,.string d.nm,.int .i64 d.ix,.int .i64 d.vk,.int .i64 d.vi,.string d.vt,.slice A n c]:=fun _=>rfl
   rw[Q]
   unfold plD
   rcases bL d.op with ⟨h0,h5⟩|⟨h0,h5⟩|⟨h0,h5⟩|h0
   ·have g:=F A
    rcases h5 with h5|h5
    ·unfold ndB at z
     rw[if_neg (by omega),if_pos h5]at z
     simp only[Bool.and_eq_true]at z
     obtain⟨l1,l2,u⟩:=fa z.2
     generalize lvl d.op=L at*
     rw[h5]at g
     rw[if_pos h5,h5]
     rcases u with u|u|u
     ·rw[u]at g
      rw[if_neg (by omega),if_neg (by omega),u]
      exact pr_null _ _ _ d.vk _ _ _ _ _ _ L r t g
     ·rw[if_pos u]
      rw[u]at g ⊢
      exact pr_num _ _ _ d.vk _ _ _ _ _ _ L r t g h3.vi (by have:=l2 u;omega)
     ·rw[if_neg (by omega),if_pos u]
      rw[u]at g ⊢
      exact pr_text _ _ _ d.vk _ _ _ _ _ _ L r t g (by omega)
    ·unfold ndB at z
     rw[if_pos h5]at z
     simp only[Bool.and_eq_true,Bool.or_eq_true,beq_iff_eq]at z
     have l1:=bv z.1.1
     generalize lvl d.op=L at*
     rw[h5]at g
     rw[if_neg (by omega),if_pos h5,h5]
     by_cases I:d.tb.size=0
     ·rw[bi I]at g
      rw[if_pos I,bi I]
      exact pr_col d.tb _ _ _ _ _ _ _ _ _ L r t g
     ·rw[if_neg I]
      have l2:d.tb.size≤24:=by
       rcases z.1.2 with h|h
       ·exact absurd h I
       ·exact bv h
      exact pr_qual _ _ _ _ _ _ _ _ _ _ L r t g (bB I) (bo I) (by omega) (by omega)
   ·obtain⟨a,rfl⟩:∃a,ks= [a]:=by
     have:ks.length=1:=by omega
     exact List.length_eq_one_iff.1 this
    obtain⟨b,k,m,s,c',rfl,o⟩:=K.get (i:=0) (e:=a) rfl
    have g:=F (some ⟨b,k,none⟩)
    have p:a∈[a]:=by simp
    have E:n=1:=by rw[←X];rfl
    simp only[List.map_cons,List.map_nil,List.getD_cons_zero]
    generalize lvl d.op=L at*
    rcases h5 with h5|h5|h5|h5
    ·rw[h5]at g
     rw[if_neg (by omega),if_neg (by omega),if_pos h5,h5]
     exact pr_neg _ _ _ _ _ _ b k n c w L r t g a _ m s c' E (j a p 8) o fun W f=>l a p 8 m s c' W f (o.val.ext f)
    ·rw[h5]at g
     rw[if_neg (by omega),if_neg (by omega),if_neg (by omega),if_pos h5,h5]
     exact pr_len _ _ _ _ _ _ b k n c w L r t g a _ m s c' E (j a p 1) o fun W f=>l a p 1 m s c' W f (o.val.ext f)
    ·rw[h5]at g
     rw[if_neg (by omega),if_neg (by omega),if_neg (by omega),if_neg (by omega),if_pos h5,h5]
     exact pr_isnull _ _ _ _ _ _ b k n c w L r t g a _ m s c' E (j a p 5) o fun W f=>l a p 5 m s c' W f (o.val.ext f)
    ·rw[h5]at g
     rw[if_neg (by omega),if_neg (by omega),if_neg (by omega),if_neg (by omega),if_neg (by omega),if_pos h5,h5]
     exact pr_not _ _ _ _ _ _ b k n c w L r t g a _ m s c' E (j a p 3) o fun W f=>l a p 3 m s c' W f (o.val.ext f)
   ·obtain⟨x,y,rfl⟩:∃x y,ks= [x,y]:=by
     have:ks.length=2:=by omega
     match ks,this with
     | [x,y],_=>exact⟨x,y,rfl⟩
    obtain⟨b,k,U,n1,c1,rfl,o⟩:=K.get (i:=0) (e:=x) rfl
    obtain⟨b2,ad,V,n2,c2,O,C⟩:=K.get (i:=1) (e:=y) rfl
    simp only[Option.some.injEq,Addr.mk.injEq,and_true]at O
    obtain⟨rfl,rfl⟩:=O
    have g:=F (some ⟨b,k,none⟩)
    have p:x∈[x,y]:=by simp
    have Y:y∈[x,y]:=by simp
    have P:n=2:=by rw[←X];rfl
    have D:=lvl_bd d.op
    simp only[List.map_cons,List.map_nil,List.getD_cons_zero,List.getD_cons_succ]
    rw[if_neg (by omega),if_neg (by omega),if_neg (by omega),if_neg (by omega),if_neg (by omega),if_neg (by omega)]
    by_cases B:lvl d.op=4
    ·rw[if_pos B]
     exact pr_bin4 d.op _ _ _ _ _ _ b k n c w (lvl d.op) r t D.1 D.2 (by rw[B];rfl) g x y _ _ U V n1 n2 c1 c2 h5 P (j x p 5) (j y Y (lvl d.op+1)) o C
      (fun W f=>l x p 5 U n1 c1 W f (o.val.ext f)) (fun W f=>l y Y (lvl d.op+1) V n2 c2 W f (C.val.ext f))
    ·rw[if_neg B]
     exact pr_bin d.op _ _ _ _ _ _ b k n c w (lvl d.op) r t D.1 D.2 (by simpa using B) g x y _ _ U V n1 n2 c1 c2 h5 P (j x p (lvl d.op)) (j y Y (lvl d.op+1)) o C
      (fun W f=>l x p (lvl d.op) U n1 c1 W f (o.val.ext f)) (fun W f=>l y Y (lvl d.op+1) V n2 c2 W f (C.val.ext f))
   ·omega
  have j:(Ex.mk d ks).tx r=if lvl d.op<r then ⟨#[40]⟩++(Ex.mk d ks).pl++⟨#[41]⟩else (Ex.mk d ks).pl:=rfl
  rw[j]
  by_cases J:lvl d.op<r
  ·rw[if_pos J]
   have G:=opN_op (aB hf).1
   exact pr_brk d A n c w (lvl d.op) r _ (by simpa using J) (by omega) (fun W=>lu (.mk d ks) A n c W G) fun W f=>R 1 W (Z.ext f) (by have:=lvl_bd d.op;omega)
  ·rw[if_neg J]
   exact R r w Z J
def textE (e:Ex):ByteArray:=if validE e=0 then e.tx 1 else ⟨#[]⟩
theorem nX (e:Ex):validE e=0∧e.formed=true∧e.size≤400∨validE e=1∨validE e=3:=by
 unfold validE
 rw[mV]
 by_cases h:(decide (400<e.nodes)||decide (50<e.depth))=true
 ·rw[if_pos h];exact .inr (.inr rfl)
 ·rw[if_neg h]
  by_cases a:e.formed=true
  ·rw[if_pos a]
   refine .inl ⟨rfl,a,?_⟩
   have:=dQ e a
   simp only[Bool.or_eq_true,decide_eq_true_eq,not_or]at h
   omega
  ·rw[if_neg a];exact .inr (.inl rfl)
theorem ret_2 {a e:ByteArray} {b f:Int} (h:a=e) (g:b=f):Ending.returned (.tuple #[.string a,.int .i64 b])= .returned (.tuple #[.string e,.int .i64 f]):=by rw[h,g]
theorem lE (e:Ex) (A:Option Addr) (n c:Nat) (w:World) (p:ExV w e A n c):
  Calls Tryz.prog 26 #[e.d.val A n c] w fun r w'=>r= .returned (.tuple #[.string (textE e),.int .i64 (validE e)])∧Ext w w':=by
 have t:=hid (fun W (o:Ext w W)=>qv e A n c W (p.ext o))
 have j:Hid (validE e=0→∀W,Ext w W→Calls Tryz.prog 50 #[e.d.val A n c,.int .i64 1] W fun r w'=>r= .returned (.string (textE e))∧Ext W w'):=by
  intro f W o
  rcases nX e with ⟨_,h1,h2⟩|h1|h1
  ·unfold textE
   rw[if_pos f]
   exact dB e 1 A n c W (p.ext o) h1 (by omega)
  ·omega
  ·omega
 have l:Hid (validE e≠0→textE e=⟨#[]⟩):=fun h=>by unfold textE;rw[if_neg h]
 have u:=hid (Blk.of_new w 37 (e.d.cells A n c))
 have g:=hid ((Ext.refl w).alloc (.cells (e.d.cells A n c).toArray 37))
 clear p
 generalize textE e=T at*
 generalize validE e=V at*
 unfold Nd.val at*
 unfold Nd.cells at*
 generalize e.d=d at*
 obtain⟨op,tb,nm,ix,vk,vi,vt⟩:=d
 simp only at*
 by_cases f:V=0
 ·have k:=hid (j f)
  clear j l
  subst f
  go_enter Tryz.func26,Tryz.ntmps26
  go_wp2_with (first|(go_at_call 42;refine(t _ g).mono ?_;rintro _ x ⟨rfl,a⟩;have i:=u.ext a;obtain⟨c0,c1,c2,c3,c4,c5,c6,c7,-⟩:=cls i;clear i)|(go_at_call 50;refine(k _ (g.trans a)).mono ?_;rintro _ y ⟨rfl,s⟩))
  go_ret2
  exact⟨rfl,(g.trans a).trans s⟩
 ·have b:(V !=0)=true:=by simpa using f
  have m:=hid (l f)
  clear j l f
  go_enter Tryz.func26,Tryz.ntmps26
  go_wp2_with (go_at_call 42;refine(t _ g).mono ?_;rintro _ x ⟨rfl,a⟩)
  go_ret2
  exact⟨ret_2 m.symm rfl,g.trans a⟩
section
open Go.ChangeShapes Go.WideShapes Go.Deep Go.RowKit
theorem cellsE:Tryz.prog.cellsOf 37=8:=by kernel_rfl
theorem cellsV:Tryz.prog.cellsOf 35=3:=by kernel_rfl
theorem cellsI:Tryz.prog.cellsOf 3=1:=by kernel_rfl
theorem cellsI6:Tryz.prog.cellsOf 2=1:=by kernel_rfl
theorem cellsS:Tryz.prog.cellsOf 9=1:=by kernel_rfl
theorem cellsL:Tryz.prog.cellsOf 27=1:=by kernel_rfl
theorem mY {w:World} {a:Addr} {v:Value} (b:w.cell? a=some v):a.spot=none:=by
 unfold World.cell? at b
 split at b
 ·split at b
  ·cases b
  ·rename_i h;simpa using h
 ·cases b
theorem list8 {α:Type} {l:List α} (h:l.length=8):∃c0 c1 c2 c3 c4 c5 c6 c7,l= [c0,c1,c2,c3,c4,c5,c6,c7]:=by
 match l,h with
 | [c0,c1,c2,c3,c4,c5,c6,c7],_=>exact⟨c0,c1,c2,c3,c4,c5,c6,c7,rfl⟩
theorem dg {α:Type} {l:List α} {i n:Nat} (h:l.length=n) (hi:i<n):∃x,l[i]? =some x:=⟨l[i]'(by omega),List.getElem?_eq_getElem (by omega)⟩
section
variable {H:Type} {enc:TypeId×Value→H} {w:World} {spare:Nat→Bool} {held:Bool} {base:Nat}
end
end
section
open Go.ChangeShapes Go.WideShapes Go.Deep Go.RowKit
mutual
def Ex.room:Ex→Prop
 | .mk _ ks=>ks.length*104≤140737488351232∧roomL ks
def roomL:List Ex→Prop
 | []=>True
 |e::es=>e.room∧roomL es
end
theorem roomL_iff (l:List Ex):roomL l↔∀e∈l,e.room:=by
 induction l with
 |nil=>simp[roomL]
 |cons e l ih=>simp[roomL,ih]
theorem bytesE:Tryz.prog.bytesOf 37=104:=by kernel_rfl
theorem six_map {α β:Type} {g:List (α×β)} {n o p r s t:α×β} (h:g[0]? =some n) (i:g[1]? =some o) (j:g[2]? =some p) (k:g[3]? =some r) (l:g[4]? =some s) (m:g[5]? =some t) (u:g.length=6):
  g.map (·.1)= [n.1,o.1,p.1,r.1,s.1,t.1]:=by
 match g,u with
 | [a,b,c,d,e,f],_=>simp at h i j k l m;subst h i j k l m;rfl
section
variable {H:Type}
theorem agg_bulk (a b e f g y:DataW H):Rows.uptoBulk (.agg [a,b,e,f,g,y])=Rows.uptoBulk a+(Rows.uptoBulk b+(Rows.uptoBulk e+(Rows.uptoBulk f+(Rows.uptoBulk g+Rows.uptoBulk y))))+1:=by
 simp[Rows.uptoBulk,Rows.uptoBulkAll]
theorem pq (a b e f g y:DataW H):(DataW.agg [a,b,e,f,g,y]).weights Tryz.prog 37=a.weights Tryz.prog 3++(b.weights Tryz.prog 9++(e.weights Tryz.prog 9++(f.weights Tryz.prog 3++(g.weights Tryz.prog 35++y.weights Tryz.prog 27)))):=by
 rw[DataW.weights,Tryz.underlying37]
 simp[DataW.weightsEach]
theorem pr {f:Nat→Ex} {len i:Nat} {e:Ex} (a:((List.range len).map f)[i]? =some e):i<len∧e=f i:=by
 rw[List.getElem?_map]at a
 have b:i<len:=by
  by_cases h:i<len
  ·exact h
  ·rw[List.getElem?_eq_none (by simp;omega)]at a;cases a
 rw[List.getElem?_range b]at a
 simp only[Option.map_some,Option.some.injEq]at a
 exact⟨b,a.symm⟩
theorem size_of:∀ {l:List Ex} {m:List (DataW H)},l.length=m.length→(∀(i:Nat) (e:Ex) (z:DataW H),l[i]? =some e→m[i]? =some z→e.size≤Rows.uptoBulk z)→sizeL l≤Rows.uptoBulkAll m:=by
 intro l
 induction l with
 |nil=>intro m _ _;rw[sizeL];omega
 |cons e l ih=>
  intro m a h
  cases m with
  |nil=>cases a
  |cons z m=>
   have g:=h 0 e z rfl rfl
   have j:=ih (m:=m) (by simpa using a) fun i e z b f=>h (i+1) e z (by simpa using b) (by simpa using f)
   rw[sizeL,Rows.uptoBulkAll]
   omega
theorem lF {P:Program} {t:TypeId} :∀ {m:List (DataW H)} {i:Nat} {z:DataW H} {v:Nat},m[i]? =some z→v∈z.weights P t→v∈DataW.weightsAll P t m:=by
 intro m
 induction m with
 |nil=>intro i z v h;simp at h
 |cons a m ih=>
  intro i z v h b
  rw[DataW.weightsAll,List.mem_append]
  cases i with
  |zero=>simp at h;subst h;exact .inl b
  |succ i=>exact .inr (ih (by simpa using h) b)
theorem room_of {d:Nd} {l:List Ex} {g rest:List (DataW H×List MemPlace)} {a b c e f:List Nat} (o:g.length=l.length) (j:∀v∈a++(b++(c++(e++(f++(DataW.slice (g.map (·.1)) (rest.map (·.1))).weights Tryz.prog 27)))),v≤reachBytes)
  (h:∀(i:Nat) (x:Ex) (z:DataW H×List MemPlace),l[i]? =some x→g[i]? =some z→(∀v∈z.1.weights Tryz.prog 37,v≤reachBytes)→x.room):(Ex.mk d l).room:=by
 rw[DataW.weights,Tryz.underlying27]at j
 dsimp only at j
 rw[bytesE]at j
 simp only[List.length_map]at j
 rw[Ex.room,roomL_iff]
 refine⟨?_,fun x n=>?_⟩
 ·have:=j ((g.length+rest.length)*104) (by simp)
  unfold reachBytes at this
  omega
 ·obtain⟨i,hi,rfl⟩:=List.getElem_of_mem n
  refine h i _ (g[i]'(by omega)) (List.getElem?_eq_getElem hi) (List.getElem?_eq_getElem (by omega)) fun v k=>j v ?_
  have:=lF (m:=g.map (·.1)) (i:=i) (by rw[List.getElem?_map,List.getElem?_eq_getElem (by omega)];rfl) k
  simp only[List.mem_append,List.mem_cons]
  exact .inr (.inr (.inr (.inr (.inr (.inr (.inl this))))))
end
section
variable {H:Type} {enc:TypeId×Value→H} {w:World} {spare:Nat→Bool} {held:Bool} {base:Nat}
theorem open_nd2 {e:Nat} {cs:List Value} {x:DataW H×List MemPlace} (h:DataW.trod enc Tryz.prog w base spare held e 37 cs=some x):
  ∃(d:Nd) (c7:Value) (n:Nat) (y:DataW H×List MemPlace),e=n+1∧d.fit∧cs= [.int .i64 d.op,.string d.tb,.string d.nm,.int .i64 d.ix,.int .i64 d.vk,.int .i64 d.vi,.string d.vt,c7]∧DataW.trod enc Tryz.prog w base spare held n 27 [c7]=some y∧∃p0 p1 p2 p3 p4,x.1= .agg [p0,p1,p2,p3,p4,y.1]:=by
 obtain⟨xs,n,rfl,s,hl,a,f⟩:=DataW.trod_struct Tryz.underlying37 h
 obtain⟨c0,c1,c2,c3,c4,c5,c6,c7,rfl⟩:=list8 (hl.trans cellsE)
 have a:xs.length=6:=a
 obtain⟨V,g⟩:=dg a (i:=0) (by omega)
 obtain⟨W,j⟩:=dg a (i:=1) (by omega)
 obtain⟨X,k⟩:=dg a (i:=2) (by omega)
 obtain⟨Y,l⟩:=dg a (i:=3) (by omega)
 obtain⟨Z,o⟩:=dg a (i:=4) (by omega)
 obtain⟨x5,p⟩:=dg a (i:=5) (by omega)
 have I:DataW.trod enc Tryz.prog w base spare held n 3 (List.take (Tryz.prog.cellsOf 3) (List.drop 0 [c0,c1,c2,c3,c4,c5,c6,c7]))=some V:=(f 0 _ rfl).trans g
 have J:DataW.trod enc Tryz.prog w base spare held n 9 (List.take (Tryz.prog.cellsOf 9) (List.drop 1 [c0,c1,c2,c3,c4,c5,c6,c7]))=some W:=(f 1 _ rfl).trans j
 have K:DataW.trod enc Tryz.prog w base spare held n 9 (List.take (Tryz.prog.cellsOf 9) (List.drop 2 [c0,c1,c2,c3,c4,c5,c6,c7]))=some X:=(f 2 _ rfl).trans k
 have L:DataW.trod enc Tryz.prog w base spare held n 3 (List.take (Tryz.prog.cellsOf 3) (List.drop 3 [c0,c1,c2,c3,c4,c5,c6,c7]))=some Y:=(f 3 _ rfl).trans l
 have O:DataW.trod enc Tryz.prog w base spare held n 35 (List.take (Tryz.prog.cellsOf 35) (List.drop 4 [c0,c1,c2,c3,c4,c5,c6,c7]))=some Z:=(f 4 _ rfl).trans o
 have P:DataW.trod enc Tryz.prog w base spare held n 27 (List.take (Tryz.prog.cellsOf 27) (List.drop 7 [c0,c1,c2,c3,c4,c5,c6,c7]))=some x5:=(f 5 _ rfl).trans p
 simp only[cellsI,cellsS,cellsV,cellsL,List.drop_zero,List.drop_succ_cons,List.take_succ_cons,List.take_zero]at I J K L O P
 obtain⟨a0,A,_,w0⟩:=DataW.trod_int Tryz.underlying3 I
 obtain⟨a1,B,_,w1⟩:=DataW.trod_string Tryz.underlying9 J
 obtain⟨a2,C,_,w2⟩:=DataW.trod_string Tryz.underlying9 K
 obtain⟨a3,D,_,w3⟩:=DataW.trod_int Tryz.underlying3 L
 obtain⟨ys,m,rfl,_,_,b,r⟩:=DataW.trod_struct Tryz.underlying35 O
 have b:ys.length=3:=b
 obtain⟨y0,t⟩:=dg b (i:=0) (by omega)
 obtain⟨y1,u⟩:=dg b (i:=1) (by omega)
 obtain⟨y2,z⟩:=dg b (i:=2) (by omega)
 have E:DataW.trod enc Tryz.prog w base spare held m 3 (List.take (Tryz.prog.cellsOf 3) (List.drop 0 [c4,c5,c6]))=some y0:=(r 0 _ rfl).trans t
 have F:DataW.trod enc Tryz.prog w base spare held m 2 (List.take (Tryz.prog.cellsOf 2) (List.drop 1 [c4,c5,c6]))=some y1:=(r 1 _ rfl).trans u
 have G:DataW.trod enc Tryz.prog w base spare held m 9 (List.take (Tryz.prog.cellsOf 9) (List.drop 2 [c4,c5,c6]))=some y2:=(r 2 _ rfl).trans z
 simp only[cellsI,cellsI6,cellsS,List.drop_zero,List.drop_succ_cons,List.take_succ_cons,List.take_zero]at E F G
 obtain⟨b0,Q,_,v0⟩:=DataW.trod_int Tryz.underlying3 E
 obtain⟨b1,R,_,v1⟩:=DataW.trod_int Tryz.underlying2 F
 obtain⟨b2,U,_,v2⟩:=DataW.trod_string Tryz.underlying9 G
 simp only[List.cons.injEq,and_true]at A B C D Q R U
 subst A B C D Q R U
 refine⟨⟨a0,a1,a2,a3,b0,b1,b2⟩,c7,m+1,x5,rfl,⟨bounds_i64 w0,bounds_i64 w3,bounds_i64 v0,bounds_i64 v1,?_,?_,?_⟩,rfl,P,V.1,W.1,X.1,Y.1,Z.1,by rw[s];exact congrArg DataW.agg (six_map g j k l o p a)⟩
 ·exact Nat.le_trans w1 (by unfold maxLen;omega)
 ·exact Nat.le_trans w2 (by unfold maxLen;omega)
 ·exact Nat.le_trans v2 (by unfold maxLen;omega)
theorem i8:∀(k:Nat) (cs:List Value) (x:DataW H×List MemPlace),DataW.trod enc Tryz.prog w base spare held k 37 cs=some x→∃e:Ex,ExC w e cs∧((∀v∈x.1.weights Tryz.prog 37,v≤reachBytes)→e.room)∧e.size≤Rows.uptoBulk x.1:=by
 intro k
 induction k using Nat.strongRecOn with
 |ind k ih=>
  intro cs x h
  obtain⟨d,c7,n,y,rfl,hd,rfl,W,p0,p1,p2,p3,p4,O⟩:=open_nd2 h
  rw[O,agg_bulk]
  rcases DataW.trod_slice Tryz.underlying27 W with ⟨h7,_⟩|⟨a,len,cap,elems,rest,m,rfl,h7,hy,_,hl,hm,hlen,hel,_,_⟩
  ·simp only[List.cons.injEq,and_true]at h7
   subst h7
   refine⟨.mk d [],by rw[ExC];exact⟨hd,Nat.zero_le _,none,0,rfl,trivial⟩,fun _=>⟨by simp,trivial⟩,?_⟩
   rw[Ex.size,sizeL];omega
  ·simp only[List.cons.injEq,and_true]at h7
   subst h7
   have Y:∀i,∃e:Ex,i<len→∃g,(∀j,j<8→w.cell? ((a.add (i*8)).add j)=g[j]?)∧g.length=8∧ExC w e g∧∃z,elems[i]? =some z∧((∀v∈z.1.weights Tryz.prog 37,v≤reachBytes)→e.room)∧e.size≤Rows.uptoBulk z.1:=by
    intro i
    by_cases hi:i<len
    ·have p:=hel i hi
     obtain⟨z,D⟩:=dg hlen hi
     rw[D,cellsE,Option.bind_eq_some_iff]at p
     obtain⟨g,X,Z⟩:=p
     obtain⟨_,F,B⟩:=World.cells?_some X
     obtain⟨e,J,K,L⟩:=ih m (by omega) g z Z
     exact⟨e,fun _=>⟨g,B,F,J,z,D,K,L⟩⟩
    ·exact⟨exZ,fun h=>absurd h hi⟩
   obtain⟨f,s⟩:=Classical.axiomOfChoice Y
   refine⟨.mk d ((List.range len).map f),?_,?_,?_⟩
   rotate_left
   ·intro A
    rw[pq,hy]at A
    exact room_of (by simpa using hlen) A fun i e z' p t=>by
     obtain⟨r,rfl⟩:=pr p
     obtain⟨g,_,_,_,z,D,I,_⟩:=s i r
     obtain rfl:=Option.some.inj (D.symm.trans t)
     exact I
   ·rw[hy,Ex.size]
    have:=size_of (l:=(List.range len).map f) (m:=elems.map (·.1)) (by simp[hlen]) fun i e z' p t=>by
     obtain⟨r,rfl⟩:=pr p
     obtain⟨g,_,_,_,z,D,_,I⟩:=s i r
     rw[List.getElem?_map,D]at t
     obtain rfl:=Option.some.inj t
     exact I
    simp only[Rows.uptoBulk]
    omega
   rw[ExC]
   refine⟨hd,by simp;unfold maxLen at hm;omega,some a,cap,by simp[Nd.cells],?_⟩
   rw[cD]
   intro j e p
   rw[List.getElem?_map]at p
   have r:j<len:=by
    by_cases h:j<len
    ·exact h
    ·rw[List.getElem?_eq_none (by simp;omega)]at p;cases p
   rw[List.getElem?_range r]at p
   simp only[Option.map_some,Option.some.injEq]at p
   subst p
   obtain⟨g,B,F,J,_⟩:=s j r
   have G:a.spot=none:=by
    obtain⟨U,E,P,_⟩:=s 0 (by omega)
    have R:=E 0 (by omega)
    have V:(a.add (0*8)).add 0=a:=by simp[Addr.add]
    rw[V,List.getElem?_eq_getElem (by omega)]at R
    exact mY R
   obtain⟨b,C,sp⟩:=a
   dsimp only at G
   subst G
   have u:∀(o j:Nat),(⟨b,o,none⟩:Addr).add j=⟨b,o+j,none⟩:=fun o j=>by unfold Addr.add;split<;>simp_all
   refine⟨g,⟨b,C,rfl,fun i v Q=>?_⟩,J⟩
   have hi:i<8:=by have:=(List.getElem?_eq_some_iff.1 Q).1;omega
   have:=B i hi
   rw[u,u,Q]at this
   rw[show C+(0+j)*8+i=C+j*8+i by omega]
   exact this
end
end
mutual
def Ex.wt:Ex→Int
 | .mk d ks=>wtL (wrap64 (wrap64 (wrap64 (1+(d.tb.size:Int))+d.nm.size)+d.vt.size)) ks
def wtL:Int→List Ex→Int
 |r,[]=>r
 |r,e::es=>if r<1000 then wtL (wrap64 (r+e.wt)) es else r
end
theorem wtL_full {r:Int} (h:¬r<1000) (l:List Ex):wtL r l=r:=by
 cases l with
 |nil=>rfl
 |cons e l=>rw[wtL,if_neg h]
theorem wtL_step {r:Int} {l:List Ex} {k:Nat} {e:Ex} (h:r<1000) (a:l[k]? =some e):wtL r (l.drop k)=wtL (wrap64 (r+e.wt)) (l.drop (k+1)):=by
 obtain⟨hi,rfl⟩:=List.getElem?_eq_some_iff.1 a
 rw[List.drop_eq_getElem_cons hi,wtL,if_pos h]
theorem wtL_end {r:Int} {l:List Ex} {k:Nat} (h:l.length≤k):wtL r (l.drop k)=r:=by
 rw[List.drop_eq_nil_of_le h,wtL]
theorem qz:∀(e:Ex) (A:Option Addr) (n c:Nat) (w:World),ExV w e A n c→
  Calls Tryz.prog 47 #[e.d.val A n c] w fun r w'=>r= .returned (.int .i64 e.wt)∧Ext w w':=by
 intro e
 induction e using Ex.ind with
 |h d ks ih=>
  intro A n c w R
  obtain⟨y,h2,Q,z⟩:=R
  have x:Hid (ks.length=n):=y
  have I:Hid (KidsAt w A ks):=z
  have G:=hid ih
  have L:Hid ((Ex.mk d ks).wt=wtL (wrap64 (wrap64 (wrap64 (1+(d.tb.size:Int))+d.nm.size)+d.vt.size)) ks):=by unfold Hid;rw[Ex.wt]
  clear y z ih Q
  generalize (Ex.mk d ks).wt=V at*
  unfold Nd.val
  simp only[Ex.d]
  obtain⟨op,tb,nm,ix,vk,vi,vt⟩:=d
  simp only at*
  have E:=hid (Blk.of_new w 37 (eC op tb nm ix vk vi vt A n c))
  have s:=hid ((Ext.refl w).alloc (.cells #[.int .i64 op,.string tb,.string nm,.int .i64 ix,.int .i64 vk,.int .i64 vi,.string vt,.slice A n c] 37))
  go_enter Tryz.func47,Tryz.ntmps47
  go_wp2_with fail
  generalize wrap64 (wrap64 (wrap64 (1+(tb.size:Int))+nm.size)+vt.size)=Z at*
  generalize w.alloc (.cells #[.int .i64 op,.string tb,.string nm,.int .i64 ix,.int .i64 vk,.int .i64 vi,.string vt,.slice A n c] 37)=C at*
  generalize w.heap.size=g at*
  go_loopw [3,4] (fun X U wr=> ∃(r:Int) (k:Nat),V=wtL r (ks.drop k)∧k≤n∧X= .int .i64 r∧U= .int .i64 k∧Ext C wr) (fun _ i _=>n- (intOf i).toNat)
  case atStart=>exact⟨Z,0,L,Nat.zero_le _,rfl,rfl,Ext.refl C⟩
  case round=>
   obtain⟨r,k,B,hk,rfl,rfl,f⟩:=hrel
   have m:=hid f
   have l:=hid B
   have c7:=(E.ext f).cell 7
   simp only[List.getElem?_cons_succ,List.getElem?_cons_zero]at c7
   clear B
   by_cases t:k<n
   ·obtain⟨P,p⟩:=dI x t
    obtain⟨b,Y,D,W,c',rfl,q0,q1,q2,q3,q4,q5,q6,q7,o⟩:=((I.ext s).ext f).get p
    have K:=hid o
    have J:=hid (eT p)
    have F:=hid p
    clear p o f
    by_cases a:r<1000
    ·have O:decide (r<1000)=true:=by simpa using a
     have j:=hid a
     clear a
     go_wp2_with (go_at_call 47;refine(G P J D W c' _ K).mono ?_;rintro _ w2 ⟨rfl,u⟩)
     go_roundw
     case rel=>exact⟨_,k+1,l.trans (wtL_step j F),by omega,rfl,by go_num,m.trans u⟩
     case measure=>simp[intOf];omega
    ·have O:decide (r<1000)=false:=by simpa using a
     have j:=hid a
     clear a
     go_wp2_with fail
     go_ret
     exact⟨aS (l.trans (wtL_full (by have:=j.out;omega) _)).symm,s.trans m⟩
   ·go_wp2_with fail
    go_ret
    exact⟨aS (l.trans (wtL_end (by have:=x.out;omega))).symm,s.trans m⟩
def Ex.small (e:Ex):Bool:=decide (e.wt≤600)
end Go.Proofs.YtjigcpfjhfoheaaGreatDoor
