/- Walks: formed; formed returns whether an expression is well-formed. -/
import Derived.Test.YtjigcpfjhfoheaaGreatDoorEag
namespace Go.Proofs.YtjigcpfjhfoheaaGreatDoor
open Go.RowKit
set_option maxHeartbeats 4000000
set_option maxRecDepth 100000
set_option linter.unusedVariables false
set_option linter.unusedSimpArgs false
theorem contains_ex (F:FuncId) (hE:Ent F) (p:Ex→Bool) (l:List Ex) (A:Option Addr) (n c:Nat) (w:World) (hl:l.length=n) (hn:n≤9223372036854775807) (hk:KidsAt w A l)
  (hF:∀x∈l,∀(A':Option Addr) (n' c':Nat) (W:World),Ext w W→ExV W x A' n' c'→Calls Tryz.prog F #[x.d.val A' n' c'] W fun r W'=>r= .returned (.bool (p x))∧Ext W W'):
  Calls Tryz.prog 111 #[.slice A n c,.func (Fn.func F) #[] #[]] w fun r w'=>r= .returned (.bool (l.any p))∧Ext w w':=by
 have HC:=hid (index_ex F hE p l A n c w hl hn hk hF)
 clear hl hk hF
 go_enter Tryz.func111,Tryz.ntmps111
 go_wp2_with (go_at_call 179;refine HC.out.mono ?_;rintro _ w2 ⟨⟨x,hx,rfl,hx0⟩,hx2⟩;have HX0:=hid hx0;clear hx0)
 go_ret
 exact⟨ret_bool HX0.out,hx2⟩
theorem formed_eq (d:Nd) (ks:List Ex):(Ex.mk d ks).formed=(opN d.op==(ks.length:Int) &&!(ks.any fun x=>!x.formed) &&ndB d (ks.map Ex.d)):=by
 rw[Ex.formed,formedL_all]
 congr 2
 rw[List.any_eq_not_all_not,Bool.not_not]
 simp
theorem get1 {ks:List Ex} (d:Nd) {e:Ex} (h:ks[1]? =some e):(ks.map Ex.d).getD 1 d=e.d:=by
 rw[List.getD_eq_getElem?_getD,List.getElem?_map,h];rfl
theorem formed1 (x:Ex) (A:Option Addr) (n c:Nat) (w:World) (h:∀W,Ext w W→Calls Tryz.prog 79 #[x.d.val A n c] W fun r w'=>r= .returned (.bool x.formed)∧Ext W w'):
  Calls Tryz.prog 154 #[x.d.val A n c] w fun r w'=>r= .returned (.bool (!x.formed))∧Ext w w':=by
 have H:=hid h
 clear h
 unfold Nd.val at*
 go_enter Tryz.func154,Tryz.ntmps154
 go_wp2_with (go_at_call 79;refine(H.out _ ((Ext.refl w).alloc _)).mono ?_;rintro _ w2 ⟨rfl,hx2⟩)
 go_ret
 exact⟨rfl,((Ext.refl w).alloc _).trans hx2⟩
structure FC (tb nm vt:ByteArray) (A:Option Addr) (n c:Nat) (w:World) (B:Bool):Prop where
 tb:tb.size≤9223372036854775807
 nm:nm.size≤9223372036854775807
 vt:vt.size≤9223372036854775807
 sh:Sh w
 con:∀y:Later w,Calls Tryz.prog 111 #[.slice A n c,.func (Fn.func 154) #[] #[]] y.now fun r w'=>r= .returned (.bool B)∧Ext y.now w'
theorem fc1 (op:Int) (tb nm vt:ByteArray) (ix vk vi:Int) (A:Option Addr) (n c:Nat) (w:World) (B:Bool) (h:FC tb nm vt A n c w B) (bN:(opN op !=(n:Int))=true):
  Calls Tryz.prog 79 #[.agg #[.int .i64 op,.string tb,.string nm,.int .i64 ix,.int .i64 vk,.int .i64 vi,.string vt,.slice A n c]] w fun r w'=>r= .returned (.bool false)∧Ext w w':=by
 have H:=hid h
 clear h
 have HB:=hid (Blk.of_new w 37 (eC op tb nm ix vk vi vt A n c))
 have HX:=hid ((Ext.refl w).alloc (.cells #[.int .i64 op,.string tb,.string nm,.int .i64 ix,.int .i64 vk,.int .i64 vi,.string vt,.slice A n c] 37))
 go_enter Tryz.func79,Tryz.ntmps79
 go_wp2_with fail
 generalize w.alloc (.cells #[.int .i64 op,.string tb,.string nm,.int .i64 ix,.int .i64 vk,.int .i64 vi,.string vt,.slice A n c] 37)=w1 at*
 generalize w.heap.size=g at*
 obtain⟨k0,-,-,-,-,-,-,k7,-⟩:=lks HB.out
 have HC1:Hid (∀y:Later w1,Calls Tryz.prog 111 #[.slice A n c,.func (Fn.func 154) #[] #[]] y.now fun r w'=>r= .returned (.bool B)∧Ext y.now w'):=fun y=>H.out.con ⟨y.now,HX.out.trans y.ext⟩
 refine wp_region_later (by kernel_rfl) (by kernel_rfl) ?_
 repeat (go_big_quiet_step ((first|(go_at_call 153;exact later_same (operands_any _ _))|(go_at_call 111;exact later_of (HC1.out _)))))
 refine wpQuiet_nil ?_
 intro w2 hw2
 have hx2:=later_out hw2
 clear hw2 k0 k7 HC1
 have HX2:=hid (HX.out.trans hx2)
 have hB2:=HB.out.ext hx2
 obtain⟨c0,c1,c2,-,c4,c5,c6,c7,-⟩:=cls hB2
 clear hB2 hx2
 go_wp2_with fail
 go_ret
 exact⟨rfl,HX2.out⟩
theorem fc2 (op:Int) (tb nm vt:ByteArray) (ix vk vi:Int) (A:Option Addr) (n c:Nat) (w:World) (h:FC tb nm vt A n c w true) (bN:(opN op !=(n:Int))=false):
  Calls Tryz.prog 79 #[.agg #[.int .i64 op,.string tb,.string nm,.int .i64 ix,.int .i64 vk,.int .i64 vi,.string vt,.slice A n c]] w fun r w'=>r= .returned (.bool false)∧Ext w w':=by
 have H:=hid h
 clear h
 have HB:=hid (Blk.of_new w 37 (eC op tb nm ix vk vi vt A n c))
 have HX:=hid ((Ext.refl w).alloc (.cells #[.int .i64 op,.string tb,.string nm,.int .i64 ix,.int .i64 vk,.int .i64 vi,.string vt,.slice A n c] 37))
 go_enter Tryz.func79,Tryz.ntmps79
 go_wp2_with fail
 generalize w.alloc (.cells #[.int .i64 op,.string tb,.string nm,.int .i64 ix,.int .i64 vk,.int .i64 vi,.string vt,.slice A n c] 37)=w1 at*
 generalize w.heap.size=g at*
 obtain⟨k0,-,-,-,-,-,-,k7,-⟩:=lks HB.out
 have HC1:Hid (∀y:Later w1,Calls Tryz.prog 111 #[.slice A n c,.func (Fn.func 154) #[] #[]] y.now fun r w'=>r= .returned (.bool true)∧Ext y.now w'):=fun y=>H.out.con ⟨y.now,HX.out.trans y.ext⟩
 refine wp_region_later (by kernel_rfl) (by kernel_rfl) ?_
 repeat (go_big_quiet_step ((first|(go_at_call 153;exact later_same (operands_any _ _))|(go_at_call 111;exact later_of (HC1.out _)))))
 refine wpQuiet_nil ?_
 intro w2 hw2
 have hx2:=later_out hw2
 clear hw2 k0 k7 HC1
 have HX2:=hid (HX.out.trans hx2)
 have hB2:=HB.out.ext hx2
 obtain⟨c0,c1,c2,-,c4,c5,c6,c7,-⟩:=cls hB2
 clear hB2 hx2
 go_wp2_with fail
 go_ret
 exact⟨rfl,HX2.out⟩
theorem fc3a (op:Int) (tb nm vt:ByteArray) (ix vk vi:Int) (A:Option Addr) (n c:Nat) (w:World) (h:FC tb nm vt A n c w false) (bN:(opN op !=(n:Int))=false) (b2:(op==2)=true) (HN1:Hid (nameB nm=false)):
  Calls Tryz.prog 79 #[.agg #[.int .i64 op,.string tb,.string nm,.int .i64 ix,.int .i64 vk,.int .i64 vi,.string vt,.slice A n c]] w fun r w'=>r= .returned (.bool false)∧Ext w w':=by
 have H:=hid h
 clear h
 have HB:=hid (Blk.of_new w 37 (eC op tb nm ix vk vi vt A n c))
 have HX:=hid ((Ext.refl w).alloc (.cells #[.int .i64 op,.string tb,.string nm,.int .i64 ix,.int .i64 vk,.int .i64 vi,.string vt,.slice A n c] 37))
 go_enter Tryz.func79,Tryz.ntmps79
 go_wp2_with fail
 generalize w.alloc (.cells #[.int .i64 op,.string tb,.string nm,.int .i64 ix,.int .i64 vk,.int .i64 vi,.string vt,.slice A n c] 37)=w1 at*
 generalize w.heap.size=g at*
 obtain⟨k0,-,-,-,-,-,-,k7,-⟩:=lks HB.out
 have HC1:Hid (∀y:Later w1,Calls Tryz.prog 111 #[.slice A n c,.func (Fn.func 154) #[] #[]] y.now fun r w'=>r= .returned (.bool false)∧Ext y.now w'):=fun y=>H.out.con ⟨y.now,HX.out.trans y.ext⟩
 refine wp_region_later (by kernel_rfl) (by kernel_rfl) ?_
 repeat (go_big_quiet_step ((first|(go_at_call 153;exact later_same (operands_any _ _))|(go_at_call 111;exact later_of (HC1.out _)))))
 refine wpQuiet_nil ?_
 intro w2 hw2
 have hx2:=later_out hw2
 clear hw2 k0 k7 HC1
 have HX2:=hid (HX.out.trans hx2)
 have hB2:=HB.out.ext hx2
 obtain⟨c0,c1,c2,-,c4,c5,c6,c7,-⟩:=cls hB2
 clear hB2 hx2
 go_wp2_with (go_at_call 115;refine(name_any nm _ (H.out.sh.ext HX2.out) H.out.nm).mono ?_;rintro _ w3 ⟨rfl,rfl⟩;rw[HN1.out])
 go_ret
 exact⟨rfl,HX2.out⟩
theorem fc3b (op:Int) (nm vt:ByteArray) (ix vk vi:Int) (A:Option Addr) (n c:Nat) (w:World) (h:FC ⟨#[]⟩ nm vt A n c w false) (bN:(opN op !=(n:Int))=false) (b2:(op==2)=true) (HN1:Hid (nameB nm=true)):
  Calls Tryz.prog 79 #[.agg #[.int .i64 op,.string ⟨#[]⟩,.string nm,.int .i64 ix,.int .i64 vk,.int .i64 vi,.string vt,.slice A n c]] w fun r w'=>r= .returned (.bool (vk==0&&vi==0&&vt.size==0))∧Ext w w':=by
 have H:=hid h
 clear h
 have HB:=hid (Blk.of_new w 37 (eC op ⟨#[]⟩ nm ix vk vi vt A n c))
 have HX:=hid ((Ext.refl w).alloc (.cells #[.int .i64 op,.string ⟨#[]⟩,.string nm,.int .i64 ix,.int .i64 vk,.int .i64 vi,.string vt,.slice A n c] 37))
 go_enter Tryz.func79,Tryz.ntmps79
 go_wp2_with fail
 generalize w.alloc (.cells #[.int .i64 op,.string ⟨#[]⟩,.string nm,.int .i64 ix,.int .i64 vk,.int .i64 vi,.string vt,.slice A n c] 37)=w1 at*
 generalize w.heap.size=g at*
 obtain⟨k0,-,-,-,-,-,-,k7,-⟩:=lks HB.out
 have HC1:Hid (∀y:Later w1,Calls Tryz.prog 111 #[.slice A n c,.func (Fn.func 154) #[] #[]] y.now fun r w'=>r= .returned (.bool false)∧Ext y.now w'):=fun y=>H.out.con ⟨y.now,HX.out.trans y.ext⟩
 refine wp_region_later (by kernel_rfl) (by kernel_rfl) ?_
 repeat (go_big_quiet_step ((first|(go_at_call 153;exact later_same (operands_any _ _))|(go_at_call 111;exact later_of (HC1.out _)))))
 refine wpQuiet_nil ?_
 intro w2 hw2
 have hx2:=later_out hw2
 clear hw2 k0 k7 HC1
 have HX2:=hid (HX.out.trans hx2)
 have hB2:=HB.out.ext hx2
 obtain⟨c0,c1,c2,-,c4,c5,c6,c7,-⟩:=cls hB2
 clear hB2 hx2
 go_wp2_with (go_at_call 115;refine(name_any nm _ (H.out.sh.ext HX2.out) H.out.nm).mono ?_;rintro _ w3 ⟨rfl,rfl⟩;rw[HN1.out])
 all_goals
  go_ret
  refine⟨ret_bool ?_,HX2.out⟩
  rw[str0_b]
  simp[*]
theorem fc3c (op:Int) (tb nm vt:ByteArray) (ix vk vi:Int) (A:Option Addr) (n c:Nat) (w:World) (h:FC tb nm vt A n c w false) (bN:(opN op !=(n:Int))=false) (b2:(op==2)=true) (HN1:Hid (nameB nm=true)) (HN2:Hid (nameB tb=false)) (t1:¬tb.toList= []) (t2:tb.toList.isEmpty=false):
  Calls Tryz.prog 79 #[.agg #[.int .i64 op,.string tb,.string nm,.int .i64 ix,.int .i64 vk,.int .i64 vi,.string vt,.slice A n c]] w fun r w'=>r= .returned (.bool false)∧Ext w w':=by
 have H:=hid h
 clear h
 have HB:=hid (Blk.of_new w 37 (eC op tb nm ix vk vi vt A n c))
 have HX:=hid ((Ext.refl w).alloc (.cells #[.int .i64 op,.string tb,.string nm,.int .i64 ix,.int .i64 vk,.int .i64 vi,.string vt,.slice A n c] 37))
 go_enter Tryz.func79,Tryz.ntmps79
 go_wp2_with fail
 generalize w.alloc (.cells #[.int .i64 op,.string tb,.string nm,.int .i64 ix,.int .i64 vk,.int .i64 vi,.string vt,.slice A n c] 37)=w1 at*
 generalize w.heap.size=g at*
 obtain⟨k0,-,-,-,-,-,-,k7,-⟩:=lks HB.out
 have HC1:Hid (∀y:Later w1,Calls Tryz.prog 111 #[.slice A n c,.func (Fn.func 154) #[] #[]] y.now fun r w'=>r= .returned (.bool false)∧Ext y.now w'):=fun y=>H.out.con ⟨y.now,HX.out.trans y.ext⟩
 refine wp_region_later (by kernel_rfl) (by kernel_rfl) ?_
 repeat (go_big_quiet_step ((first|(go_at_call 153;exact later_same (operands_any _ _))|(go_at_call 111;exact later_of (HC1.out _)))))
 refine wpQuiet_nil ?_
 intro w2 hw2
 have hx2:=later_out hw2
 clear hw2 k0 k7 HC1
 have HX2:=hid (HX.out.trans hx2)
 have hB2:=HB.out.ext hx2
 obtain⟨c0,c1,c2,-,c4,c5,c6,c7,-⟩:=cls hB2
 clear hB2 hx2
 go_wp2_with (first|(go_at_call 115;(with_reducible refine(name_any nm _ (H.out.sh.ext HX2.out) H.out.nm).mono ?_);rintro _ w3 ⟨rfl,rfl⟩;rw[HN1.out])|(go_at_call 115;(with_reducible refine(name_any tb _ (H.out.sh.ext HX2.out) H.out.tb).mono ?_);rintro _ w3 ⟨rfl,rfl⟩;rw[HN2.out]))
 go_ret
 exact⟨rfl,HX2.out⟩
theorem fc3d (op:Int) (tb nm vt:ByteArray) (ix vk vi:Int) (A:Option Addr) (n c:Nat) (w:World) (h:FC tb nm vt A n c w false) (bN:(opN op !=(n:Int))=false) (b2:(op==2)=true) (HN1:Hid (nameB nm=true)) (HN2:Hid (nameB tb=true)) (t1:¬tb.toList= []) (t2:tb.toList.isEmpty=false):
  Calls Tryz.prog 79 #[.agg #[.int .i64 op,.string tb,.string nm,.int .i64 ix,.int .i64 vk,.int .i64 vi,.string vt,.slice A n c]] w fun r w'=>r= .returned (.bool (vk==0&&vi==0&&vt.size==0))∧Ext w w':=by
 have H:=hid h
 clear h
 have HB:=hid (Blk.of_new w 37 (eC op tb nm ix vk vi vt A n c))
 have HX:=hid ((Ext.refl w).alloc (.cells #[.int .i64 op,.string tb,.string nm,.int .i64 ix,.int .i64 vk,.int .i64 vi,.string vt,.slice A n c] 37))
 go_enter Tryz.func79,Tryz.ntmps79
 go_wp2_with fail
 generalize w.alloc (.cells #[.int .i64 op,.string tb,.string nm,.int .i64 ix,.int .i64 vk,.int .i64 vi,.string vt,.slice A n c] 37)=w1 at*
 generalize w.heap.size=g at*
 obtain⟨k0,-,-,-,-,-,-,k7,-⟩:=lks HB.out
 have HC1:Hid (∀y:Later w1,Calls Tryz.prog 111 #[.slice A n c,.func (Fn.func 154) #[] #[]] y.now fun r w'=>r= .returned (.bool false)∧Ext y.now w'):=fun y=>H.out.con ⟨y.now,HX.out.trans y.ext⟩
 refine wp_region_later (by kernel_rfl) (by kernel_rfl) ?_
 repeat (go_big_quiet_step ((first|(go_at_call 153;exact later_same (operands_any _ _))|(go_at_call 111;exact later_of (HC1.out _)))))
 refine wpQuiet_nil ?_
 intro w2 hw2
 have hx2:=later_out hw2
 clear hw2 k0 k7 HC1
 have HX2:=hid (HX.out.trans hx2)
 have hB2:=HB.out.ext hx2
 obtain⟨c0,c1,c2,-,c4,c5,c6,c7,-⟩:=cls hB2
 clear hB2 hx2
 go_wp2_with (first|(go_at_call 115;(with_reducible refine(name_any nm _ (H.out.sh.ext HX2.out) H.out.nm).mono ?_);rintro _ w3 ⟨rfl,rfl⟩;rw[HN1.out])|(go_at_call 115;(with_reducible refine(name_any tb _ (H.out.sh.ext HX2.out) H.out.tb).mono ?_);rintro _ w3 ⟨rfl,rfl⟩;rw[HN2.out]))
 all_goals
  go_ret
  refine⟨ret_bool ?_,HX2.out⟩
  rw[str0_b]
  simp[*]
theorem fc4a (op:Int) (vt:ByteArray) (ix vk vi:Int) (A:Option Addr) (n c:Nat) (w:World) (d:Nd) (e0:d.vk=vk) (e1:d.vi=vi) (e2:d.vt=vt) (h:FC ⟨#[]⟩ ⟨#[]⟩ vt A n c w false) (bN:(opN op !=(n:Int))=false) (b2:(op==2)=false) (b1:(op==1)=true):
  Calls Tryz.prog 79 #[.agg #[.int .i64 op,.string ⟨#[]⟩,.string ⟨#[]⟩,.int .i64 ix,.int .i64 vk,.int .i64 vi,.string vt,.slice A n c]] w fun r w'=>r= .returned (.bool d.litB)∧Ext w w':=by
 have H:=hid h
 clear h
 have HLit:=hid (fun W=>literal_any vk vi vt W H.out.vt d e0 e1 e2)
 clear e0 e1 e2
 have HB:=hid (Blk.of_new w 37 (eC op ⟨#[]⟩ ⟨#[]⟩ ix vk vi vt A n c))
 have HX:=hid ((Ext.refl w).alloc (.cells #[.int .i64 op,.string ⟨#[]⟩,.string ⟨#[]⟩,.int .i64 ix,.int .i64 vk,.int .i64 vi,.string vt,.slice A n c] 37))
 go_enter Tryz.func79,Tryz.ntmps79
 go_wp2_with fail
 generalize w.alloc (.cells #[.int .i64 op,.string ⟨#[]⟩,.string ⟨#[]⟩,.int .i64 ix,.int .i64 vk,.int .i64 vi,.string vt,.slice A n c] 37)=w1 at*
 generalize w.heap.size=g at*
 obtain⟨k0,-,-,-,-,-,-,k7,-⟩:=lks HB.out
 have HC1:Hid (∀y:Later w1,Calls Tryz.prog 111 #[.slice A n c,.func (Fn.func 154) #[] #[]] y.now fun r w'=>r= .returned (.bool false)∧Ext y.now w'):=fun y=>H.out.con ⟨y.now,HX.out.trans y.ext⟩
 refine wp_region_later (by kernel_rfl) (by kernel_rfl) ?_
 repeat (go_big_quiet_step ((first|(go_at_call 153;exact later_same (operands_any _ _))|(go_at_call 111;exact later_of (HC1.out _)))))
 refine wpQuiet_nil ?_
 intro w2 hw2
 have hx2:=later_out hw2
 clear hw2 k0 k7 HC1
 have HX2:=hid (HX.out.trans hx2)
 have hB2:=HB.out.ext hx2
 obtain⟨c0,c1,c2,-,c4,c5,c6,c7,-⟩:=cls hB2
 clear hB2 hx2
 go_wp2_with (go_at_call 155;refine(HLit.out _).mono ?_;rintro _ w3 ⟨rfl,hx3⟩)
 go_ret
 exact⟨rfl,HX2.out.trans hx3⟩
theorem fc4b (op:Int) (nm vt:ByteArray) (ix vk vi:Int) (A:Option Addr) (n c:Nat) (w:World) (h:FC ⟨#[]⟩ nm vt A n c w false) (bN:(opN op !=(n:Int))=false) (b2:(op==2)=false) (b1:(op==1)=true) (t1:¬nm.toList= []) (t2:nm.toList.isEmpty=false):
  Calls Tryz.prog 79 #[.agg #[.int .i64 op,.string ⟨#[]⟩,.string nm,.int .i64 ix,.int .i64 vk,.int .i64 vi,.string vt,.slice A n c]] w fun r w'=>r= .returned (.bool false)∧Ext w w':=by
 have H:=hid h
 clear h
 have HB:=hid (Blk.of_new w 37 (eC op ⟨#[]⟩ nm ix vk vi vt A n c))
 have HX:=hid ((Ext.refl w).alloc (.cells #[.int .i64 op,.string ⟨#[]⟩,.string nm,.int .i64 ix,.int .i64 vk,.int .i64 vi,.string vt,.slice A n c] 37))
 go_enter Tryz.func79,Tryz.ntmps79
 go_wp2_with fail
 generalize w.alloc (.cells #[.int .i64 op,.string ⟨#[]⟩,.string nm,.int .i64 ix,.int .i64 vk,.int .i64 vi,.string vt,.slice A n c] 37)=w1 at*
 generalize w.heap.size=g at*
 obtain⟨k0,-,-,-,-,-,-,k7,-⟩:=lks HB.out
 have HC1:Hid (∀y:Later w1,Calls Tryz.prog 111 #[.slice A n c,.func (Fn.func 154) #[] #[]] y.now fun r w'=>r= .returned (.bool false)∧Ext y.now w'):=fun y=>H.out.con ⟨y.now,HX.out.trans y.ext⟩
 refine wp_region_later (by kernel_rfl) (by kernel_rfl) ?_
 repeat (go_big_quiet_step ((first|(go_at_call 153;exact later_same (operands_any _ _))|(go_at_call 111;exact later_of (HC1.out _)))))
 refine wpQuiet_nil ?_
 intro w2 hw2
 have hx2:=later_out hw2
 clear hw2 k0 k7 HC1
 have HX2:=hid (HX.out.trans hx2)
 have hB2:=HB.out.ext hx2
 obtain⟨c0,c1,c2,-,c4,c5,c6,c7,-⟩:=cls hB2
 clear hB2 hx2
 go_wp2_with fail
 go_ret
 exact⟨rfl,HX2.out⟩
theorem fc4c (op:Int) (tb nm vt:ByteArray) (ix vk vi:Int) (A:Option Addr) (n c:Nat) (w:World) (h:FC tb nm vt A n c w false) (bN:(opN op !=(n:Int))=false) (b2:(op==2)=false) (b1:(op==1)=true) (t1:¬tb.toList= []) (t2:tb.toList.isEmpty=false):
  Calls Tryz.prog 79 #[.agg #[.int .i64 op,.string tb,.string nm,.int .i64 ix,.int .i64 vk,.int .i64 vi,.string vt,.slice A n c]] w fun r w'=>r= .returned (.bool false)∧Ext w w':=by
 have H:=hid h
 clear h
 have HB:=hid (Blk.of_new w 37 (eC op tb nm ix vk vi vt A n c))
 have HX:=hid ((Ext.refl w).alloc (.cells #[.int .i64 op,.string tb,.string nm,.int .i64 ix,.int .i64 vk,.int .i64 vi,.string vt,.slice A n c] 37))
 go_enter Tryz.func79,Tryz.ntmps79
 go_wp2_with fail
 generalize w.alloc (.cells #[.int .i64 op,.string tb,.string nm,.int .i64 ix,.int .i64 vk,.int .i64 vi,.string vt,.slice A n c] 37)=w1 at*
 generalize w.heap.size=g at*
 obtain⟨k0,-,-,-,-,-,-,k7,-⟩:=lks HB.out
 have HC1:Hid (∀y:Later w1,Calls Tryz.prog 111 #[.slice A n c,.func (Fn.func 154) #[] #[]] y.now fun r w'=>r= .returned (.bool false)∧Ext y.now w'):=fun y=>H.out.con ⟨y.now,HX.out.trans y.ext⟩
 refine wp_region_later (by kernel_rfl) (by kernel_rfl) ?_
 repeat (go_big_quiet_step ((first|(go_at_call 153;exact later_same (operands_any _ _))|(go_at_call 111;exact later_of (HC1.out _)))))
 refine wpQuiet_nil ?_
 intro w2 hw2
 have hx2:=later_out hw2
 clear hw2 k0 k7 HC1
 have HX2:=hid (HX.out.trans hx2)
 have hB2:=HB.out.ext hx2
 obtain⟨c0,c1,c2,-,c4,c5,c6,c7,-⟩:=cls hB2
 clear hB2 hx2
 go_wp2_with fail
 go_ret
 exact⟨rfl,HX2.out⟩
theorem fc5a (op:Int) (tb nm vt:ByteArray) (ix vk vi:Int) (n c:Nat) (w:World) (b off:Nat) (op1:Int) (tb1 nm1:ByteArray) (ix1 vk1 vi1:Int) (vt1:ByteArray) (A1:Option Addr) (n1 c1:Nat) (HQ:Hid (w.cell? ⟨b,off+1*8,none⟩=some (.int .i64 op1)∧w.cell? ⟨b,off+1*8+1,none⟩=some (.string tb1)∧w.cell? ⟨b,off+1*8+2,none⟩=some (.string nm1)∧w.cell? ⟨b,off+1*8+3,none⟩=some (.int .i64 ix1)∧w.cell? ⟨b,off+1*8+4,none⟩=some (.int .i64 vk1)∧w.cell? ⟨b,off+1*8+5,none⟩=some (.int .i64 vi1)∧w.cell? ⟨b,off+1*8+6,none⟩=some (.string vt1)∧w.cell? ⟨b,off+1*8+7,none⟩=some (.slice A1 n1 c1))) (h:FC tb nm vt (some ⟨b,off,none⟩) n c w false) (bN:(opN op !=(n:Int))=false) (b2:(op==2)=false) (b1:(op==1)=false) (b16:(op==16)=true) (hn2:(1:Int)<(n:Int)) (p1:(op1 !=1)=true):
  Calls Tryz.prog 79 #[.agg #[.int .i64 op,.string tb,.string nm,.int .i64 ix,.int .i64 vk,.int .i64 vi,.string vt,.slice (some ⟨b,off,none⟩) n c]] w fun r w'=>r= .returned (.bool false)∧Ext w w':=by
 have H:=hid h
 clear h
 have HB:=hid (Blk.of_new w 37 (eC op tb nm ix vk vi vt (some ⟨b,off,none⟩) n c))
 have HX:=hid ((Ext.refl w).alloc (.cells #[.int .i64 op,.string tb,.string nm,.int .i64 ix,.int .i64 vk,.int .i64 vi,.string vt,.slice (some ⟨b,off,none⟩) n c] 37))
 go_enter Tryz.func79,Tryz.ntmps79
 go_wp2_with fail
 generalize w.alloc (.cells #[.int .i64 op,.string tb,.string nm,.int .i64 ix,.int .i64 vk,.int .i64 vi,.string vt,.slice (some ⟨b,off,none⟩) n c] 37)=w1 at*
 generalize w.heap.size=g at*
 obtain⟨k0,-,-,-,-,-,-,k7,-⟩:=lks HB.out
 have HC1:Hid (∀y:Later w1,Calls Tryz.prog 111 #[.slice (some ⟨b,off,none⟩) n c,.func (Fn.func 154) #[] #[]] y.now fun r w'=>r= .returned (.bool false)∧Ext y.now w'):=fun y=>H.out.con ⟨y.now,HX.out.trans y.ext⟩
 refine wp_region_later (by kernel_rfl) (by kernel_rfl) ?_
 repeat (go_big_quiet_step ((first|(go_at_call 153;exact later_same (operands_any _ _))|(go_at_call 111;exact later_of (HC1.out _)))))
 refine wpQuiet_nil ?_
 intro w2 hw2
 have hx2:=later_out hw2
 clear hw2 k0 k7 HC1
 have HX2:=hid (HX.out.trans hx2)
 have hB2:=HB.out.ext hx2
 obtain⟨c0,c1,c2,-,c4,c5,c6,c7,-⟩:=cls hB2
 clear hB2 hx2
 obtain⟨q0,q1,q2,q3,q4,q5,q6,q7⟩:=HQ.out
 replace q0:=HX2.out.keep q0
 replace q1:=HX2.out.keep q1
 replace q2:=HX2.out.keep q2
 replace q3:=HX2.out.keep q3
 replace q4:=HX2.out.keep q4
 replace q5:=HX2.out.keep q5
 replace q6:=HX2.out.keep q6
 replace q7:=HX2.out.keep q7
 go_wp2_with fail
 go_ret
 exact⟨rfl,HX2.out.alloc _⟩
theorem fc5b (op:Int) (tb nm vt:ByteArray) (ix vk vi:Int) (n c:Nat) (w:World) (b off:Nat) (op1:Int) (tb1 nm1:ByteArray) (ix1 vk1 vi1:Int) (vt1:ByteArray) (A1:Option Addr) (n1 c1:Nat) (HQ:Hid (w.cell? ⟨b,off+1*8,none⟩=some (.int .i64 op1)∧w.cell? ⟨b,off+1*8+1,none⟩=some (.string tb1)∧w.cell? ⟨b,off+1*8+2,none⟩=some (.string nm1)∧w.cell? ⟨b,off+1*8+3,none⟩=some (.int .i64 ix1)∧w.cell? ⟨b,off+1*8+4,none⟩=some (.int .i64 vk1)∧w.cell? ⟨b,off+1*8+5,none⟩=some (.int .i64 vi1)∧w.cell? ⟨b,off+1*8+6,none⟩=some (.string vt1)∧w.cell? ⟨b,off+1*8+7,none⟩=some (.slice A1 n1 c1))) (h:FC tb nm vt (some ⟨b,off,none⟩) n c w false) (bN:(opN op !=(n:Int))=false) (b2:(op==2)=false) (b1:(op==1)=false) (b16:(op==16)=true) (hn2:(1:Int)<(n:Int)) (p1:(op1 !=1)=false) (p2:(vk1 !=2)=true):
  Calls Tryz.prog 79 #[.agg #[.int .i64 op,.string tb,.string nm,.int .i64 ix,.int .i64 vk,.int .i64 vi,.string vt,.slice (some ⟨b,off,none⟩) n c]] w fun r w'=>r= .returned (.bool false)∧Ext w w':=by
 have H:=hid h
 clear h
 have HB:=hid (Blk.of_new w 37 (eC op tb nm ix vk vi vt (some ⟨b,off,none⟩) n c))
 have HX:=hid ((Ext.refl w).alloc (.cells #[.int .i64 op,.string tb,.string nm,.int .i64 ix,.int .i64 vk,.int .i64 vi,.string vt,.slice (some ⟨b,off,none⟩) n c] 37))
 go_enter Tryz.func79,Tryz.ntmps79
 go_wp2_with fail
 generalize w.alloc (.cells #[.int .i64 op,.string tb,.string nm,.int .i64 ix,.int .i64 vk,.int .i64 vi,.string vt,.slice (some ⟨b,off,none⟩) n c] 37)=w1 at*
 generalize w.heap.size=g at*
 obtain⟨k0,-,-,-,-,-,-,k7,-⟩:=lks HB.out
 have HC1:Hid (∀y:Later w1,Calls Tryz.prog 111 #[.slice (some ⟨b,off,none⟩) n c,.func (Fn.func 154) #[] #[]] y.now fun r w'=>r= .returned (.bool false)∧Ext y.now w'):=fun y=>H.out.con ⟨y.now,HX.out.trans y.ext⟩
 refine wp_region_later (by kernel_rfl) (by kernel_rfl) ?_
 repeat (go_big_quiet_step ((first|(go_at_call 153;exact later_same (operands_any _ _))|(go_at_call 111;exact later_of (HC1.out _)))))
 refine wpQuiet_nil ?_
 intro w2 hw2
 have hx2:=later_out hw2
 clear hw2 k0 k7 HC1
 have HX2:=hid (HX.out.trans hx2)
 have hB2:=HB.out.ext hx2
 obtain⟨c0,c1,c2,-,c4,c5,c6,c7,-⟩:=cls hB2
 clear hB2 hx2
 obtain⟨q0,q1,q2,q3,q4,q5,q6,q7⟩:=HQ.out
 replace q0:=HX2.out.keep q0
 replace q1:=HX2.out.keep q1
 replace q2:=HX2.out.keep q2
 replace q3:=HX2.out.keep q3
 replace q4:=HX2.out.keep q4
 replace q5:=HX2.out.keep q5
 replace q6:=HX2.out.keep q6
 replace q7:=HX2.out.keep q7
 go_wp2_with fail
 go_ret
 exact⟨rfl,HX2.out.alloc _⟩
theorem fc5c (op:Int) (tb nm vt:ByteArray) (ix vk vi:Int) (n c:Nat) (w:World) (b off:Nat) (op1:Int) (tb1 nm1:ByteArray) (ix1 vk1 vi1:Int) (vt1:ByteArray) (A1:Option Addr) (n1 c1:Nat) (HQ:Hid (w.cell? ⟨b,off+1*8,none⟩=some (.int .i64 op1)∧w.cell? ⟨b,off+1*8+1,none⟩=some (.string tb1)∧w.cell? ⟨b,off+1*8+2,none⟩=some (.string nm1)∧w.cell? ⟨b,off+1*8+3,none⟩=some (.int .i64 ix1)∧w.cell? ⟨b,off+1*8+4,none⟩=some (.int .i64 vk1)∧w.cell? ⟨b,off+1*8+5,none⟩=some (.int .i64 vi1)∧w.cell? ⟨b,off+1*8+6,none⟩=some (.string vt1)∧w.cell? ⟨b,off+1*8+7,none⟩=some (.slice A1 n1 c1))) (h:FC tb nm vt (some ⟨b,off,none⟩) n c w false) (bN:(opN op !=(n:Int))=false) (b2:(op==2)=false) (b1:(op==1)=false) (b16:(op==16)=true) (hn2:(1:Int)<(n:Int)) (p1:(op1 !=1)=false) (p2:(vk1 !=2)=false) (t1:¬tb.toList= []) (t2:tb.toList.isEmpty=false):
  Calls Tryz.prog 79 #[.agg #[.int .i64 op,.string tb,.string nm,.int .i64 ix,.int .i64 vk,.int .i64 vi,.string vt,.slice (some ⟨b,off,none⟩) n c]] w fun r w'=>r= .returned (.bool false)∧Ext w w':=by
 have H:=hid h
 clear h
 have HB:=hid (Blk.of_new w 37 (eC op tb nm ix vk vi vt (some ⟨b,off,none⟩) n c))
 have HX:=hid ((Ext.refl w).alloc (.cells #[.int .i64 op,.string tb,.string nm,.int .i64 ix,.int .i64 vk,.int .i64 vi,.string vt,.slice (some ⟨b,off,none⟩) n c] 37))
 go_enter Tryz.func79,Tryz.ntmps79
 go_wp2_with fail
 generalize w.alloc (.cells #[.int .i64 op,.string tb,.string nm,.int .i64 ix,.int .i64 vk,.int .i64 vi,.string vt,.slice (some ⟨b,off,none⟩) n c] 37)=w1 at*
 generalize w.heap.size=g at*
 obtain⟨k0,-,-,-,-,-,-,k7,-⟩:=lks HB.out
 have HC1:Hid (∀y:Later w1,Calls Tryz.prog 111 #[.slice (some ⟨b,off,none⟩) n c,.func (Fn.func 154) #[] #[]] y.now fun r w'=>r= .returned (.bool false)∧Ext y.now w'):=fun y=>H.out.con ⟨y.now,HX.out.trans y.ext⟩
 refine wp_region_later (by kernel_rfl) (by kernel_rfl) ?_
 repeat (go_big_quiet_step ((first|(go_at_call 153;exact later_same (operands_any _ _))|(go_at_call 111;exact later_of (HC1.out _)))))
 refine wpQuiet_nil ?_
 intro w2 hw2
 have hx2:=later_out hw2
 clear hw2 k0 k7 HC1
 have HX2:=hid (HX.out.trans hx2)
 have hB2:=HB.out.ext hx2
 obtain⟨c0,c1,c2,-,c4,c5,c6,c7,-⟩:=cls hB2
 clear hB2 hx2
 obtain⟨q0,q1,q2,q3,q4,q5,q6,q7⟩:=HQ.out
 replace q0:=HX2.out.keep q0
 replace q1:=HX2.out.keep q1
 replace q2:=HX2.out.keep q2
 replace q3:=HX2.out.keep q3
 replace q4:=HX2.out.keep q4
 replace q5:=HX2.out.keep q5
 replace q6:=HX2.out.keep q6
 replace q7:=HX2.out.keep q7
 have a1:=fun o=> ((Ext.refl w2).alloc o).keep c1
 have a2:=fun o=> ((Ext.refl w2).alloc o).keep c2
 have a4:=fun o=> ((Ext.refl w2).alloc o).keep c4
 have a5:=fun o=> ((Ext.refl w2).alloc o).keep c5
 have a6:=fun o=> ((Ext.refl w2).alloc o).keep c6
 go_wp2_with fail
 go_ret
 exact⟨rfl,HX2.out.alloc _⟩
theorem fc5d (op:Int) (nm vt:ByteArray) (ix vk vi:Int) (n c:Nat) (w:World) (b off:Nat) (op1:Int) (tb1 nm1:ByteArray) (ix1 vk1 vi1:Int) (vt1:ByteArray) (A1:Option Addr) (n1 c1:Nat) (HQ:Hid (w.cell? ⟨b,off+1*8,none⟩=some (.int .i64 op1)∧w.cell? ⟨b,off+1*8+1,none⟩=some (.string tb1)∧w.cell? ⟨b,off+1*8+2,none⟩=some (.string nm1)∧w.cell? ⟨b,off+1*8+3,none⟩=some (.int .i64 ix1)∧w.cell? ⟨b,off+1*8+4,none⟩=some (.int .i64 vk1)∧w.cell? ⟨b,off+1*8+5,none⟩=some (.int .i64 vi1)∧w.cell? ⟨b,off+1*8+6,none⟩=some (.string vt1)∧w.cell? ⟨b,off+1*8+7,none⟩=some (.slice A1 n1 c1))) (h:FC ⟨#[]⟩ nm vt (some ⟨b,off,none⟩) n c w false) (bN:(opN op !=(n:Int))=false) (b2:(op==2)=false) (b1:(op==1)=false) (b16:(op==16)=true) (hn2:(1:Int)<(n:Int)) (p1:(op1 !=1)=false) (p2:(vk1 !=2)=false) (t1:¬nm.toList= []) (t2:nm.toList.isEmpty=false):
  Calls Tryz.prog 79 #[.agg #[.int .i64 op,.string ⟨#[]⟩,.string nm,.int .i64 ix,.int .i64 vk,.int .i64 vi,.string vt,.slice (some ⟨b,off,none⟩) n c]] w fun r w'=>r= .returned (.bool false)∧Ext w w':=by
 have H:=hid h
 clear h
 have HB:=hid (Blk.of_new w 37 (eC op ⟨#[]⟩ nm ix vk vi vt (some ⟨b,off,none⟩) n c))
 have HX:=hid ((Ext.refl w).alloc (.cells #[.int .i64 op,.string ⟨#[]⟩,.string nm,.int .i64 ix,.int .i64 vk,.int .i64 vi,.string vt,.slice (some ⟨b,off,none⟩) n c] 37))
 go_enter Tryz.func79,Tryz.ntmps79
 go_wp2_with fail
 generalize w.alloc (.cells #[.int .i64 op,.string ⟨#[]⟩,.string nm,.int .i64 ix,.int .i64 vk,.int .i64 vi,.string vt,.slice (some ⟨b,off,none⟩) n c] 37)=w1 at*
 generalize w.heap.size=g at*
 obtain⟨k0,-,-,-,-,-,-,k7,-⟩:=lks HB.out
 have HC1:Hid (∀y:Later w1,Calls Tryz.prog 111 #[.slice (some ⟨b,off,none⟩) n c,.func (Fn.func 154) #[] #[]] y.now fun r w'=>r= .returned (.bool false)∧Ext y.now w'):=fun y=>H.out.con ⟨y.now,HX.out.trans y.ext⟩
 refine wp_region_later (by kernel_rfl) (by kernel_rfl) ?_
 repeat (go_big_quiet_step ((first|(go_at_call 153;exact later_same (operands_any _ _))|(go_at_call 111;exact later_of (HC1.out _)))))
 refine wpQuiet_nil ?_
 intro w2 hw2
 have hx2:=later_out hw2
 clear hw2 k0 k7 HC1
 have HX2:=hid (HX.out.trans hx2)
 have hB2:=HB.out.ext hx2
 obtain⟨c0,c1,c2,-,c4,c5,c6,c7,-⟩:=cls hB2
 clear hB2 hx2
 obtain⟨q0,q1,q2,q3,q4,q5,q6,q7⟩:=HQ.out
 replace q0:=HX2.out.keep q0
 replace q1:=HX2.out.keep q1
 replace q2:=HX2.out.keep q2
 replace q3:=HX2.out.keep q3
 replace q4:=HX2.out.keep q4
 replace q5:=HX2.out.keep q5
 replace q6:=HX2.out.keep q6
 replace q7:=HX2.out.keep q7
 have a1:=fun o=> ((Ext.refl w2).alloc o).keep c1
 have a2:=fun o=> ((Ext.refl w2).alloc o).keep c2
 have a4:=fun o=> ((Ext.refl w2).alloc o).keep c4
 have a5:=fun o=> ((Ext.refl w2).alloc o).keep c5
 have a6:=fun o=> ((Ext.refl w2).alloc o).keep c6
 go_wp2_with fail
 go_ret
 exact⟨rfl,HX2.out.alloc _⟩
theorem fc5e (op:Int) (vt:ByteArray) (ix vk vi:Int) (n c:Nat) (w:World) (b off:Nat) (op1:Int) (tb1 nm1:ByteArray) (ix1 vk1 vi1:Int) (vt1:ByteArray) (A1:Option Addr) (n1 c1:Nat) (HQ:Hid (w.cell? ⟨b,off+1*8,none⟩=some (.int .i64 op1)∧w.cell? ⟨b,off+1*8+1,none⟩=some (.string tb1)∧w.cell? ⟨b,off+1*8+2,none⟩=some (.string nm1)∧w.cell? ⟨b,off+1*8+3,none⟩=some (.int .i64 ix1)∧w.cell? ⟨b,off+1*8+4,none⟩=some (.int .i64 vk1)∧w.cell? ⟨b,off+1*8+5,none⟩=some (.int .i64 vi1)∧w.cell? ⟨b,off+1*8+6,none⟩=some (.string vt1)∧w.cell? ⟨b,off+1*8+7,none⟩=some (.slice A1 n1 c1))) (h:FC ⟨#[]⟩ ⟨#[]⟩ vt (some ⟨b,off,none⟩) n c w false) (bN:(opN op !=(n:Int))=false) (b2:(op==2)=false) (b1:(op==1)=false) (b16:(op==16)=true) (hn2:(1:Int)<(n:Int)) (p1:(op1 !=1)=false) (p2:(vk1 !=2)=false):
  Calls Tryz.prog 79 #[.agg #[.int .i64 op,.string ⟨#[]⟩,.string ⟨#[]⟩,.int .i64 ix,.int .i64 vk,.int .i64 vi,.string vt,.slice (some ⟨b,off,none⟩) n c]] w fun r w'=>r= .returned (.bool (vk==0&&vi==0&&vt.size==0))∧Ext w w':=by
 have H:=hid h
 clear h
 have HB:=hid (Blk.of_new w 37 (eC op ⟨#[]⟩ ⟨#[]⟩ ix vk vi vt (some ⟨b,off,none⟩) n c))
 have HX:=hid ((Ext.refl w).alloc (.cells #[.int .i64 op,.string ⟨#[]⟩,.string ⟨#[]⟩,.int .i64 ix,.int .i64 vk,.int .i64 vi,.string vt,.slice (some ⟨b,off,none⟩) n c] 37))
 go_enter Tryz.func79,Tryz.ntmps79
 go_wp2_with fail
 generalize w.alloc (.cells #[.int .i64 op,.string ⟨#[]⟩,.string ⟨#[]⟩,.int .i64 ix,.int .i64 vk,.int .i64 vi,.string vt,.slice (some ⟨b,off,none⟩) n c] 37)=w1 at*
 generalize w.heap.size=g at*
 obtain⟨k0,-,-,-,-,-,-,k7,-⟩:=lks HB.out
 have HC1:Hid (∀y:Later w1,Calls Tryz.prog 111 #[.slice (some ⟨b,off,none⟩) n c,.func (Fn.func 154) #[] #[]] y.now fun r w'=>r= .returned (.bool false)∧Ext y.now w'):=fun y=>H.out.con ⟨y.now,HX.out.trans y.ext⟩
 refine wp_region_later (by kernel_rfl) (by kernel_rfl) ?_
 repeat (go_big_quiet_step ((first|(go_at_call 153;exact later_same (operands_any _ _))|(go_at_call 111;exact later_of (HC1.out _)))))
 refine wpQuiet_nil ?_
 intro w2 hw2
 have hx2:=later_out hw2
 clear hw2 k0 k7 HC1
 have HX2:=hid (HX.out.trans hx2)
 have hB2:=HB.out.ext hx2
 obtain⟨c0,c1,c2,-,c4,c5,c6,c7,-⟩:=cls hB2
 clear hB2 hx2
 obtain⟨q0,q1,q2,q3,q4,q5,q6,q7⟩:=HQ.out
 replace q0:=HX2.out.keep q0
 replace q1:=HX2.out.keep q1
 replace q2:=HX2.out.keep q2
 replace q3:=HX2.out.keep q3
 replace q4:=HX2.out.keep q4
 replace q5:=HX2.out.keep q5
 replace q6:=HX2.out.keep q6
 replace q7:=HX2.out.keep q7
 have a1:=fun o=> ((Ext.refl w2).alloc o).keep c1
 have a2:=fun o=> ((Ext.refl w2).alloc o).keep c2
 have a4:=fun o=> ((Ext.refl w2).alloc o).keep c4
 have a5:=fun o=> ((Ext.refl w2).alloc o).keep c5
 have a6:=fun o=> ((Ext.refl w2).alloc o).keep c6
 go_wp2_with fail
 all_goals
  go_ret
  refine⟨ret_bool ?_,HX2.out.alloc _⟩
  rw[str0_b]
  simp[*]
theorem fc6a (op:Int) (tb nm vt:ByteArray) (ix vk vi:Int) (A:Option Addr) (n c:Nat) (w:World) (h:FC tb nm vt A n c w false) (bN:(opN op !=(n:Int))=false) (b2:(op==2)=false) (b1:(op==1)=false) (b16:(op==16)=false) (t1:¬tb.toList= []) (t2:tb.toList.isEmpty=false):
  Calls Tryz.prog 79 #[.agg #[.int .i64 op,.string tb,.string nm,.int .i64 ix,.int .i64 vk,.int .i64 vi,.string vt,.slice A n c]] w fun r w'=>r= .returned (.bool false)∧Ext w w':=by
 have H:=hid h
 clear h
 have HB:=hid (Blk.of_new w 37 (eC op tb nm ix vk vi vt A n c))
 have HX:=hid ((Ext.refl w).alloc (.cells #[.int .i64 op,.string tb,.string nm,.int .i64 ix,.int .i64 vk,.int .i64 vi,.string vt,.slice A n c] 37))
 go_enter Tryz.func79,Tryz.ntmps79
 go_wp2_with fail
 generalize w.alloc (.cells #[.int .i64 op,.string tb,.string nm,.int .i64 ix,.int .i64 vk,.int .i64 vi,.string vt,.slice A n c] 37)=w1 at*
 generalize w.heap.size=g at*
 obtain⟨k0,-,-,-,-,-,-,k7,-⟩:=lks HB.out
 have HC1:Hid (∀y:Later w1,Calls Tryz.prog 111 #[.slice A n c,.func (Fn.func 154) #[] #[]] y.now fun r w'=>r= .returned (.bool false)∧Ext y.now w'):=fun y=>H.out.con ⟨y.now,HX.out.trans y.ext⟩
 refine wp_region_later (by kernel_rfl) (by kernel_rfl) ?_
 repeat (go_big_quiet_step ((first|(go_at_call 153;exact later_same (operands_any _ _))|(go_at_call 111;exact later_of (HC1.out _)))))
 refine wpQuiet_nil ?_
 intro w2 hw2
 have hx2:=later_out hw2
 clear hw2 k0 k7 HC1
 have HX2:=hid (HX.out.trans hx2)
 have hB2:=HB.out.ext hx2
 obtain⟨c0,c1,c2,-,c4,c5,c6,c7,-⟩:=cls hB2
 clear hB2 hx2
 go_wp2_with fail
 go_ret
 exact⟨rfl,HX2.out⟩
theorem fc6b (op:Int) (nm vt:ByteArray) (ix vk vi:Int) (A:Option Addr) (n c:Nat) (w:World) (h:FC ⟨#[]⟩ nm vt A n c w false) (bN:(opN op !=(n:Int))=false) (b2:(op==2)=false) (b1:(op==1)=false) (b16:(op==16)=false) (t1:¬nm.toList= []) (t2:nm.toList.isEmpty=false):
  Calls Tryz.prog 79 #[.agg #[.int .i64 op,.string ⟨#[]⟩,.string nm,.int .i64 ix,.int .i64 vk,.int .i64 vi,.string vt,.slice A n c]] w fun r w'=>r= .returned (.bool false)∧Ext w w':=by
 have H:=hid h
 clear h
 have HB:=hid (Blk.of_new w 37 (eC op ⟨#[]⟩ nm ix vk vi vt A n c))
 have HX:=hid ((Ext.refl w).alloc (.cells #[.int .i64 op,.string ⟨#[]⟩,.string nm,.int .i64 ix,.int .i64 vk,.int .i64 vi,.string vt,.slice A n c] 37))
 go_enter Tryz.func79,Tryz.ntmps79
 go_wp2_with fail
 generalize w.alloc (.cells #[.int .i64 op,.string ⟨#[]⟩,.string nm,.int .i64 ix,.int .i64 vk,.int .i64 vi,.string vt,.slice A n c] 37)=w1 at*
 generalize w.heap.size=g at*
 obtain⟨k0,-,-,-,-,-,-,k7,-⟩:=lks HB.out
 have HC1:Hid (∀y:Later w1,Calls Tryz.prog 111 #[.slice A n c,.func (Fn.func 154) #[] #[]] y.now fun r w'=>r= .returned (.bool false)∧Ext y.now w'):=fun y=>H.out.con ⟨y.now,HX.out.trans y.ext⟩
 refine wp_region_later (by kernel_rfl) (by kernel_rfl) ?_
 repeat (go_big_quiet_step ((first|(go_at_call 153;exact later_same (operands_any _ _))|(go_at_call 111;exact later_of (HC1.out _)))))
 refine wpQuiet_nil ?_
 intro w2 hw2
 have hx2:=later_out hw2
 clear hw2 k0 k7 HC1
 have HX2:=hid (HX.out.trans hx2)
 have hB2:=HB.out.ext hx2
 obtain⟨c0,c1,c2,-,c4,c5,c6,c7,-⟩:=cls hB2
 clear hB2 hx2
 go_wp2_with fail
 go_ret
 exact⟨rfl,HX2.out⟩
theorem fc6c (op:Int) (vt:ByteArray) (ix vk vi:Int) (A:Option Addr) (n c:Nat) (w:World) (h:FC ⟨#[]⟩ ⟨#[]⟩ vt A n c w false) (bN:(opN op !=(n:Int))=false) (b2:(op==2)=false) (b1:(op==1)=false) (b16:(op==16)=false):
  Calls Tryz.prog 79 #[.agg #[.int .i64 op,.string ⟨#[]⟩,.string ⟨#[]⟩,.int .i64 ix,.int .i64 vk,.int .i64 vi,.string vt,.slice A n c]] w fun r w'=>r= .returned (.bool (vk==0&&vi==0&&vt.size==0))∧Ext w w':=by
 have H:=hid h
 clear h
 have HB:=hid (Blk.of_new w 37 (eC op ⟨#[]⟩ ⟨#[]⟩ ix vk vi vt A n c))
 have HX:=hid ((Ext.refl w).alloc (.cells #[.int .i64 op,.string ⟨#[]⟩,.string ⟨#[]⟩,.int .i64 ix,.int .i64 vk,.int .i64 vi,.string vt,.slice A n c] 37))
 go_enter Tryz.func79,Tryz.ntmps79
 go_wp2_with fail
 generalize w.alloc (.cells #[.int .i64 op,.string ⟨#[]⟩,.string ⟨#[]⟩,.int .i64 ix,.int .i64 vk,.int .i64 vi,.string vt,.slice A n c] 37)=w1 at*
 generalize w.heap.size=g at*
 obtain⟨k0,-,-,-,-,-,-,k7,-⟩:=lks HB.out
 have HC1:Hid (∀y:Later w1,Calls Tryz.prog 111 #[.slice A n c,.func (Fn.func 154) #[] #[]] y.now fun r w'=>r= .returned (.bool false)∧Ext y.now w'):=fun y=>H.out.con ⟨y.now,HX.out.trans y.ext⟩
 refine wp_region_later (by kernel_rfl) (by kernel_rfl) ?_
 repeat (go_big_quiet_step ((first|(go_at_call 153;exact later_same (operands_any _ _))|(go_at_call 111;exact later_of (HC1.out _)))))
 refine wpQuiet_nil ?_
 intro w2 hw2
 have hx2:=later_out hw2
 clear hw2 k0 k7 HC1
 have HX2:=hid (HX.out.trans hx2)
 have hB2:=HB.out.ext hx2
 obtain⟨c0,c1,c2,-,c4,c5,c6,c7,-⟩:=cls hB2
 clear hB2 hx2
 go_wp2_with fail
 all_goals
  go_ret
  refine⟨ret_bool ?_,HX2.out⟩
  rw[str0_b]
  simp[*]
theorem elt_parts {w:World} {b o:Nat} {d:Nd} {ks:List Ex} {A:Option Addr} {n c:Nat} (h:EltAt w b o (.mk d ks) A n c):
  w.cell? ⟨b,o,none⟩=some (.int .i64 d.op)∧w.cell? ⟨b,o+1,none⟩=some (.string d.tb)∧w.cell? ⟨b,o+2,none⟩=some (.string d.nm)∧w.cell? ⟨b,o+3,none⟩=some (.int .i64 d.ix)∧
  w.cell? ⟨b,o+4,none⟩=some (.int .i64 d.vk)∧w.cell? ⟨b,o+5,none⟩=some (.int .i64 d.vi)∧w.cell? ⟨b,o+6,none⟩=some (.string d.vt)∧w.cell? ⟨b,o+7,none⟩=some (.slice A n c):=
 ⟨h.c0,h.c1,h.c2,h.c3,h.c4,h.c5,h.c6,h.c7⟩
theorem formed_any:∀(e:Ex) (A:Option Addr) (n c:Nat) (w:World),ExV w e A n c→Sh w→
  Calls Tryz.prog 79 #[e.d.val A n c] w fun r w'=>r= .returned (.bool e.formed)∧Ext w w':=by
 intro e
 induction e using Ex.ind with
 |h d ks ih=>
  intro A n c w hv hw
  obtain⟨h1,h2,h3,h4⟩:=hv
  have h1:ks.length=n:=h1
  have h4:KidsAt w A ks:=h4
  have h3:d.fit:=h3
  have hF:=formed_eq d ks
  rw[h1]at hF
  obtain⟨B,hB⟩:∃B,(ks.any fun x=>!x.formed)=B:=⟨_,rfl⟩
  have hFC:FC d.tb d.nm d.vt A n c w B:=by
   refine⟨h3.tb,h3.nm,h3.vt,hw,fun y=>?_⟩
   rw[←hB]
   refine contains_ex 154 ent101 _ ks A n c _ h1 h2 (h4.ext y.ext) ?_
   intro x hx A' n' c' W hW hxv
   exact formed1 x A' n' c' W fun W' hW'=>ih x hx A' n' c' W' (hxv.ext hW') (((hw.ext y.ext).ext hW).ext hW')
  rw[hB]at hF
  have hND:ndB d (ks.map Ex.d)=if d.op=2 then nameB d.nm&& (d.tb.size==0||nameB d.tb) &&d.valZ
   else if d.op=1 then d.tb.size==0&&d.nm.size==0&&d.litB
   else if d.op=16∧(((ks.map Ex.d).getD 1 d).op≠1∨((ks.map Ex.d).getD 1 d).vk≠2)then false
   else d.tb.size==0&&d.nm.size==0&&d.valZ:=rfl
  have hVZ:d.valZ=(d.vk==0&&d.vi==0&&d.vt.size==0):=rfl
  have hval:∀A,(Ex.mk d ks).d.val A n c= .agg #[.int .i64 d.op,.string d.tb,.string d.nm,.int .i64 d.ix,.int .i64 d.vk,.int .i64 d.vi,.string d.vt,.slice A n c]:=fun _=>rfl
  rw[hval,hF]
  by_cases hN:opN d.op=(n:Int)
  ·have bN:(opN d.op !=(n:Int))=false:=by rw[hN];simp
   have bN2:(opN d.op==(n:Int))=true:=by rw[hN];simp
   rw[bN2,Bool.true_and]
   cases B
   ·simp only[Bool.not_false,Bool.true_and]
    rw[hND]
    by_cases ht:d.tb.size=0
    ·have e1:=empty_yes ht
     by_cases hn:d.nm.size=0
     ·have e2:=empty_yes hn
      by_cases k2:d.op=2
      ·rw[if_pos k2,name_len0 hn]
       exact fc3a _ _ _ _ _ _ _ _ _ _ _ hFC bN (by rw[k2];rfl) (name_len0 hn)
      ·rw[if_neg k2]
       by_cases k1:d.op=1
       ·rw[if_pos k1,ht,hn]
        simp only[beq_self_eq_true,Bool.true_and]
        rw[e1,e2]at hFC ⊢
        exact fc4a _ _ _ _ _ _ _ _ _ d rfl rfl rfl hFC bN (by rw[k1];rfl) (by rw[k1];rfl)
       ·rw[if_neg k1]
        by_cases k16:d.op=16
        ·have hn2:n=2:=by
          rw[k16]at hN
          unfold opN at hN
          simp at hN
          omega
         obtain⟨x,hx⟩:=at_lt (i:=1) h1 (by omega)
         obtain⟨b,off,A',n',c',rfl,hQ⟩:=h4.get hx
         obtain⟨dx,kx⟩:=x
         rw[get1 d hx]
         have hE:=elt_parts hQ
         have b2:(d.op==2)=false:=by rw[k16];rfl
         have b1:(d.op==1)=false:=by rw[k16];rfl
         have b16:(d.op==16)=true:=by rw[k16];rfl
         by_cases o1:dx.op=1
         ·by_cases o2:dx.vk=2
          ·rw[if_neg (by rintro⟨_,h|h⟩;exact h o1;exact h o2),ht,hn,hVZ]
           simp only[beq_self_eq_true,Bool.true_and]
           rw[e1,e2]at hFC ⊢
           exact fc5e _ _ _ _ _ _ _ _ b off _ _ _ _ _ _ _ _ _ _ hE hFC bN b2 b1 b16 (by omega) (by rw[o1];rfl) (by rw[o2];rfl)
          ·rw[if_pos ⟨k16,.inr o2⟩]
           exact fc5b _ _ _ _ _ _ _ _ _ _ b off _ _ _ _ _ _ _ _ _ _ hE hFC bN b2 b1 b16 (by omega) (by rw[o1];rfl) (by simpa using o2)
         ·rw[if_pos ⟨k16,.inl o1⟩]
          exact fc5a _ _ _ _ _ _ _ _ _ _ b off _ _ _ _ _ _ _ _ _ _ hE hFC bN b2 b1 b16 (by omega) (by simpa using o1)
        ·rw[if_neg (fun h=>k16 h.1),ht,hn,hVZ]
         simp only[beq_self_eq_true,Bool.true_and]
         rw[e1,e2]at hFC ⊢
         exact fc6c _ _ _ _ _ _ _ _ _ hFC bN (by simpa using k2) (by simpa using k1) (by simpa using k16)
     ·have t1:=empty_no hn
      have t2:=empty_no2 hn
      by_cases k2:d.op=2
      ·rw[if_pos k2,ht]
       cases hx:nameB d.nm
       ·exact fc3a _ _ _ _ _ _ _ _ _ _ _ hFC bN (by rw[k2];rfl) hx
       ·rw[hVZ]
        simp only[beq_self_eq_true,Bool.true_and,Bool.true_or]
        rw[e1]at hFC ⊢
        exact fc3b _ _ _ _ _ _ _ _ _ _ hFC bN (by rw[k2];rfl) hx
      ·rw[if_neg k2]
       have z:(d.nm.size==0)=false:=by simpa using hn
       by_cases k1:d.op=1
       ·rw[if_pos k1,z]
        simp only[Bool.and_false,Bool.false_and]
        rw[e1]at hFC ⊢
        exact fc4b _ _ _ _ _ _ _ _ _ _ hFC bN (by rw[k1];rfl) (by rw[k1];rfl) t1 t2
       ·rw[if_neg k1]
        by_cases k16:d.op=16
        ·have hn2:n=2:=by
          rw[k16]at hN
          unfold opN at hN
          simp at hN
          omega
         obtain⟨x,hx⟩:=at_lt (i:=1) h1 (by omega)
         obtain⟨b,off,A',n',c',rfl,hQ⟩:=h4.get hx
         obtain⟨dx,kx⟩:=x
         rw[get1 d hx]
         have hE:=elt_parts hQ
         have b2:(d.op==2)=false:=by rw[k16];rfl
         have b1:(d.op==1)=false:=by rw[k16];rfl
         have b16:(d.op==16)=true:=by rw[k16];rfl
         by_cases o1:dx.op=1
         ·by_cases o2:dx.vk=2
          ·rw[if_neg (by rintro⟨_,h|h⟩;exact h o1;exact h o2),z]
           simp only[Bool.and_false,Bool.false_and]
           rw[e1]at hFC ⊢
           exact fc5d _ _ _ _ _ _ _ _ _ b off _ _ _ _ _ _ _ _ _ _ hE hFC bN b2 b1 b16 (by omega) (by rw[o1];rfl) (by rw[o2];rfl) t1 t2
          ·rw[if_pos ⟨k16,.inr o2⟩]
           exact fc5b _ _ _ _ _ _ _ _ _ _ b off _ _ _ _ _ _ _ _ _ _ hE hFC bN b2 b1 b16 (by omega) (by rw[o1];rfl) (by simpa using o2)
         ·rw[if_pos ⟨k16,.inl o1⟩]
          exact fc5a _ _ _ _ _ _ _ _ _ _ b off _ _ _ _ _ _ _ _ _ _ hE hFC bN b2 b1 b16 (by omega) (by simpa using o1)
        ·rw[if_neg (fun h=>k16 h.1),z]
         simp only[Bool.and_false,Bool.false_and]
         rw[e1]at hFC ⊢
         exact fc6b _ _ _ _ _ _ _ _ _ _ hFC bN (by simpa using k2) (by simpa using k1) (by simpa using k16) t1 t2
    ·have t1:=empty_no ht
     have t2:=empty_no2 ht
     have z:(d.tb.size==0)=false:=by simpa using ht
     by_cases k2:d.op=2
     ·rw[if_pos k2,z]
      cases hx:nameB d.nm
      ·exact fc3a _ _ _ _ _ _ _ _ _ _ _ hFC bN (by rw[k2];rfl) hx
      ·cases hy:nameB d.tb
       ·exact fc3c _ _ _ _ _ _ _ _ _ _ _ hFC bN (by rw[k2];rfl) hx hy t1 t2
       ·rw[hVZ]
        simp only[Bool.true_and,Bool.or_true]
        exact fc3d _ _ _ _ _ _ _ _ _ _ _ hFC bN (by rw[k2];rfl) hx hy t1 t2
     ·rw[if_neg k2]
      by_cases k1:d.op=1
      ·rw[if_pos k1,z]
       simp only[Bool.false_and]
       exact fc4c _ _ _ _ _ _ _ _ _ _ _ hFC bN (by rw[k1];rfl) (by rw[k1];rfl) t1 t2
      ·rw[if_neg k1]
       by_cases k16:d.op=16
       ·have hn2:n=2:=by
         rw[k16]at hN
         unfold opN at hN
         simp at hN
         omega
        obtain⟨x,hx⟩:=at_lt (i:=1) h1 (by omega)
        obtain⟨b,off,A',n',c',rfl,hQ⟩:=h4.get hx
        obtain⟨dx,kx⟩:=x
        rw[get1 d hx]
        have hE:=elt_parts hQ
        have b2:(d.op==2)=false:=by rw[k16];rfl
        have b1:(d.op==1)=false:=by rw[k16];rfl
        have b16:(d.op==16)=true:=by rw[k16];rfl
        by_cases o1:dx.op=1
        ·by_cases o2:dx.vk=2
         ·rw[if_neg (by rintro⟨_,h|h⟩;exact h o1;exact h o2),z]
          simp only[Bool.false_and]
          exact fc5c _ _ _ _ _ _ _ _ _ _ b off _ _ _ _ _ _ _ _ _ _ hE hFC bN b2 b1 b16 (by omega) (by rw[o1];rfl) (by rw[o2];rfl) t1 t2
         ·rw[if_pos ⟨k16,.inr o2⟩]
          exact fc5b _ _ _ _ _ _ _ _ _ _ b off _ _ _ _ _ _ _ _ _ _ hE hFC bN b2 b1 b16 (by omega) (by rw[o1];rfl) (by simpa using o2)
        ·rw[if_pos ⟨k16,.inl o1⟩]
         exact fc5a _ _ _ _ _ _ _ _ _ _ b off _ _ _ _ _ _ _ _ _ _ hE hFC bN b2 b1 b16 (by omega) (by simpa using o1)
       ·rw[if_neg (fun h=>k16 h.1),z]
        simp only[Bool.false_and]
        exact fc6a _ _ _ _ _ _ _ _ _ _ _ hFC bN (by simpa using k2) (by simpa using k1) (by simpa using k16) t1 t2
   ·simp only[Bool.not_true,Bool.false_and]
    exact fc2 _ _ _ _ _ _ _ _ _ _ _ hFC bN
  ·have bN:(opN d.op !=(n:Int))=true:=by simpa using hN
   have bN2:(opN d.op==(n:Int))=false:=by simpa using hN
   rw[bN2]
   simp only[Bool.false_and]
   exact fc1 _ _ _ _ _ _ _ _ _ _ _ B hFC bN
end Go.Proofs.YtjigcpfjhfoheaaGreatDoor
