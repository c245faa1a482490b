/- Walks: the reference's Formed; Formed returns whether an expression is well-formed; Walks: equality of expressions. -/
import Derived.Test.YtjigcpfjhfoheaaGreatDoorEah
namespace Go.Proofs.YtjigcpfjhfoheaaGreatDoor
open Go.RowKit
set_option maxHeartbeats 4000000
set_option maxRecDepth 100000
set_option linter.unusedVariables false
set_option linter.unusedSimpArgs false
structure RC (ks:List Ex) (tb nm vt:ByteArray) (A:Option Addr) (n c:Nat) (w:World):Prop where
 tb:tb.size≤9223372036854775807
 nm:nm.size≤9223372036854775807
 vt:vt.size≤9223372036854775807
 len:ks.length=n
 le:n≤9223372036854775807
 kids:KidsAt w A ks
 call:∀x∈ks,∀(A':Option Addr) (n' c':Nat) (W:World),ExV W x A' n' c'→Calls Tryz.prog 84 #[x.d.val A' n' c'] W fun r W'=>r= .returned (.bool x.formed)∧Ext W W'
theorem rc1 (op:Int) (tb nm vt:ByteArray) (ix vk vi:Int) (A:Option Addr) (n c:Nat) (w:World) (ks:List Ex) (h:RC ks tb nm vt A n c w) (bN:(opN op !=(n:Int))=true):
  Calls Tryz.prog 84 #[.agg #[.int .i64 op,.string tb,.string nm,.int .i64 ix,.int .i64 vk,.int .i64 vi,.string vt,.slice A n c]] w fun r w'=>r= .returned (.bool false)∧Ext w w':=by
 have H:=hid h
 clear h
 have HB:=hid (Blk.of_new w 37 (eC op tb nm ix vk vi vt A n c))
 have HX:=hid ((Ext.refl w).alloc (.cells #[.int .i64 op,.string tb,.string nm,.int .i64 ix,.int .i64 vk,.int .i64 vi,.string vt,.slice A n c] 37))
 have hle:=H.out.le
 go_enter Tryz.func84,Tryz.ntmps84
 go_wp2_with fail
 generalize w.alloc (.cells #[.int .i64 op,.string tb,.string nm,.int .i64 ix,.int .i64 vk,.int .i64 vi,.string vt,.slice A n c] 37)=w1 at*
 generalize w.heap.size=g at*
 obtain⟨k0,-,-,-,-,-,-,k7,-⟩:=lks HB.out
 refine wp_region_later (by kernel_rfl) (by kernel_rfl) ?_
 repeat (go_big_quiet_step ((go_at_call 158;exact later_same (args_any _ _))))
 refine wpQuiet_nil ?_
 intro w2 hw2
 have hx2:=later_out hw2
 clear hw2 k0 k7
 have HX2:=hid (HX.out.trans hx2)
 have HB2:=hid (HB.out.ext hx2)
 clear hx2
 go_wp2_with fail
 go_ret
 exact⟨rfl,HX2.out⟩
theorem rc2 (op:Int) (tb nm vt:ByteArray) (ix vk vi:Int) (A:Option Addr) (n c:Nat) (w:World) (ks:List Ex) (h:RC ks tb nm vt A n c w) (HAll:Hid (ks.any (fun x=>!x.formed)=true)) (bN:(opN op !=(n:Int))=false):
  Calls Tryz.prog 84 #[.agg #[.int .i64 op,.string tb,.string nm,.int .i64 ix,.int .i64 vk,.int .i64 vi,.string vt,.slice A n c]] w fun r w'=>r= .returned (.bool false)∧Ext w w':=by
 have H:=hid h
 clear h
 have HB:=hid (Blk.of_new w 37 (eC op tb nm ix vk vi vt A n c))
 have HX:=hid ((Ext.refl w).alloc (.cells #[.int .i64 op,.string tb,.string nm,.int .i64 ix,.int .i64 vk,.int .i64 vi,.string vt,.slice A n c] 37))
 have hle:=H.out.le
 go_enter Tryz.func84,Tryz.ntmps84
 go_wp2_with fail
 generalize w.alloc (.cells #[.int .i64 op,.string tb,.string nm,.int .i64 ix,.int .i64 vk,.int .i64 vi,.string vt,.slice A n c] 37)=w1 at*
 generalize w.heap.size=g at*
 obtain⟨k0,-,-,-,-,-,-,k7,-⟩:=lks HB.out
 refine wp_region_later (by kernel_rfl) (by kernel_rfl) ?_
 repeat (go_big_quiet_step ((go_at_call 158;exact later_same (args_any _ _))))
 refine wpQuiet_nil ?_
 intro w2 hw2
 have hx2:=later_out hw2
 clear hw2 k0 k7
 have HX2:=hid (HX.out.trans hx2)
 have HB2:=hid (HB.out.ext hx2)
 clear hx2
 go_wp2_with fail
 go_loopw [3] (fun iv wr=> ∃k:Nat,k≤n∧iv= .int .i64 k∧(ks.take k).any (fun x=>!x.formed)=false∧Ext w2 wr) (fun i _=>n- (intOf i).toNat)
 case atStart=>exact⟨0,Nat.zero_le _,rfl,rfl,Ext.refl w2⟩
 case round=>
  obtain⟨k,hk,rfl,hv,hxr⟩:=hrel
  have HXr:=hid hxr
  have HVr:=hid hv
  have hBr:=HB2.out.ext hxr
  obtain⟨c0,c1,c2,-,c4,c5,c6,c7,-⟩:=cls hBr
  clear hBr hv
  by_cases hlt:k<n
  ·obtain⟨e',he⟩:=at_lt H.out.len hlt
   obtain⟨b',off',A',n',c',hA,q0,q1,q2,q3,q4,q5,q6,q7,hv'⟩:=((H.out.kids.ext HX2.out).ext hxr).get he
   subst hA
   have HC:=hid (H.out.call e' (mem_at he) A' n' c' _ hv')
   obtain⟨z,hz⟩:∃z,e'.formed=z:=⟨_,rfl⟩
   have HFm:=hid hz
   have HV1:Hid (z=true→(ks.take (k+1)).any (fun x=>!x.formed)=false):=fun h=>any_step he HVr.out (by simp[hz,h])
   clear hz
   clear he hv' hxr
   cases z
   ·go_wp2_with (go_at_call 84;refine HC.out.mono ?_;rintro _ w3 ⟨rfl,hx3⟩;rw[HFm.out])
    go_ret
    exact⟨rfl,(HX2.out.trans HXr.out).trans hx3⟩
   ·go_wp2_with (go_at_call 84;refine HC.out.mono ?_;rintro _ w3 ⟨rfl,hx3⟩;rw[HFm.out])
    go_roundw
    case rel=>exact⟨k+1,by omega,by go_num,HV1.out (by first|rfl|trivial),HXr.out.trans hx3⟩
    case measure=>simp[intOf];omega
  ·obtain rfl:k=n:=by omega
   have HX3:=hid (HX2.out.trans HXr.out)
   exact absurd (any_end H.out.len HVr.out) (by rw[HAll.out];simp)
theorem rc3a (op:Int) (tb nm vt:ByteArray) (ix vk vi:Int) (A:Option Addr) (n c:Nat) (w:World) (ks:List Ex) (h:RC ks tb nm vt A n c w) (HAll:Hid (ks.any (fun x=>!x.formed)=false)) (bN:(opN op !=(n:Int))=false) (b2:(op==2)=true) (HN1:Hid (nameB nm=false)):
  Calls Tryz.prog 84 #[.agg #[.int .i64 op,.string tb,.string nm,.int .i64 ix,.int .i64 vk,.int .i64 vi,.string vt,.slice A n c]] w fun r w'=>r= .returned (.bool false)∧Ext w w':=by
 have H:=hid h
 clear h
 have HB:=hid (Blk.of_new w 37 (eC op tb nm ix vk vi vt A n c))
 have HX:=hid ((Ext.refl w).alloc (.cells #[.int .i64 op,.string tb,.string nm,.int .i64 ix,.int .i64 vk,.int .i64 vi,.string vt,.slice A n c] 37))
 have hle:=H.out.le
 go_enter Tryz.func84,Tryz.ntmps84
 go_wp2_with fail
 generalize w.alloc (.cells #[.int .i64 op,.string tb,.string nm,.int .i64 ix,.int .i64 vk,.int .i64 vi,.string vt,.slice A n c] 37)=w1 at*
 generalize w.heap.size=g at*
 obtain⟨k0,-,-,-,-,-,-,k7,-⟩:=lks HB.out
 refine wp_region_later (by kernel_rfl) (by kernel_rfl) ?_
 repeat (go_big_quiet_step ((go_at_call 158;exact later_same (args_any _ _))))
 refine wpQuiet_nil ?_
 intro w2 hw2
 have hx2:=later_out hw2
 clear hw2 k0 k7
 have HX2:=hid (HX.out.trans hx2)
 have HB2:=hid (HB.out.ext hx2)
 clear hx2
 go_wp2_with fail
 go_loopw [3] (fun iv wr=> ∃k:Nat,k≤n∧iv= .int .i64 k∧(ks.take k).any (fun x=>!x.formed)=false∧Ext w2 wr) (fun i _=>n- (intOf i).toNat)
 case atStart=>exact⟨0,Nat.zero_le _,rfl,rfl,Ext.refl w2⟩
 case round=>
  obtain⟨k,hk,rfl,hv,hxr⟩:=hrel
  have HXr:=hid hxr
  have HVr:=hid hv
  have hBr:=HB2.out.ext hxr
  obtain⟨c0,c1,c2,-,c4,c5,c6,c7,-⟩:=cls hBr
  clear hBr hv
  by_cases hlt:k<n
  ·obtain⟨e',he⟩:=at_lt H.out.len hlt
   obtain⟨b',off',A',n',c',hA,q0,q1,q2,q3,q4,q5,q6,q7,hv'⟩:=((H.out.kids.ext HX2.out).ext hxr).get he
   subst hA
   have HC:=hid (H.out.call e' (mem_at he) A' n' c' _ hv')
   have HFm:Hid (e'.formed=true):=by
    unfold Hid
    cases hf:e'.formed
    ·rw[any_take (p:=fun x=>!x.formed) he (by simp[hf])]at HAll
     exact absurd HAll.out (by simp)
    ·rfl
   have HV1:Hid ((ks.take (k+1)).any (fun x=>!x.formed)=false):=any_step he HVr.out (by simp[HFm.out])
   clear he hv' hxr
   go_wp2_with (go_at_call 84;refine HC.out.mono ?_;rintro _ w3 ⟨rfl,hx3⟩;rw[HFm.out])
   go_roundw
   case rel=>exact⟨k+1,by omega,by go_num,HV1.out,HXr.out.trans hx3⟩
   case measure=>simp[intOf];omega
  ·obtain rfl:k=n:=by omega
   have HX3:=hid (HX2.out.trans HXr.out)
   go_wp2_with (go_at_call 144;(with_reducible refine(rname_any nm _ H.out.nm).mono ?_);rintro _ w4 ⟨rfl,hx4⟩;rw[HN1.out];have d4:=hx4.keep c4;have d5:=hx4.keep c5;have d6:=hx4.keep c6;have d1:=hx4.keep c1)
   go_ret
   exact⟨rfl,HX3.out.trans hx4⟩
theorem rc3b (op:Int) (nm vt:ByteArray) (ix vk vi:Int) (A:Option Addr) (n c:Nat) (w:World) (ks:List Ex) (h:RC ks ⟨#[]⟩ nm vt A n c w) (HAll:Hid (ks.any (fun x=>!x.formed)=false)) (bN:(opN op !=(n:Int))=false) (b2:(op==2)=true) (HN1:Hid (nameB nm=true)):
  Calls Tryz.prog 84 #[.agg #[.int .i64 op,.string ⟨#[]⟩,.string nm,.int .i64 ix,.int .i64 vk,.int .i64 vi,.string vt,.slice A n c]] w fun r w'=>r= .returned (.bool (vk==0&&vi==0&&vt.size==0))∧Ext w w':=by
 have H:=hid h
 clear h
 have HB:=hid (Blk.of_new w 37 (eC op ⟨#[]⟩ nm ix vk vi vt A n c))
 have HX:=hid ((Ext.refl w).alloc (.cells #[.int .i64 op,.string ⟨#[]⟩,.string nm,.int .i64 ix,.int .i64 vk,.int .i64 vi,.string vt,.slice A n c] 37))
 have hle:=H.out.le
 go_enter Tryz.func84,Tryz.ntmps84
 go_wp2_with fail
 generalize w.alloc (.cells #[.int .i64 op,.string ⟨#[]⟩,.string nm,.int .i64 ix,.int .i64 vk,.int .i64 vi,.string vt,.slice A n c] 37)=w1 at*
 generalize w.heap.size=g at*
 obtain⟨k0,-,-,-,-,-,-,k7,-⟩:=lks HB.out
 refine wp_region_later (by kernel_rfl) (by kernel_rfl) ?_
 repeat (go_big_quiet_step ((go_at_call 158;exact later_same (args_any _ _))))
 refine wpQuiet_nil ?_
 intro w2 hw2
 have hx2:=later_out hw2
 clear hw2 k0 k7
 have HX2:=hid (HX.out.trans hx2)
 have HB2:=hid (HB.out.ext hx2)
 clear hx2
 go_wp2_with fail
 go_loopw [3] (fun iv wr=> ∃k:Nat,k≤n∧iv= .int .i64 k∧(ks.take k).any (fun x=>!x.formed)=false∧Ext w2 wr) (fun i _=>n- (intOf i).toNat)
 case atStart=>exact⟨0,Nat.zero_le _,rfl,rfl,Ext.refl w2⟩
 case round=>
  obtain⟨k,hk,rfl,hv,hxr⟩:=hrel
  have HXr:=hid hxr
  have HVr:=hid hv
  have hBr:=HB2.out.ext hxr
  obtain⟨c0,c1,c2,-,c4,c5,c6,c7,-⟩:=cls hBr
  clear hBr hv
  by_cases hlt:k<n
  ·obtain⟨e',he⟩:=at_lt H.out.len hlt
   obtain⟨b',off',A',n',c',hA,q0,q1,q2,q3,q4,q5,q6,q7,hv'⟩:=((H.out.kids.ext HX2.out).ext hxr).get he
   subst hA
   have HC:=hid (H.out.call e' (mem_at he) A' n' c' _ hv')
   have HFm:Hid (e'.formed=true):=by
    unfold Hid
    cases hf:e'.formed
    ·rw[any_take (p:=fun x=>!x.formed) he (by simp[hf])]at HAll
     exact absurd HAll.out (by simp)
    ·rfl
   have HV1:Hid ((ks.take (k+1)).any (fun x=>!x.formed)=false):=any_step he HVr.out (by simp[HFm.out])
   clear he hv' hxr
   go_wp2_with (go_at_call 84;refine HC.out.mono ?_;rintro _ w3 ⟨rfl,hx3⟩;rw[HFm.out])
   go_roundw
   case rel=>exact⟨k+1,by omega,by go_num,HV1.out,HXr.out.trans hx3⟩
   case measure=>simp[intOf];omega
  ·obtain rfl:k=n:=by omega
   have HX3:=hid (HX2.out.trans HXr.out)
   go_wp2_with (go_at_call 144;(with_reducible refine(rname_any nm _ H.out.nm).mono ?_);rintro _ w4 ⟨rfl,hx4⟩;rw[HN1.out];have d4:=hx4.keep c4;have d5:=hx4.keep c5;have d6:=hx4.keep c6;have d1:=hx4.keep c1)
   all_goals
    go_ret
    refine⟨ret_bool ?_,HX3.out.trans hx4⟩
    rw[str0_b]
    simp[*]
theorem rc3c (op:Int) (tb nm vt:ByteArray) (ix vk vi:Int) (A:Option Addr) (n c:Nat) (w:World) (ks:List Ex) (h:RC ks tb nm vt A n c w) (HAll:Hid (ks.any (fun x=>!x.formed)=false)) (bN:(opN op !=(n:Int))=false) (b2:(op==2)=true) (HN1:Hid (nameB nm=true)) (HN2:Hid (nameB tb=false)) (t1:¬tb.toList= []) (t2:tb.toList.isEmpty=false):
  Calls Tryz.prog 84 #[.agg #[.int .i64 op,.string tb,.string nm,.int .i64 ix,.int .i64 vk,.int .i64 vi,.string vt,.slice A n c]] w fun r w'=>r= .returned (.bool false)∧Ext w w':=by
 have H:=hid h
 clear h
 have HB:=hid (Blk.of_new w 37 (eC op tb nm ix vk vi vt A n c))
 have HX:=hid ((Ext.refl w).alloc (.cells #[.int .i64 op,.string tb,.string nm,.int .i64 ix,.int .i64 vk,.int .i64 vi,.string vt,.slice A n c] 37))
 have hle:=H.out.le
 go_enter Tryz.func84,Tryz.ntmps84
 go_wp2_with fail
 generalize w.alloc (.cells #[.int .i64 op,.string tb,.string nm,.int .i64 ix,.int .i64 vk,.int .i64 vi,.string vt,.slice A n c] 37)=w1 at*
 generalize w.heap.size=g at*
 obtain⟨k0,-,-,-,-,-,-,k7,-⟩:=lks HB.out
 refine wp_region_later (by kernel_rfl) (by kernel_rfl) ?_
 repeat (go_big_quiet_step ((go_at_call 158;exact later_same (args_any _ _))))
 refine wpQuiet_nil ?_
 intro w2 hw2
 have hx2:=later_out hw2
 clear hw2 k0 k7
 have HX2:=hid (HX.out.trans hx2)
 have HB2:=hid (HB.out.ext hx2)
 clear hx2
 go_wp2_with fail
 go_loopw [3] (fun iv wr=> ∃k:Nat,k≤n∧iv= .int .i64 k∧(ks.take k).any (fun x=>!x.formed)=false∧Ext w2 wr) (fun i _=>n- (intOf i).toNat)
 case atStart=>exact⟨0,Nat.zero_le _,rfl,rfl,Ext.refl w2⟩
 case round=>
  obtain⟨k,hk,rfl,hv,hxr⟩:=hrel
  have HXr:=hid hxr
  have HVr:=hid hv
  have hBr:=HB2.out.ext hxr
  obtain⟨c0,c1,c2,-,c4,c5,c6,c7,-⟩:=cls hBr
  clear hBr hv
  by_cases hlt:k<n
  ·obtain⟨e',he⟩:=at_lt H.out.len hlt
   obtain⟨b',off',A',n',c',hA,q0,q1,q2,q3,q4,q5,q6,q7,hv'⟩:=((H.out.kids.ext HX2.out).ext hxr).get he
   subst hA
   have HC:=hid (H.out.call e' (mem_at he) A' n' c' _ hv')
   have HFm:Hid (e'.formed=true):=by
    unfold Hid
    cases hf:e'.formed
    ·rw[any_take (p:=fun x=>!x.formed) he (by simp[hf])]at HAll
     exact absurd HAll.out (by simp)
    ·rfl
   have HV1:Hid ((ks.take (k+1)).any (fun x=>!x.formed)=false):=any_step he HVr.out (by simp[HFm.out])
   clear he hv' hxr
   go_wp2_with (go_at_call 84;refine HC.out.mono ?_;rintro _ w3 ⟨rfl,hx3⟩;rw[HFm.out])
   go_roundw
   case rel=>exact⟨k+1,by omega,by go_num,HV1.out,HXr.out.trans hx3⟩
   case measure=>simp[intOf];omega
  ·obtain rfl:k=n:=by omega
   have HX3:=hid (HX2.out.trans HXr.out)
   go_wp2_with (first|(go_at_call 144;(with_reducible refine(rname_any nm _ H.out.nm).mono ?_);rintro _ w4 ⟨rfl,hx4⟩;rw[HN1.out];have d4:=hx4.keep c4;have d5:=hx4.keep c5;have d6:=hx4.keep c6;have d1:=hx4.keep c1)|(go_at_call 144;(with_reducible refine(rname_any tb _ H.out.tb).mono ?_);rintro _ w5 ⟨rfl,hx5⟩;rw[HN2.out];have f4:=hx5.keep d4;have f5:=hx5.keep d5;have f6:=hx5.keep d6))
   go_ret
   exact⟨rfl,(HX3.out.trans hx4).trans hx5⟩
theorem rc3d (op:Int) (tb nm vt:ByteArray) (ix vk vi:Int) (A:Option Addr) (n c:Nat) (w:World) (ks:List Ex) (h:RC ks tb nm vt A n c w) (HAll:Hid (ks.any (fun x=>!x.formed)=false)) (bN:(opN op !=(n:Int))=false) (b2:(op==2)=true) (HN1:Hid (nameB nm=true)) (HN2:Hid (nameB tb=true)) (t1:¬tb.toList= []) (t2:tb.toList.isEmpty=false):
  Calls Tryz.prog 84 #[.agg #[.int .i64 op,.string tb,.string nm,.int .i64 ix,.int .i64 vk,.int .i64 vi,.string vt,.slice A n c]] w fun r w'=>r= .returned (.bool (vk==0&&vi==0&&vt.size==0))∧Ext w w':=by
 have H:=hid h
 clear h
 have HB:=hid (Blk.of_new w 37 (eC op tb nm ix vk vi vt A n c))
 have HX:=hid ((Ext.refl w).alloc (.cells #[.int .i64 op,.string tb,.string nm,.int .i64 ix,.int .i64 vk,.int .i64 vi,.string vt,.slice A n c] 37))
 have hle:=H.out.le
 go_enter Tryz.func84,Tryz.ntmps84
 go_wp2_with fail
 generalize w.alloc (.cells #[.int .i64 op,.string tb,.string nm,.int .i64 ix,.int .i64 vk,.int .i64 vi,.string vt,.slice A n c] 37)=w1 at*
 generalize w.heap.size=g at*
 obtain⟨k0,-,-,-,-,-,-,k7,-⟩:=lks HB.out
 refine wp_region_later (by kernel_rfl) (by kernel_rfl) ?_
 repeat (go_big_quiet_step ((go_at_call 158;exact later_same (args_any _ _))))
 refine wpQuiet_nil ?_
 intro w2 hw2
 have hx2:=later_out hw2
 clear hw2 k0 k7
 have HX2:=hid (HX.out.trans hx2)
 have HB2:=hid (HB.out.ext hx2)
 clear hx2
 go_wp2_with fail
 go_loopw [3] (fun iv wr=> ∃k:Nat,k≤n∧iv= .int .i64 k∧(ks.take k).any (fun x=>!x.formed)=false∧Ext w2 wr) (fun i _=>n- (intOf i).toNat)
 case atStart=>exact⟨0,Nat.zero_le _,rfl,rfl,Ext.refl w2⟩
 case round=>
  obtain⟨k,hk,rfl,hv,hxr⟩:=hrel
  have HXr:=hid hxr
  have HVr:=hid hv
  have hBr:=HB2.out.ext hxr
  obtain⟨c0,c1,c2,-,c4,c5,c6,c7,-⟩:=cls hBr
  clear hBr hv
  by_cases hlt:k<n
  ·obtain⟨e',he⟩:=at_lt H.out.len hlt
   obtain⟨b',off',A',n',c',hA,q0,q1,q2,q3,q4,q5,q6,q7,hv'⟩:=((H.out.kids.ext HX2.out).ext hxr).get he
   subst hA
   have HC:=hid (H.out.call e' (mem_at he) A' n' c' _ hv')
   have HFm:Hid (e'.formed=true):=by
    unfold Hid
    cases hf:e'.formed
    ·rw[any_take (p:=fun x=>!x.formed) he (by simp[hf])]at HAll
     exact absurd HAll.out (by simp)
    ·rfl
   have HV1:Hid ((ks.take (k+1)).any (fun x=>!x.formed)=false):=any_step he HVr.out (by simp[HFm.out])
   clear he hv' hxr
   go_wp2_with (go_at_call 84;refine HC.out.mono ?_;rintro _ w3 ⟨rfl,hx3⟩;rw[HFm.out])
   go_roundw
   case rel=>exact⟨k+1,by omega,by go_num,HV1.out,HXr.out.trans hx3⟩
   case measure=>simp[intOf];omega
  ·obtain rfl:k=n:=by omega
   have HX3:=hid (HX2.out.trans HXr.out)
   go_wp2_with (first|(go_at_call 144;(with_reducible refine(rname_any nm _ H.out.nm).mono ?_);rintro _ w4 ⟨rfl,hx4⟩;rw[HN1.out];have d4:=hx4.keep c4;have d5:=hx4.keep c5;have d6:=hx4.keep c6;have d1:=hx4.keep c1)|(go_at_call 144;(with_reducible refine(rname_any tb _ H.out.tb).mono ?_);rintro _ w5 ⟨rfl,hx5⟩;rw[HN2.out];have f4:=hx5.keep d4;have f5:=hx5.keep d5;have f6:=hx5.keep d6))
   all_goals
    go_ret
    refine⟨ret_bool ?_,(HX3.out.trans hx4).trans hx5⟩
    rw[str0_b]
    simp[*]
theorem rc4a (op:Int) (tb nm vt:ByteArray) (ix vk vi:Int) (A:Option Addr) (n c:Nat) (w:World) (ks:List Ex) (h:RC ks tb nm vt A n c w) (HAll:Hid (ks.any (fun x=>!x.formed)=false)) (bN:(opN op !=(n:Int))=false) (b2:(op==2)=false) (t1:¬tb.toList= []) (t2:tb.toList.isEmpty=false):
  Calls Tryz.prog 84 #[.agg #[.int .i64 op,.string tb,.string nm,.int .i64 ix,.int .i64 vk,.int .i64 vi,.string vt,.slice A n c]] w fun r w'=>r= .returned (.bool false)∧Ext w w':=by
 have H:=hid h
 clear h
 have HB:=hid (Blk.of_new w 37 (eC op tb nm ix vk vi vt A n c))
 have HX:=hid ((Ext.refl w).alloc (.cells #[.int .i64 op,.string tb,.string nm,.int .i64 ix,.int .i64 vk,.int .i64 vi,.string vt,.slice A n c] 37))
 have hle:=H.out.le
 go_enter Tryz.func84,Tryz.ntmps84
 go_wp2_with fail
 generalize w.alloc (.cells #[.int .i64 op,.string tb,.string nm,.int .i64 ix,.int .i64 vk,.int .i64 vi,.string vt,.slice A n c] 37)=w1 at*
 generalize w.heap.size=g at*
 obtain⟨k0,-,-,-,-,-,-,k7,-⟩:=lks HB.out
 refine wp_region_later (by kernel_rfl) (by kernel_rfl) ?_
 repeat (go_big_quiet_step ((go_at_call 158;exact later_same (args_any _ _))))
 refine wpQuiet_nil ?_
 intro w2 hw2
 have hx2:=later_out hw2
 clear hw2 k0 k7
 have HX2:=hid (HX.out.trans hx2)
 have HB2:=hid (HB.out.ext hx2)
 clear hx2
 go_wp2_with fail
 go_loopw [3] (fun iv wr=> ∃k:Nat,k≤n∧iv= .int .i64 k∧(ks.take k).any (fun x=>!x.formed)=false∧Ext w2 wr) (fun i _=>n- (intOf i).toNat)
 case atStart=>exact⟨0,Nat.zero_le _,rfl,rfl,Ext.refl w2⟩
 case round=>
  obtain⟨k,hk,rfl,hv,hxr⟩:=hrel
  have HXr:=hid hxr
  have HVr:=hid hv
  have hBr:=HB2.out.ext hxr
  obtain⟨c0,c1,c2,-,c4,c5,c6,c7,-⟩:=cls hBr
  clear hBr hv
  by_cases hlt:k<n
  ·obtain⟨e',he⟩:=at_lt H.out.len hlt
   obtain⟨b',off',A',n',c',hA,q0,q1,q2,q3,q4,q5,q6,q7,hv'⟩:=((H.out.kids.ext HX2.out).ext hxr).get he
   subst hA
   have HC:=hid (H.out.call e' (mem_at he) A' n' c' _ hv')
   have HFm:Hid (e'.formed=true):=by
    unfold Hid
    cases hf:e'.formed
    ·rw[any_take (p:=fun x=>!x.formed) he (by simp[hf])]at HAll
     exact absurd HAll.out (by simp)
    ·rfl
   have HV1:Hid ((ks.take (k+1)).any (fun x=>!x.formed)=false):=any_step he HVr.out (by simp[HFm.out])
   clear he hv' hxr
   go_wp2_with (go_at_call 84;refine HC.out.mono ?_;rintro _ w3 ⟨rfl,hx3⟩;rw[HFm.out])
   go_roundw
   case rel=>exact⟨k+1,by omega,by go_num,HV1.out,HXr.out.trans hx3⟩
   case measure=>simp[intOf];omega
  ·obtain rfl:k=n:=by omega
   have HX3:=hid (HX2.out.trans HXr.out)
   go_wp2_with fail
   go_ret
   exact⟨rfl,HX3.out⟩
theorem rc4b (op:Int) (nm vt:ByteArray) (ix vk vi:Int) (A:Option Addr) (n c:Nat) (w:World) (ks:List Ex) (h:RC ks ⟨#[]⟩ nm vt A n c w) (HAll:Hid (ks.any (fun x=>!x.formed)=false)) (bN:(opN op !=(n:Int))=false) (b2:(op==2)=false) (t1:¬nm.toList= []) (t2:nm.toList.isEmpty=false):
  Calls Tryz.prog 84 #[.agg #[.int .i64 op,.string ⟨#[]⟩,.string nm,.int .i64 ix,.int .i64 vk,.int .i64 vi,.string vt,.slice A n c]] w fun r w'=>r= .returned (.bool false)∧Ext w w':=by
 have H:=hid h
 clear h
 have HB:=hid (Blk.of_new w 37 (eC op ⟨#[]⟩ nm ix vk vi vt A n c))
 have HX:=hid ((Ext.refl w).alloc (.cells #[.int .i64 op,.string ⟨#[]⟩,.string nm,.int .i64 ix,.int .i64 vk,.int .i64 vi,.string vt,.slice A n c] 37))
 have hle:=H.out.le
 go_enter Tryz.func84,Tryz.ntmps84
 go_wp2_with fail
 generalize w.alloc (.cells #[.int .i64 op,.string ⟨#[]⟩,.string nm,.int .i64 ix,.int .i64 vk,.int .i64 vi,.string vt,.slice A n c] 37)=w1 at*
 generalize w.heap.size=g at*
 obtain⟨k0,-,-,-,-,-,-,k7,-⟩:=lks HB.out
 refine wp_region_later (by kernel_rfl) (by kernel_rfl) ?_
 repeat (go_big_quiet_step ((go_at_call 158;exact later_same (args_any _ _))))
 refine wpQuiet_nil ?_
 intro w2 hw2
 have hx2:=later_out hw2
 clear hw2 k0 k7
 have HX2:=hid (HX.out.trans hx2)
 have HB2:=hid (HB.out.ext hx2)
 clear hx2
 go_wp2_with fail
 go_loopw [3] (fun iv wr=> ∃k:Nat,k≤n∧iv= .int .i64 k∧(ks.take k).any (fun x=>!x.formed)=false∧Ext w2 wr) (fun i _=>n- (intOf i).toNat)
 case atStart=>exact⟨0,Nat.zero_le _,rfl,rfl,Ext.refl w2⟩
 case round=>
  obtain⟨k,hk,rfl,hv,hxr⟩:=hrel
  have HXr:=hid hxr
  have HVr:=hid hv
  have hBr:=HB2.out.ext hxr
  obtain⟨c0,c1,c2,-,c4,c5,c6,c7,-⟩:=cls hBr
  clear hBr hv
  by_cases hlt:k<n
  ·obtain⟨e',he⟩:=at_lt H.out.len hlt
   obtain⟨b',off',A',n',c',hA,q0,q1,q2,q3,q4,q5,q6,q7,hv'⟩:=((H.out.kids.ext HX2.out).ext hxr).get he
   subst hA
   have HC:=hid (H.out.call e' (mem_at he) A' n' c' _ hv')
   have HFm:Hid (e'.formed=true):=by
    unfold Hid
    cases hf:e'.formed
    ·rw[any_take (p:=fun x=>!x.formed) he (by simp[hf])]at HAll
     exact absurd HAll.out (by simp)
    ·rfl
   have HV1:Hid ((ks.take (k+1)).any (fun x=>!x.formed)=false):=any_step he HVr.out (by simp[HFm.out])
   clear he hv' hxr
   go_wp2_with (go_at_call 84;refine HC.out.mono ?_;rintro _ w3 ⟨rfl,hx3⟩;rw[HFm.out])
   go_roundw
   case rel=>exact⟨k+1,by omega,by go_num,HV1.out,HXr.out.trans hx3⟩
   case measure=>simp[intOf];omega
  ·obtain rfl:k=n:=by omega
   have HX3:=hid (HX2.out.trans HXr.out)
   go_wp2_with fail
   go_ret
   exact⟨rfl,HX3.out⟩
theorem rc5 (op:Int) (vt:ByteArray) (ix vk vi:Int) (A:Option Addr) (n c:Nat) (w:World) (ks:List Ex) (d:Nd) (e0:d.vk=vk) (e1:d.vi=vi) (e2:d.vt=vt) (h:RC ks ⟨#[]⟩ ⟨#[]⟩ vt A n c w) (HAll:Hid (ks.any (fun x=>!x.formed)=false)) (bN:(opN op !=(n:Int))=false) (b2:(op==2)=false) (b1:(op==1)=true):
  Calls Tryz.prog 84 #[.agg #[.int .i64 op,.string ⟨#[]⟩,.string ⟨#[]⟩,.int .i64 ix,.int .i64 vk,.int .i64 vi,.string vt,.slice A n c]] w fun r w'=>r= .returned (.bool d.litB)∧Ext w w':=by
 have H:=hid h
 clear h
 have HLit:=hid (fun W=>rliteral_any vk vi vt W H.out.vt d e0 e1 e2)
 clear e0 e1 e2
 have HB:=hid (Blk.of_new w 37 (eC op ⟨#[]⟩ ⟨#[]⟩ ix vk vi vt A n c))
 have HX:=hid ((Ext.refl w).alloc (.cells #[.int .i64 op,.string ⟨#[]⟩,.string ⟨#[]⟩,.int .i64 ix,.int .i64 vk,.int .i64 vi,.string vt,.slice A n c] 37))
 have hle:=H.out.le
 go_enter Tryz.func84,Tryz.ntmps84
 go_wp2_with fail
 generalize w.alloc (.cells #[.int .i64 op,.string ⟨#[]⟩,.string ⟨#[]⟩,.int .i64 ix,.int .i64 vk,.int .i64 vi,.string vt,.slice A n c] 37)=w1 at*
 generalize w.heap.size=g at*
 obtain⟨k0,-,-,-,-,-,-,k7,-⟩:=lks HB.out
 refine wp_region_later (by kernel_rfl) (by kernel_rfl) ?_
 repeat (go_big_quiet_step ((go_at_call 158;exact later_same (args_any _ _))))
 refine wpQuiet_nil ?_
 intro w2 hw2
 have hx2:=later_out hw2
 clear hw2 k0 k7
 have HX2:=hid (HX.out.trans hx2)
 have HB2:=hid (HB.out.ext hx2)
 clear hx2
 go_wp2_with fail
 go_loopw [3] (fun iv wr=> ∃k:Nat,k≤n∧iv= .int .i64 k∧(ks.take k).any (fun x=>!x.formed)=false∧Ext w2 wr) (fun i _=>n- (intOf i).toNat)
 case atStart=>exact⟨0,Nat.zero_le _,rfl,rfl,Ext.refl w2⟩
 case round=>
  obtain⟨k,hk,rfl,hv,hxr⟩:=hrel
  have HXr:=hid hxr
  have HVr:=hid hv
  have hBr:=HB2.out.ext hxr
  obtain⟨c0,c1,c2,-,c4,c5,c6,c7,-⟩:=cls hBr
  clear hBr hv
  by_cases hlt:k<n
  ·obtain⟨e',he⟩:=at_lt H.out.len hlt
   obtain⟨b',off',A',n',c',hA,q0,q1,q2,q3,q4,q5,q6,q7,hv'⟩:=((H.out.kids.ext HX2.out).ext hxr).get he
   subst hA
   have HC:=hid (H.out.call e' (mem_at he) A' n' c' _ hv')
   have HFm:Hid (e'.formed=true):=by
    unfold Hid
    cases hf:e'.formed
    ·rw[any_take (p:=fun x=>!x.formed) he (by simp[hf])]at HAll
     exact absurd HAll.out (by simp)
    ·rfl
   have HV1:Hid ((ks.take (k+1)).any (fun x=>!x.formed)=false):=any_step he HVr.out (by simp[HFm.out])
   clear he hv' hxr
   go_wp2_with (go_at_call 84;refine HC.out.mono ?_;rintro _ w3 ⟨rfl,hx3⟩;rw[HFm.out])
   go_roundw
   case rel=>exact⟨k+1,by omega,by go_num,HV1.out,HXr.out.trans hx3⟩
   case measure=>simp[intOf];omega
  ·obtain rfl:k=n:=by omega
   have HX3:=hid (HX2.out.trans HXr.out)
   go_wp2_with (go_at_call 159;refine(HLit.out _).mono ?_;rintro _ w4 ⟨rfl,hx4⟩)
   go_ret
   exact⟨rfl,HX3.out.trans hx4⟩
theorem rc6a (op:Int) (vt:ByteArray) (ix vk vi:Int) (n c:Nat) (w:World) (ks:List Ex) (b off:Nat) (op1:Int) (vk1:Int) (HQ:Hid (w.cell? ⟨b,off+1*8,none⟩=some (.int .i64 op1)∧w.cell? ⟨b,off+1*8+4,none⟩=some (.int .i64 vk1))) (h:RC ks ⟨#[]⟩ ⟨#[]⟩ vt (some ⟨b,off,none⟩) n c w) (HAll:Hid (ks.any (fun x=>!x.formed)=false)) (bN:(opN op !=(n:Int))=false) (b2:(op==2)=false) (b1:(op==1)=false) (b16:(op==16)=true) (hn2:(1:Int)<(n:Int)) (p1:(op1 !=1)=true):
  Calls Tryz.prog 84 #[.agg #[.int .i64 op,.string ⟨#[]⟩,.string ⟨#[]⟩,.int .i64 ix,.int .i64 vk,.int .i64 vi,.string vt,.slice (some ⟨b,off,none⟩) n c]] w fun r w'=>r= .returned (.bool false)∧Ext w w':=by
 have H:=hid h
 clear h
 have HB:=hid (Blk.of_new w 37 (eC op ⟨#[]⟩ ⟨#[]⟩ ix vk vi vt (some ⟨b,off,none⟩) n c))
 have HX:=hid ((Ext.refl w).alloc (.cells #[.int .i64 op,.string ⟨#[]⟩,.string ⟨#[]⟩,.int .i64 ix,.int .i64 vk,.int .i64 vi,.string vt,.slice (some ⟨b,off,none⟩) n c] 37))
 have hle:=H.out.le
 go_enter Tryz.func84,Tryz.ntmps84
 go_wp2_with fail
 generalize w.alloc (.cells #[.int .i64 op,.string ⟨#[]⟩,.string ⟨#[]⟩,.int .i64 ix,.int .i64 vk,.int .i64 vi,.string vt,.slice (some ⟨b,off,none⟩) n c] 37)=w1 at*
 generalize w.heap.size=g at*
 obtain⟨k0,-,-,-,-,-,-,k7,-⟩:=lks HB.out
 refine wp_region_later (by kernel_rfl) (by kernel_rfl) ?_
 repeat (go_big_quiet_step ((go_at_call 158;exact later_same (args_any _ _))))
 refine wpQuiet_nil ?_
 intro w2 hw2
 have hx2:=later_out hw2
 clear hw2 k0 k7
 have HX2:=hid (HX.out.trans hx2)
 have HB2:=hid (HB.out.ext hx2)
 clear hx2
 go_wp2_with fail
 go_loopw [3] (fun iv wr=> ∃k:Nat,k≤n∧iv= .int .i64 k∧(ks.take k).any (fun x=>!x.formed)=false∧Ext w2 wr) (fun i _=>n- (intOf i).toNat)
 case atStart=>exact⟨0,Nat.zero_le _,rfl,rfl,Ext.refl w2⟩
 case round=>
  obtain⟨k,hk,rfl,hv,hxr⟩:=hrel
  have HXr:=hid hxr
  have HVr:=hid hv
  have hBr:=HB2.out.ext hxr
  obtain⟨c0,c1,c2,-,c4,c5,c6,c7,-⟩:=cls hBr
  clear hBr hv
  by_cases hlt:k<n
  ·obtain⟨e',he⟩:=at_lt H.out.len hlt
   obtain⟨b',off',A',n',c',hA,q0,q1,q2,q3,q4,q5,q6,q7,hv'⟩:=((H.out.kids.ext HX2.out).ext hxr).get he
   simp only[Option.some.injEq,Addr.mk.injEq,and_true]at hA
   obtain⟨rfl,rfl⟩:=hA
   have HC:=hid (H.out.call e' (mem_at he) A' n' c' _ hv')
   have HFm:Hid (e'.formed=true):=by
    unfold Hid
    cases hf:e'.formed
    ·rw[any_take (p:=fun x=>!x.formed) he (by simp[hf])]at HAll
     exact absurd HAll.out (by simp)
    ·rfl
   have HV1:Hid ((ks.take (k+1)).any (fun x=>!x.formed)=false):=any_step he HVr.out (by simp[HFm.out])
   clear he hv' hxr
   go_wp2_with (go_at_call 84;refine HC.out.mono ?_;rintro _ w3 ⟨rfl,hx3⟩;rw[HFm.out])
   go_roundw
   case rel=>exact⟨k+1,by omega,by go_num,HV1.out,HXr.out.trans hx3⟩
   case measure=>simp[intOf];omega
  ·obtain rfl:k=n:=by omega
   have HX3:=hid (HX2.out.trans HXr.out)
   obtain⟨q0,q4⟩:=HQ.out
   replace q0:=HX3.out.keep q0
   replace q4:=HX3.out.keep q4
   go_wp2_with fail
   go_ret
   exact⟨rfl,HX3.out⟩
theorem rc6b (op:Int) (vt:ByteArray) (ix vk vi:Int) (n c:Nat) (w:World) (ks:List Ex) (b off:Nat) (op1:Int) (vk1:Int) (HQ:Hid (w.cell? ⟨b,off+1*8,none⟩=some (.int .i64 op1)∧w.cell? ⟨b,off+1*8+4,none⟩=some (.int .i64 vk1))) (h:RC ks ⟨#[]⟩ ⟨#[]⟩ vt (some ⟨b,off,none⟩) n c w) (HAll:Hid (ks.any (fun x=>!x.formed)=false)) (bN:(opN op !=(n:Int))=false) (b2:(op==2)=false) (b1:(op==1)=false) (b16:(op==16)=true) (hn2:(1:Int)<(n:Int)) (p1:(op1 !=1)=false) (p2:(vk1 !=2)=true):
  Calls Tryz.prog 84 #[.agg #[.int .i64 op,.string ⟨#[]⟩,.string ⟨#[]⟩,.int .i64 ix,.int .i64 vk,.int .i64 vi,.string vt,.slice (some ⟨b,off,none⟩) n c]] w fun r w'=>r= .returned (.bool false)∧Ext w w':=by
 have H:=hid h
 clear h
 have HB:=hid (Blk.of_new w 37 (eC op ⟨#[]⟩ ⟨#[]⟩ ix vk vi vt (some ⟨b,off,none⟩) n c))
 have HX:=hid ((Ext.refl w).alloc (.cells #[.int .i64 op,.string ⟨#[]⟩,.string ⟨#[]⟩,.int .i64 ix,.int .i64 vk,.int .i64 vi,.string vt,.slice (some ⟨b,off,none⟩) n c] 37))
 have hle:=H.out.le
 go_enter Tryz.func84,Tryz.ntmps84
 go_wp2_with fail
 generalize w.alloc (.cells #[.int .i64 op,.string ⟨#[]⟩,.string ⟨#[]⟩,.int .i64 ix,.int .i64 vk,.int .i64 vi,.string vt,.slice (some ⟨b,off,none⟩) n c] 37)=w1 at*
 generalize w.heap.size=g at*
 obtain⟨k0,-,-,-,-,-,-,k7,-⟩:=lks HB.out
 refine wp_region_later (by kernel_rfl) (by kernel_rfl) ?_
 repeat (go_big_quiet_step ((go_at_call 158;exact later_same (args_any _ _))))
 refine wpQuiet_nil ?_
 intro w2 hw2
 have hx2:=later_out hw2
 clear hw2 k0 k7
 have HX2:=hid (HX.out.trans hx2)
 have HB2:=hid (HB.out.ext hx2)
 clear hx2
 go_wp2_with fail
 go_loopw [3] (fun iv wr=> ∃k:Nat,k≤n∧iv= .int .i64 k∧(ks.take k).any (fun x=>!x.formed)=false∧Ext w2 wr) (fun i _=>n- (intOf i).toNat)
 case atStart=>exact⟨0,Nat.zero_le _,rfl,rfl,Ext.refl w2⟩
 case round=>
  obtain⟨k,hk,rfl,hv,hxr⟩:=hrel
  have HXr:=hid hxr
  have HVr:=hid hv
  have hBr:=HB2.out.ext hxr
  obtain⟨c0,c1,c2,-,c4,c5,c6,c7,-⟩:=cls hBr
  clear hBr hv
  by_cases hlt:k<n
  ·obtain⟨e',he⟩:=at_lt H.out.len hlt
   obtain⟨b',off',A',n',c',hA,q0,q1,q2,q3,q4,q5,q6,q7,hv'⟩:=((H.out.kids.ext HX2.out).ext hxr).get he
   simp only[Option.some.injEq,Addr.mk.injEq,and_true]at hA
   obtain⟨rfl,rfl⟩:=hA
   have HC:=hid (H.out.call e' (mem_at he) A' n' c' _ hv')
   have HFm:Hid (e'.formed=true):=by
    unfold Hid
    cases hf:e'.formed
    ·rw[any_take (p:=fun x=>!x.formed) he (by simp[hf])]at HAll
     exact absurd HAll.out (by simp)
    ·rfl
   have HV1:Hid ((ks.take (k+1)).any (fun x=>!x.formed)=false):=any_step he HVr.out (by simp[HFm.out])
   clear he hv' hxr
   go_wp2_with (go_at_call 84;refine HC.out.mono ?_;rintro _ w3 ⟨rfl,hx3⟩;rw[HFm.out])
   go_roundw
   case rel=>exact⟨k+1,by omega,by go_num,HV1.out,HXr.out.trans hx3⟩
   case measure=>simp[intOf];omega
  ·obtain rfl:k=n:=by omega
   have HX3:=hid (HX2.out.trans HXr.out)
   obtain⟨q0,q4⟩:=HQ.out
   replace q0:=HX3.out.keep q0
   replace q4:=HX3.out.keep q4
   go_wp2_with fail
   go_ret
   exact⟨rfl,HX3.out⟩
theorem rc6c (op:Int) (vt:ByteArray) (ix vk vi:Int) (n c:Nat) (w:World) (ks:List Ex) (b off:Nat) (op1:Int) (vk1:Int) (HQ:Hid (w.cell? ⟨b,off+1*8,none⟩=some (.int .i64 op1)∧w.cell? ⟨b,off+1*8+4,none⟩=some (.int .i64 vk1))) (h:RC ks ⟨#[]⟩ ⟨#[]⟩ vt (some ⟨b,off,none⟩) n c w) (HAll:Hid (ks.any (fun x=>!x.formed)=false)) (bN:(opN op !=(n:Int))=false) (b2:(op==2)=false) (b1:(op==1)=false) (b16:(op==16)=true) (hn2:(1:Int)<(n:Int)) (p1:(op1 !=1)=false) (p2:(vk1 !=2)=false):
  Calls Tryz.prog 84 #[.agg #[.int .i64 op,.string ⟨#[]⟩,.string ⟨#[]⟩,.int .i64 ix,.int .i64 vk,.int .i64 vi,.string vt,.slice (some ⟨b,off,none⟩) n c]] w fun r w'=>r= .returned (.bool (vk==0&&vi==0&&vt.size==0))∧Ext w w':=by
 have H:=hid h
 clear h
 have HB:=hid (Blk.of_new w 37 (eC op ⟨#[]⟩ ⟨#[]⟩ ix vk vi vt (some ⟨b,off,none⟩) n c))
 have HX:=hid ((Ext.refl w).alloc (.cells #[.int .i64 op,.string ⟨#[]⟩,.string ⟨#[]⟩,.int .i64 ix,.int .i64 vk,.int .i64 vi,.string vt,.slice (some ⟨b,off,none⟩) n c] 37))
 have hle:=H.out.le
 go_enter Tryz.func84,Tryz.ntmps84
 go_wp2_with fail
 generalize w.alloc (.cells #[.int .i64 op,.string ⟨#[]⟩,.string ⟨#[]⟩,.int .i64 ix,.int .i64 vk,.int .i64 vi,.string vt,.slice (some ⟨b,off,none⟩) n c] 37)=w1 at*
 generalize w.heap.size=g at*
 obtain⟨k0,-,-,-,-,-,-,k7,-⟩:=lks HB.out
 refine wp_region_later (by kernel_rfl) (by kernel_rfl) ?_
 repeat (go_big_quiet_step ((go_at_call 158;exact later_same (args_any _ _))))
 refine wpQuiet_nil ?_
 intro w2 hw2
 have hx2:=later_out hw2
 clear hw2 k0 k7
 have HX2:=hid (HX.out.trans hx2)
 have HB2:=hid (HB.out.ext hx2)
 clear hx2
 go_wp2_with fail
 go_loopw [3] (fun iv wr=> ∃k:Nat,k≤n∧iv= .int .i64 k∧(ks.take k).any (fun x=>!x.formed)=false∧Ext w2 wr) (fun i _=>n- (intOf i).toNat)
 case atStart=>exact⟨0,Nat.zero_le _,rfl,rfl,Ext.refl w2⟩
 case round=>
  obtain⟨k,hk,rfl,hv,hxr⟩:=hrel
  have HXr:=hid hxr
  have HVr:=hid hv
  have hBr:=HB2.out.ext hxr
  obtain⟨c0,c1,c2,-,c4,c5,c6,c7,-⟩:=cls hBr
  clear hBr hv
  by_cases hlt:k<n
  ·obtain⟨e',he⟩:=at_lt H.out.len hlt
   obtain⟨b',off',A',n',c',hA,q0,q1,q2,q3,q4,q5,q6,q7,hv'⟩:=((H.out.kids.ext HX2.out).ext hxr).get he
   simp only[Option.some.injEq,Addr.mk.injEq,and_true]at hA
   obtain⟨rfl,rfl⟩:=hA
   have HC:=hid (H.out.call e' (mem_at he) A' n' c' _ hv')
   have HFm:Hid (e'.formed=true):=by
    unfold Hid
    cases hf:e'.formed
    ·rw[any_take (p:=fun x=>!x.formed) he (by simp[hf])]at HAll
     exact absurd HAll.out (by simp)
    ·rfl
   have HV1:Hid ((ks.take (k+1)).any (fun x=>!x.formed)=false):=any_step he HVr.out (by simp[HFm.out])
   clear he hv' hxr
   go_wp2_with (go_at_call 84;refine HC.out.mono ?_;rintro _ w3 ⟨rfl,hx3⟩;rw[HFm.out])
   go_roundw
   case rel=>exact⟨k+1,by omega,by go_num,HV1.out,HXr.out.trans hx3⟩
   case measure=>simp[intOf];omega
  ·obtain rfl:k=n:=by omega
   have HX3:=hid (HX2.out.trans HXr.out)
   obtain⟨q0,q4⟩:=HQ.out
   replace q0:=HX3.out.keep q0
   replace q4:=HX3.out.keep q4
   go_wp2_with fail
   all_goals
    go_ret
    refine⟨ret_bool ?_,HX3.out⟩
    rw[str0_b]
    simp[*]
theorem rc7 (op:Int) (vt:ByteArray) (ix vk vi:Int) (A:Option Addr) (n c:Nat) (w:World) (ks:List Ex) (h:RC ks ⟨#[]⟩ ⟨#[]⟩ vt A n c w) (HAll:Hid (ks.any (fun x=>!x.formed)=false)) (bN:(opN op !=(n:Int))=false) (b2:(op==2)=false) (b1:(op==1)=false) (b16:(op==16)=false):
  Calls Tryz.prog 84 #[.agg #[.int .i64 op,.string ⟨#[]⟩,.string ⟨#[]⟩,.int .i64 ix,.int .i64 vk,.int .i64 vi,.string vt,.slice A n c]] w fun r w'=>r= .returned (.bool (vk==0&&vi==0&&vt.size==0))∧Ext w w':=by
 have H:=hid h
 clear h
 have HB:=hid (Blk.of_new w 37 (eC op ⟨#[]⟩ ⟨#[]⟩ ix vk vi vt A n c))
 have HX:=hid ((Ext.refl w).alloc (.cells #[.int .i64 op,.string ⟨#[]⟩,.string ⟨#[]⟩,.int .i64 ix,.int .i64 vk,.int .i64 vi,.string vt,.slice A n c] 37))
 have hle:=H.out.le
 go_enter Tryz.func84,Tryz.ntmps84
 go_wp2_with fail
 generalize w.alloc (.cells #[.int .i64 op,.string ⟨#[]⟩,.string ⟨#[]⟩,.int .i64 ix,.int .i64 vk,.int .i64 vi,.string vt,.slice A n c] 37)=w1 at*
 generalize w.heap.size=g at*
 obtain⟨k0,-,-,-,-,-,-,k7,-⟩:=lks HB.out
 refine wp_region_later (by kernel_rfl) (by kernel_rfl) ?_
 repeat (go_big_quiet_step ((go_at_call 158;exact later_same (args_any _ _))))
 refine wpQuiet_nil ?_
 intro w2 hw2
 have hx2:=later_out hw2
 clear hw2 k0 k7
 have HX2:=hid (HX.out.trans hx2)
 have HB2:=hid (HB.out.ext hx2)
 clear hx2
 go_wp2_with fail
 go_loopw [3] (fun iv wr=> ∃k:Nat,k≤n∧iv= .int .i64 k∧(ks.take k).any (fun x=>!x.formed)=false∧Ext w2 wr) (fun i _=>n- (intOf i).toNat)
 case atStart=>exact⟨0,Nat.zero_le _,rfl,rfl,Ext.refl w2⟩
 case round=>
  obtain⟨k,hk,rfl,hv,hxr⟩:=hrel
  have HXr:=hid hxr
  have HVr:=hid hv
  have hBr:=HB2.out.ext hxr
  obtain⟨c0,c1,c2,-,c4,c5,c6,c7,-⟩:=cls hBr
  clear hBr hv
  by_cases hlt:k<n
  ·obtain⟨e',he⟩:=at_lt H.out.len hlt
   obtain⟨b',off',A',n',c',hA,q0,q1,q2,q3,q4,q5,q6,q7,hv'⟩:=((H.out.kids.ext HX2.out).ext hxr).get he
   subst hA
   have HC:=hid (H.out.call e' (mem_at he) A' n' c' _ hv')
   have HFm:Hid (e'.formed=true):=by
    unfold Hid
    cases hf:e'.formed
    ·rw[any_take (p:=fun x=>!x.formed) he (by simp[hf])]at HAll
     exact absurd HAll.out (by simp)
    ·rfl
   have HV1:Hid ((ks.take (k+1)).any (fun x=>!x.formed)=false):=any_step he HVr.out (by simp[HFm.out])
   clear he hv' hxr
   go_wp2_with (go_at_call 84;refine HC.out.mono ?_;rintro _ w3 ⟨rfl,hx3⟩;rw[HFm.out])
   go_roundw
   case rel=>exact⟨k+1,by omega,by go_num,HV1.out,HXr.out.trans hx3⟩
   case measure=>simp[intOf];omega
  ·obtain rfl:k=n:=by omega
   have HX3:=hid (HX2.out.trans HXr.out)
   go_wp2_with fail
   all_goals
    go_ret
    refine⟨ret_bool ?_,HX3.out⟩
    rw[str0_b]
    simp[*]
theorem rformed_any:∀(e:Ex) (A:Option Addr) (n c:Nat) (w:World),ExV w e A n c→
  Calls Tryz.prog 84 #[e.d.val A n c] w fun r w'=>r= .returned (.bool e.formed)∧Ext w w':=by
 intro e
 induction e using Ex.ind with
 |h d ks ih=>
  intro A n c w hv
  obtain⟨h1,h2,h3,h4⟩:=hv
  have h1:ks.length=n:=h1
  have h4:KidsAt w A ks:=h4
  have h3:d.fit:=h3
  have hF:=formed_eq d ks
  rw[h1]at hF
  have hRC:RC ks d.tb d.nm d.vt A n c w:=⟨h3.tb,h3.nm,h3.vt,h1,h2,h4,fun x hx A' n' c' W hxv=>ih x hx A' n' c' W hxv⟩
  have hND:ndB d (ks.map Ex.d)=if d.op=2 then nameB d.nm&& (d.tb.size==0||nameB d.tb) &&d.valZ
   else if d.op=1 then d.tb.size==0&&d.nm.size==0&&d.litB
   else if d.op=16∧(((ks.map Ex.d).getD 1 d).op≠1∨((ks.map Ex.d).getD 1 d).vk≠2)then false
   else d.tb.size==0&&d.nm.size==0&&d.valZ:=rfl
  have hVZ:d.valZ=(d.vk==0&&d.vi==0&&d.vt.size==0):=rfl
  have hval:∀A,(Ex.mk d ks).d.val A n c= .agg #[.int .i64 d.op,.string d.tb,.string d.nm,.int .i64 d.ix,.int .i64 d.vk,.int .i64 d.vi,.string d.vt,.slice A n c]:=fun _=>rfl
  rw[hval,hF]
  by_cases hN:opN d.op=(n:Int)
  ·have bN:(opN d.op !=(n:Int))=false:=by rw[hN];simp
   have bN2:(opN d.op==(n:Int))=true:=by rw[hN];simp
   rw[bN2,Bool.true_and]
   cases hB:ks.any fun x=>!x.formed
   ·simp only[Bool.not_false,Bool.true_and]
    rw[hND]
    by_cases k2:d.op=2
    ·rw[if_pos k2]
     have b2:(d.op==2)=true:=by rw[k2];rfl
     cases hx:nameB d.nm
     ·exact rc3a _ _ _ _ _ _ _ _ _ _ _ _ hRC hB bN b2 hx
     ·by_cases ht:d.tb.size=0
      ·rw[ht,hVZ]
       simp only[beq_self_eq_true,Bool.true_and,Bool.true_or]
       rw[empty_yes ht]at hRC ⊢
       exact rc3b _ _ _ _ _ _ _ _ _ _ _ hRC hB bN b2 hx
      ·have z:(d.tb.size==0)=false:=by simpa using ht
       rw[z]
       cases hy:nameB d.tb
       ·exact rc3c _ _ _ _ _ _ _ _ _ _ _ _ hRC hB bN b2 hx hy (empty_no ht) (empty_no2 ht)
       ·rw[hVZ]
        simp only[Bool.true_and,Bool.or_true]
        exact rc3d _ _ _ _ _ _ _ _ _ _ _ _ hRC hB bN b2 hx hy (empty_no ht) (empty_no2 ht)
    ·rw[if_neg k2]
     have b2:(d.op==2)=false:=by simpa using k2
     by_cases ht:d.tb.size=0
     ·have e1:=empty_yes ht
      by_cases hn:d.nm.size=0
      ·have e2:=empty_yes hn
       by_cases k1:d.op=1
       ·rw[if_pos k1,ht,hn]
        simp only[beq_self_eq_true,Bool.true_and]
        rw[e1,e2]at hRC ⊢
        exact rc5 _ _ _ _ _ _ _ _ _ _ d rfl rfl rfl hRC hB bN b2 (by rw[k1];rfl)
       ·rw[if_neg k1]
        have b1:(d.op==1)=false:=by simpa using k1
        rw[ht,hn,hVZ]
        simp only[beq_self_eq_true,Bool.true_and]
        by_cases k16:d.op=16
        ·have hn2:n=2:=by
          rw[k16]at hN
          unfold opN at hN
          simp at hN
          omega
         obtain⟨x,hx⟩:=at_lt (i:=1) h1 (by omega)
         obtain⟨b,off,A',n',c',rfl,hQ⟩:=h4.get hx
         obtain⟨dx,kx⟩:=x
         rw[get1 d hx]
         have b16:(d.op==16)=true:=by rw[k16];rfl
         rw[e1,e2]at hRC ⊢
         by_cases o1:dx.op=1
         ·by_cases o2:dx.vk=2
          ·rw[if_neg (by rintro⟨_,h|h⟩;exact h o1;exact h o2)]
           exact rc6c _ _ _ _ _ _ _ _ _ b off dx.op dx.vk ⟨hQ.c0,hQ.c4⟩ hRC hB bN b2 b1 b16 (by omega) (by rw[o1];rfl) (by rw[o2];rfl)
          ·rw[if_pos ⟨k16,.inr o2⟩]
           exact rc6b _ _ _ _ _ _ _ _ _ b off dx.op dx.vk ⟨hQ.c0,hQ.c4⟩ hRC hB bN b2 b1 b16 (by omega) (by rw[o1];rfl) (by simpa using o2)
         ·rw[if_pos ⟨k16,.inl o1⟩]
          exact rc6a _ _ _ _ _ _ _ _ _ b off dx.op dx.vk ⟨hQ.c0,hQ.c4⟩ hRC hB bN b2 b1 b16 (by omega) (by simpa using o1)
        ·rw[if_neg (fun h=>k16 h.1)]
         rw[e1,e2]at hRC ⊢
         exact rc7 _ _ _ _ _ _ _ _ _ _ hRC hB bN b2 b1 (by simpa using k16)
      ·have z:(d.nm.size==0)=false:=by simpa using hn
       have hR:(if d.op=1 then d.tb.size==0&&d.nm.size==0&&d.litB else if d.op=16∧(((ks.map Ex.d).getD 1 d).op≠1∨((ks.map Ex.d).getD 1 d).vk≠2)then false else d.tb.size==0&&d.nm.size==0&&d.valZ)=false:=by
        rw[z]
        simp
       rw[hR]
       rw[e1]at hRC ⊢
       exact rc4b _ _ _ _ _ _ _ _ _ _ _ hRC hB bN b2 (empty_no hn) (empty_no2 hn)
     ·have z:(d.tb.size==0)=false:=by simpa using ht
      have hR:(if d.op=1 then d.tb.size==0&&d.nm.size==0&&d.litB else if d.op=16∧(((ks.map Ex.d).getD 1 d).op≠1∨((ks.map Ex.d).getD 1 d).vk≠2)then false else d.tb.size==0&&d.nm.size==0&&d.valZ)=false:=by
       rw[z]
       simp
      rw[hR]
      exact rc4a _ _ _ _ _ _ _ _ _ _ _ _ hRC hB bN b2 (empty_no ht) (empty_no2 ht)
   ·simp only[Bool.not_true,Bool.false_and]
    exact rc2 _ _ _ _ _ _ _ _ _ _ _ _ hRC hB bN
  ·have bN:(opN d.op !=(n:Int))=true:=by simpa using hN
   have bN2:(opN d.op==(n:Int))=false:=by simpa using hN
   rw[bN2]
   simp only[Bool.false_and]
   exact rc1 _ _ _ _ _ _ _ _ _ _ _ _ hRC bN
theorem same_at {l m:List Ex} (hl:l.length=m.length) (h:∀(i:Nat) (x y:Ex),l[i]? =some x→m[i]? =some y→i<l.length→x.same y=true):sameL l m=true:=
 (sameL_iff l m).2 ⟨hl,fun i x y hx hy=>h i x y hx hy (List.getElem?_eq_some_iff.1 hx).1⟩
theorem same_no {l m:List Ex} {i:Nat} {x y:Ex} (hx:l[i]? =some x) (hy:m[i]? =some y) (h:x.same y=false):sameL l m=false:=by
 rw[←Bool.not_eq_true,sameL_iff]
 rintro⟨_,h2⟩
 rw[h2 i x y hx hy]at h
 cases h
theorem same_len {l m:List Ex} (h:l.length≠m.length):sameL l m=false:=by
 rw[←Bool.not_eq_true,sameL_iff]
 exact fun h2=>h h2.1
def SameTo (l m:List Ex) (k:Nat):Prop:=∀(i:Nat) (x y:Ex),l[i]? =some x→m[i]? =some y→i<k→x.same y=true
theorem SameTo.zero (l m:List Ex):SameTo l m 0:=fun _ _ _ _ _ h=>absurd h (Nat.not_lt_zero _)
theorem SameTo.step {l m:List Ex} {k:Nat} {x y:Ex} (h:SameTo l m k) (hx:l[k]? =some x) (hy:m[k]? =some y) (he:x.same y=true):SameTo l m (k+1):=by
 intro i a b ha hb hi
 rcases Nat.lt_or_ge i k with h2|h2
 ·exact h i a b ha hb h2
 ·obtain rfl:i=k:=by omega
  rw[Option.some.inj (ha.symm.trans hx),Option.some.inj (hb.symm.trans hy)]
  exact he
theorem SameTo.done {l m:List Ex} {n:Nat} (h:SameTo l m n) (hl:l.length=n) (hm:m.length=n):sameL l m=true:=
 same_at (by rw[hl,hm]) fun i x y hx hy hi=>h i x y hx hy (by omega)
theorem eqfunc_ex (l m:List Ex) (A B:Option Addr) (n p c c':Nat) (w:World) (hl:l.length=n) (hm:m.length=p) (hn:n≤9223372036854775807) (hp:p≤9223372036854775807) (hk:KidsAt w A l) (hk2:KidsAt w B m)
  (hF:∀x∈l,∀(y:Ex) (A1 A2:Option Addr) (n1 n2 c1 c2:Nat) (W:World),ExV W x A1 n1 c1→ExV W y A2 n2 c2→Calls Tryz.prog 182 #[x.d.val A1 n1 c1,y.d.val A2 n2 c2] W fun r W'=>r= .returned (.bool (x.same y))∧Ext W W'):
  Calls Tryz.prog 266 #[.slice A n c,.slice B p c',.func (Fn.func 182) #[] #[]] w fun r w'=>r= .returned (.bool (sameL l m))∧Ext w w':=by
 have HL:=hid hl
 have HM:=hid hm
 have HK:=hid hk
 have HK2:=hid hk2
 have HF:=hid hF
 clear hl hm hk hk2 hF
 by_cases hnp:n=p
 ·subst hnp
  have bN:((n:Int) !=(n:Int))=false:=by simp
  go_enter Tryz.func266,Tryz.ntmps266
  go_wp2_with fail
  go_loopw [17] (fun iv wr=> ∃(k:Nat),k≤n∧iv= .int .i64 k∧SameTo l m k∧Ext w wr) (fun i _=>n- (intOf i).toNat)
  case atStart=>exact⟨0,Nat.zero_le _,rfl,SameTo.zero l m,Ext.refl w⟩
  case round=>
   obtain⟨k,hkn,rfl,hr,hxr⟩:=hrel
   have HXr:=hid hxr
   have HRr:=hid hr
   by_cases hlt:k<n
   ·obtain⟨x,hx⟩:=at_lt HL.out hlt
    obtain⟨y,hy⟩:=at_lt HM.out hlt
    obtain⟨b,off,A',n',c',rfl,q0,q1,q2,q3,q4,q5,q6,q7,hv⟩:=(HK.out.ext hxr).get hx
    obtain⟨b2,off2,A2,n2,c2,rfl,s0,s1,s2,s3,s4,s5,s6,s7,hv2⟩:=(HK2.out.ext hxr).get hy
    have HV:=hid hv
    have HV2:=hid hv2
    have p0:=fun o=> ((Ext.refl wr).alloc o).keep s0
    have p1:=fun o=> ((Ext.refl wr).alloc o).keep s1
    have p2:=fun o=> ((Ext.refl wr).alloc o).keep s2
    have p3:=fun o=> ((Ext.refl wr).alloc o).keep s3
    have p4:=fun o=> ((Ext.refl wr).alloc o).keep s4
    have p5:=fun o=> ((Ext.refl wr).alloc o).keep s5
    have p6:=fun o=> ((Ext.refl wr).alloc o).keep s6
    have p7:=fun o=> ((Ext.refl wr).alloc o).keep s7
    have HC:=hid (fun W (hW:Ext wr W)=>HF.out x (mem_at hx) y A' A2 n' n2 c' c2 W (hv.ext hW) (hv2.ext hW))
    have HE:=hid hx
    have HE2:=hid hy
    clear hx hy hv hv2 hxr hr s0 s1 s2 s3 s4 s5 s6 s7
    cases hp:x.same y
    ·rw[hp]at HC
     have HP:Hid (sameL l m=false):=same_no HE.out HE2.out hp
     clear hp
     go_wp2_with fail
     refine(HC.out _ (((Ext.refl wr).alloc _).alloc _)).mono ?_
     rintro _ w2 ⟨rfl,hx2⟩
     go_wp2_with fail
     go_ret
     exact⟨ret_bool HP.out.symm,((HXr.out.alloc _).alloc _).trans hx2⟩
    ·rw[hp]at HC
     have HP:=hid (HRr.out.step HE.out HE2.out hp)
     clear hp
     go_wp2_with fail
     refine(HC.out _ (((Ext.refl wr).alloc _).alloc _)).mono ?_
     rintro _ w2 ⟨rfl,hx2⟩
     go_wp2_with fail
     go_roundw
     case rel=>exact⟨k+1,by omega,by go_num,HP.out,((HXr.out.alloc _).alloc _).trans hx2⟩
     case measure=>simp[intOf];omega
   ·obtain rfl:k=n:=by omega
    have HP:=hid (HRr.out.done HL.out HM.out)
    clear hr
    go_wp2_with fail
    go_ret
    exact⟨ret_bool HP.out.symm,HXr.out⟩
 ·have bN:((n:Int) !=(p:Int))=true:=by simp;omega
  have HP:Hid (sameL l m=false):=same_len (by rw[HL.out,HM.out];exact hnp)
  clear hnp
  go_enter Tryz.func266,Tryz.ntmps266
  go_wp2_with fail
  go_ret
  exact⟨ret_bool HP.out.symm,Ext.refl w⟩
theorem same_walk (d d':Nd) (ks ks':List Ex):(Ex.mk d ks).same (Ex.mk d' ks')=
  (d.op==d'.op&&d.tb.toList==d'.tb.toList&&d.nm.toList==d'.nm.toList&& (d.vk==d'.vk&&d.vi==d'.vi&&d.vt.toList==d'.vt.toList) &&sameL ks ks'):=by
 rw[Ex.same,Nd.same,str_eq,str_eq,str_eq]
theorem equal_any:∀(a:Ex) (b:Ex) (A B:Option Addr) (n p c c':Nat) (w:World),ExV w a A n c→ExV w b B p c'→
  Calls Tryz.prog 182 #[a.d.val A n c,b.d.val B p c'] w fun r w'=>r= .returned (.bool (a.same b))∧Ext w w':=by
 intro a
 induction a using Ex.ind with
 |h d ks ih=>
  intro b A B n p c c' w hv hv2
  obtain⟨d',ks'⟩:=b
  obtain⟨h1,h2,h3,h4⟩:=hv
  obtain⟨g1,g2,g3,g4⟩:=hv2
  have h4:KidsAt w A ks:=h4
  have g4:KidsAt w B ks':=g4
  have HS:=hid (same_walk d d' ks ks')
  obtain⟨S,hS⟩:∃S,sameL ks ks'=S:=⟨_,rfl⟩
  have HC:Hid (∀W,Ext w W→Calls Tryz.prog 236 #[.slice A n c,.slice B p c'] W fun r w'=>r= .returned (.bool S)∧Ext W w'):=by
   intro W hW
   have HE:=hid (eqfunc_ex ks ks' A B n p c c' W h1 g1 h2 g2 (h4.ext hW) (g4.ext hW) fun x hx y A1 A2 n1 n2 c1 c2 W2 hv1 hv2=>ih x hx y A1 A2 n1 n2 c1 c2 W2 hv1 hv2)
   rw[hS]at HE
   go_enter Tryz.func236,Tryz.ntmps236
   go_wp2_with fail
   refine HE.out.mono ?_
   rintro _ w2 ⟨rfl,hx2⟩
   go_wp2_with fail
   go_ret
   exact⟨rfl,hx2⟩
  rw[hS]at HS
  clear hS h1 g1 h2 g2 h3 g3 h4 g4 ih
  generalize (Ex.mk d ks).same (Ex.mk d' ks')=R at*
  unfold Nd.val
  simp only[Ex.d]
  obtain⟨op,tb,nm,ix,vk,vi,vt⟩:=d
  obtain⟨op',tb',nm',ix',vk',vi',vt'⟩:=d'
  simp only at*
  go_enter Tryz.func182,Tryz.ntmps182
  go_wp2_with (go_at_call 236;refine(HC.out _ (((Ext.refl w).alloc _).alloc _)).mono ?_;rintro _ w2 ⟨rfl,hx2⟩)
  all_goals
   go_ret
   refine⟨ret_bool (by rw[HS.out];simp[*]),?_⟩
   first|exact(((Ext.refl w).alloc _).alloc _).trans hx2|exact((Ext.refl w).alloc _).alloc _
theorem absent_any (e:Ex) (A:Option Addr) (n c:Nat) (w:World) (hv:ExV w e A n c):
  Calls Tryz.prog 116 #[e.d.val A n c] w fun r w'=>r= .returned (.bool e.absent)∧Ext w w':=by
 have HC:Hid (∀W,Ext w W→Calls Tryz.prog 182 #[e.d.val A n c,exZ.d.val none 0 0] W fun r w'=>r= .returned (.bool e.absent)∧Ext W w'):=by
  intro W hW
  rw[←same_absent]
  exact equal_any e exZ A none n 0 c 0 W (hv.ext hW) ⟨rfl,by omega,⟨⟨by decide,by decide⟩,⟨by decide,by decide⟩,⟨by decide,by decide⟩,⟨by decide,by decide⟩,by decide,by decide,by decide⟩,trivial⟩
 clear hv
 unfold Nd.val at*
 generalize e.absent=R at*
 generalize e.d=d at*
 obtain⟨op,tb,nm,ix,vk,vi,vt⟩:=d
 simp only at*
 go_enter Tryz.func116,Tryz.ntmps116
 go_wp2_with (go_at_call 182;refine(HC.out _ ((Ext.refl w).alloc _)).mono ?_;rintro _ w2 ⟨rfl,hx2⟩)
 go_ret
 exact⟨rfl,((Ext.refl w).alloc _).trans hx2⟩
theorem rsames_ex (l m:List Ex) (A B:Option Addr) (n p c c':Nat) (w:World) (hl:l.length=n) (hm:m.length=p) (hn:n≤9223372036854775807) (hp:p≤9223372036854775807) (hk:KidsAt w A l) (hk2:KidsAt w B m)
  (hF:∀x∈l,∀(y:Ex) (A1 A2:Option Addr) (n1 n2 c1 c2:Nat) (W:World),ExV W x A1 n1 c1→ExV W y A2 n2 c2→Calls Tryz.prog 19 #[x.d.val A1 n1 c1,y.d.val A2 n2 c2] W fun r W'=>r= .returned (.bool (x.same y))∧Ext W W'):
  Calls Tryz.prog 37 #[.slice A n c,.slice B p c'] w fun r w'=>r= .returned (.bool (sameL l m))∧Ext w w':=by
 have HL:=hid hl
 have HM:=hid hm
 have HK:=hid hk
 have HK2:=hid hk2
 have HF:=hid hF
 clear hl hm hk hk2 hF
 by_cases hnp:n=p
 ·subst hnp
  have bN:((n:Int) !=(n:Int))=false:=by simp
  go_enter Tryz.func37,Tryz.ntmps37
  go_wp2_with fail
  go_loopw [5] (fun iv wr=> ∃(k:Nat),k≤n∧iv= .int .i64 k∧SameTo l m k∧Ext w wr) (fun i _=>n- (intOf i).toNat)
  case atStart=>exact⟨0,Nat.zero_le _,rfl,SameTo.zero l m,Ext.refl w⟩
  case round=>
   obtain⟨k,hkn,rfl,hr,hxr⟩:=hrel
   have HXr:=hid hxr
   have HRr:=hid hr
   by_cases hlt:k<n
   ·obtain⟨x,hx⟩:=at_lt HL.out hlt
    obtain⟨y,hy⟩:=at_lt HM.out hlt
    obtain⟨b,off,A',n',c',rfl,q0,q1,q2,q3,q4,q5,q6,q7,hv⟩:=(HK.out.ext hxr).get hx
    obtain⟨b2,off2,A2,n2,c2,rfl,s0,s1,s2,s3,s4,s5,s6,s7,hv2⟩:=(HK2.out.ext hxr).get hy
    have HV:=hid hv
    have HV2:=hid hv2
    have i0:(0:Int)≤(k:Int):=by omega
    have i1:(k:Int)<(n:Int):=by omega
    have HC:Hid (∀z:Later wr,Calls Tryz.prog 19 #[x.d.val A' n' c',y.d.val A2 n2 c2] z.now fun r W'=>r= .returned (.bool (x.same y))∧Ext z.now W'):=
     fun z=>HF.out x (mem_at hx) y A' A2 n' n2 c' c2 z.now (hv.ext z.ext) (hv2.ext z.ext)
    have HE:=hid hx
    have HE2:=hid hy
    obtain⟨sb,hsb⟩:∃sb,x.same y=sb:=⟨_,rfl⟩
    have HSB:=hid hsb
    rw[hsb]at HC
    replace q0:=Later.keep q0
    replace q1:=Later.keep q1
    replace q2:=Later.keep q2
    replace q3:=Later.keep q3
    replace q4:=Later.keep q4
    replace q5:=Later.keep q5
    replace q6:=Later.keep q6
    replace q7:=Later.keep q7
    replace s0:=Later.keep s0
    replace s1:=Later.keep s1
    replace s2:=Later.keep s2
    replace s3:=Later.keep s3
    replace s4:=Later.keep s4
    replace s5:=Later.keep s5
    replace s6:=Later.keep s6
    replace s7:=Later.keep s7
    clear hx hy hv hv2 hxr hr hsb
    cases sb
    ·have HP:Hid (sameL l m=false):=same_no HE.out HE2.out HSB.out
     go_wp2_with fail
     refine wp_region_later (by kernel_rfl) (by kernel_rfl) ?_
     repeat (go_big_quiet_step ((go_at_call 19;exact later_of (HC.out _))))
     refine wpQuiet_nil ?_
     intro w2 hw2
     have hx2:=later_out hw2
     clear hw2 q0 q1 q2 q3 q4 q5 q6 q7 s0 s1 s2 s3 s4 s5 s6 s7
     go_wp2_with fail
     go_ret
     exact⟨ret_bool HP.out.symm,HXr.out.trans hx2⟩
    ·have HP:=hid (HRr.out.step HE.out HE2.out HSB.out)
     go_wp2_with fail
     refine wp_region_later (by kernel_rfl) (by kernel_rfl) ?_
     repeat (go_big_quiet_step ((go_at_call 19;exact later_of (HC.out _))))
     refine wpQuiet_nil ?_
     intro w2 hw2
     have hx2:=later_out hw2
     clear hw2 q0 q1 q2 q3 q4 q5 q6 q7 s0 s1 s2 s3 s4 s5 s6 s7
     go_wp2_with fail
     go_roundw
     case rel=>exact⟨k+1,by omega,by go_num,HP.out,HXr.out.trans hx2⟩
     case measure=>simp[intOf];omega
   ·obtain rfl:k=n:=by omega
    have HP:=hid (HRr.out.done HL.out HM.out)
    clear hr
    go_wp2_with fail
    go_ret
    exact⟨ret_bool HP.out.symm,HXr.out⟩
 ·have bN:((n:Int) !=(p:Int))=true:=by simp;omega
  have HP:Hid (sameL l m=false):=same_len (by rw[HL.out,HM.out];exact hnp)
  clear hnp
  go_enter Tryz.func37,Tryz.ntmps37
  go_wp2_with fail
  go_ret
  exact⟨ret_bool HP.out.symm,Ext.refl w⟩
theorem rsame_any:∀(a:Ex) (b:Ex) (A B:Option Addr) (n p c c':Nat) (w:World),ExV w a A n c→ExV w b B p c'→
  Calls Tryz.prog 19 #[a.d.val A n c,b.d.val B p c'] w fun r w'=>r= .returned (.bool (a.same b))∧Ext w w':=by
 intro a
 induction a using Ex.ind with
 |h d ks ih=>
  intro b A B n p c c' w hv hv2
  obtain⟨d',ks'⟩:=b
  obtain⟨h1,h2,h3,h4⟩:=hv
  obtain⟨g1,g2,g3,g4⟩:=hv2
  have h4:KidsAt w A ks:=h4
  have g4:KidsAt w B ks':=g4
  have HS:=hid (same_walk d d' ks ks')
  obtain⟨S,hS⟩:∃S,sameL ks ks'=S:=⟨_,rfl⟩
  have HC:Hid (∀W,Ext w W→Calls Tryz.prog 37 #[.slice A n c,.slice B p c'] W fun r w'=>r= .returned (.bool S)∧Ext W w'):=by
   intro W hW
   rw[←hS]
   exact rsames_ex ks ks' A B n p c c' W h1 g1 h2 g2 (h4.ext hW) (g4.ext hW) fun x hx y A1 A2 n1 n2 c1 c2 W2 hv1 hv2=>ih x hx y A1 A2 n1 n2 c1 c2 W2 hv1 hv2
  rw[hS]at HS
  clear hS h1 g1 h2 g2 h3 g3 h4 g4 ih
  generalize (Ex.mk d ks).same (Ex.mk d' ks')=R at*
  unfold Nd.val
  simp only[Ex.d]
  obtain⟨op,tb,nm,ix,vk,vi,vt⟩:=d
  obtain⟨op',tb',nm',ix',vk',vi',vt'⟩:=d'
  simp only at*
  go_enter Tryz.func19,Tryz.ntmps19
  go_wp2_with (go_at_call 37;refine(HC.out _ (((Ext.refl w).alloc _).alloc _)).mono ?_;rintro _ w2 ⟨rfl,hx2⟩)
  all_goals
   go_ret
   refine⟨ret_bool (by rw[HS.out];simp[*]),?_⟩
   first|exact(((Ext.refl w).alloc _).alloc _).trans hx2|exact((Ext.refl w).alloc _).alloc _
end Go.Proofs.YtjigcpfjhfoheaaGreatDoor
