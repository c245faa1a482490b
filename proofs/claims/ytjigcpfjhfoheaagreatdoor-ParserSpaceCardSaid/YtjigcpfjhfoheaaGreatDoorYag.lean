/- Walks: the reference's Formed; Formed returns whether an expression is well-formed; Walks: equality of expressions. -/
import Derived.Test.YtjigcpfjhfoheaaGreatDoorYaf
namespace Go.Proofs.YtjigcpfjhfoheaaGreatDoor
open Go.RowKit
set_option maxHeartbeats 4000000
set_option maxRecDepth 100000
set_option linter.unusedVariables false
set_option linter.unusedSimpArgs false
structure RC (ks:List Ex) (tb nm vt:ByteArray) (A:Option Addr) (n c:Nat) (w:World):Prop where
 tb:tb.size≤9223372036854775807
 nm:nm.size≤9223372036854775807
 vt:vt.size≤9223372036854775807
 len:ks.length=n
 le:n≤9223372036854775807
 kids:KidsAt w A ks
 call:∀x∈ks,∀(A':Option Addr) (n' c':Nat) (W:World),ExV W x A' n' c'→Calls Tryz.prog 84 #[x.d.val A' n' c'] W fun r W'=>r= .returned (.bool x.formed)∧Ext W W'
theorem rc1 (op:Int) (tb nm vt:ByteArray) (ix vk vi:Int) (A:Option Addr) (n c:Nat) (w:World) (ks:List Ex) (h:RC ks tb nm vt A n c w) (o:(opN op !=(n:Int))=true):
  Calls Tryz.prog 84 #[.agg #[.int .i64 op,.string tb,.string nm,.int .i64 ix,.int .i64 vk,.int .i64 vi,.string vt,.slice A n c]] w fun r w'=>r= .returned (.bool false)∧Ext w w':=by
 have H:=hid h
 clear h
 have f:=hid (Blk.of_new w 37 (eC op tb nm ix vk vi vt A n c))
 have l:=hid ((Ext.refl w).alloc (.cells #[.int .i64 op,.string tb,.string nm,.int .i64 ix,.int .i64 vk,.int .i64 vi,.string vt,.slice A n c] 37))
 have j:=H.le
 go_enter Tryz.func84,Tryz.ntmps84
 go_wp2_with fail
 generalize w.alloc (.cells #[.int .i64 op,.string tb,.string nm,.int .i64 ix,.int .i64 vk,.int .i64 vi,.string vt,.slice A n c] 37)=p at*
 generalize w.heap.size=g at*
 obtain⟨i,-,-,-,-,-,-,k,-⟩:=lks f
 refine aa (by kernel_rfl) (by kernel_rfl) ?_
 repeat (go_big_quiet_step ((go_at_call 158;exact au (bt _ _))))
 refine wpQuiet_nil ?_
 intro q b
 have a:=af b
 clear b i k
 have e:=hid (l.trans a)
 have m:=hid (f.ext a)
 clear a
 go_wp2_with fail
 go_ret
 exact⟨rfl,e⟩
theorem rc2 (op:Int) (tb nm vt:ByteArray) (ix vk vi:Int) (A:Option Addr) (n c:Nat) (w:World) (ks:List Ex) (h:RC ks tb nm vt A n c w) (q:Hid (ks.any (fun x=>!x.formed)=true)) (bN:(opN op !=(n:Int))=false):
  Calls Tryz.prog 84 #[.agg #[.int .i64 op,.string tb,.string nm,.int .i64 ix,.int .i64 vk,.int .i64 vi,.string vt,.slice A n c]] w fun r w'=>r= .returned (.bool false)∧Ext w w':=by
 have H:=hid h
 clear h
 have G:=hid (Blk.of_new w 37 (eC op tb nm ix vk vi vt A n c))
 have O:=hid ((Ext.refl w).alloc (.cells #[.int .i64 op,.string tb,.string nm,.int .i64 ix,.int .i64 vk,.int .i64 vi,.string vt,.slice A n c] 37))
 have U:=H.le
 go_enter Tryz.func84,Tryz.ntmps84
 go_wp2_with fail
 generalize w.alloc (.cells #[.int .i64 op,.string tb,.string nm,.int .i64 ix,.int .i64 vk,.int .i64 vi,.string vt,.slice A n c] 37)=w1 at*
 generalize w.heap.size=g at*
 obtain⟨K,-,-,-,-,-,-,V,-⟩:=lks G
 refine aa (by kernel_rfl) (by kernel_rfl) ?_
 repeat (go_big_quiet_step ((go_at_call 158;exact au (bt _ _))))
 refine wpQuiet_nil ?_
 intro F o
 have j:=af o
 clear o K V
 have e:=hid (O.trans j)
 have B:=hid (G.ext j)
 clear j
 go_wp2_with fail
 go_loopw [3] (fun W wr=> ∃k:Nat,k≤n∧W= .int .i64 k∧(ks.take k).any (fun x=>!x.formed)=false∧Ext F wr) (fun i _=>n- (intOf i).toNat)
 case atStart=>exact⟨0,Nat.zero_le _,rfl,rfl,Ext.refl F⟩
 case round=>
  obtain⟨k,hk,rfl,J,a⟩:=hrel
  have f:=hid a
  have p:=hid J
  have s:=B.ext a
  obtain⟨c0,c1,c2,-,c4,c5,c6,c7,-⟩:=cls s
  clear s J
  by_cases C:k<n
  ·obtain⟨E,t⟩:=bF H.len C
   obtain⟨b',I,Y,P,Q,L,q0,q1,q2,q3,Z,q5,q6,q7,l⟩:=((H.kids.ext e).ext a).get t
   subst L
   have D:=hid (H.call E (bD t) Y P Q _ l)
   obtain⟨z,u⟩:∃z,E.formed=z:=⟨_,rfl⟩
   have m:=hid u
   have y:Hid (z=true→(ks.take (k+1)).any (fun x=>!x.formed)=false):=fun h=>aN t p (by simp[u,h])
   clear u
   clear t l a
   cases z
   ·go_wp2_with (go_at_call 84;refine D.mono ?_;rintro _ X ⟨rfl,b⟩;rw[m.out])
    go_ret
    exact⟨rfl,(e.trans f).trans b⟩
   ·go_wp2_with (go_at_call 84;refine D.mono ?_;rintro _ X ⟨rfl,b⟩;rw[m.out])
    go_roundw
    case rel=>exact⟨k+1,by omega,by go_num,y (by first|rfl|trivial),f.trans b⟩
    case measure=>simp[intOf];omega
  ·obtain rfl:k=n:=by omega
   have R:=hid (e.trans f)
   exact absurd (cn H.len p) (by rw[q.out];simp)
theorem rc3a (op:Int) (tb nm vt:ByteArray) (ix vk vi:Int) (A:Option Addr) (n c:Nat) (w:World) (ks:List Ex) (h:RC ks tb nm vt A n c w) (e:Hid (ks.any (fun x=>!x.formed)=false)) (bN:(opN op !=(n:Int))=false) (b2:(op==2)=true) (B:Hid (nameB nm=false)):
  Calls Tryz.prog 84 #[.agg #[.int .i64 op,.string tb,.string nm,.int .i64 ix,.int .i64 vk,.int .i64 vi,.string vt,.slice A n c]] w fun r w'=>r= .returned (.bool false)∧Ext w w':=by
 have H:=hid h
 clear h
 have I:=hid (Blk.of_new w 37 (eC op tb nm ix vk vi vt A n c))
 have Q:=hid ((Ext.refl w).alloc (.cells #[.int .i64 op,.string tb,.string nm,.int .i64 ix,.int .i64 vk,.int .i64 vi,.string vt,.slice A n c] 37))
 have V:=H.le
 go_enter Tryz.func84,Tryz.ntmps84
 go_wp2_with fail
 generalize w.alloc (.cells #[.int .i64 op,.string tb,.string nm,.int .i64 ix,.int .i64 vk,.int .i64 vi,.string vt,.slice A n c] 37)=w1 at*
 generalize w.heap.size=g at*
 obtain⟨L,-,-,-,-,-,-,W,-⟩:=lks I
 refine aa (by kernel_rfl) (by kernel_rfl) ?_
 repeat (go_big_quiet_step ((go_at_call 158;exact au (bt _ _))))
 refine wpQuiet_nil ?_
 intro G o
 have f:=af o
 clear o L W
 have m:=hid (Q.trans f)
 have E:=hid (I.ext f)
 clear f
 go_wp2_with fail
 go_loopw [3] (fun Y wr=> ∃k:Nat,k≤n∧Y= .int .i64 k∧(ks.take k).any (fun x=>!x.formed)=false∧Ext G wr) (fun i _=>n- (intOf i).toNat)
 case atStart=>exact⟨0,Nat.zero_le _,rfl,rfl,Ext.refl G⟩
 case round=>
  obtain⟨k,hk,rfl,K,b⟩:=hrel
  have s:=hid b
  have C:=hid K
  have t:=E.ext b
  obtain⟨c0,c1,c2,-,c4,c5,c6,c7,-⟩:=cls t
  clear t K
  by_cases F:k<n
  ·obtain⟨y,q⟩:=bF H.len F
   obtain⟨b',J,Z,R,U,O,q0,q1,q2,q3,q4,q5,q6,q7,j⟩:=((H.kids.ext m).ext b).get q
   subst O
   have P:=hid (H.call y (bD q) Z R U _ j)
   have l:Hid (y.formed=true):=by
    unfold Hid
    cases X:y.formed
    ·rw[aQ (p:=fun x=>!x.formed) q (by simp[X])]at e
     exact absurd e.out (by simp)
    ·rfl
   have D:Hid ((ks.take (k+1)).any (fun x=>!x.formed)=false):=aN q C (by simp[l.out])
   clear q j b
   go_wp2_with (go_at_call 84;refine P.mono ?_;rintro _ w3 ⟨rfl,u⟩;rw[l.out])
   go_roundw
   case rel=>exact⟨k+1,by omega,by go_num,D,s.trans u⟩
   case measure=>simp[intOf];omega
  ·obtain rfl:k=n:=by omega
   have z:=hid (m.trans s)
   go_wp2_with (go_at_call 144;(with_reducible refine(dg nm _ H.out.nm).mono ?_);rintro _ w4 ⟨rfl,a⟩;rw[B.out];have d4:=a.keep c4;have d5:=a.keep c5;have d6:=a.keep c6;have d1:=a.keep c1)
   go_ret
   exact⟨rfl,z.trans a⟩
theorem rc3b (op:Int) (nm vt:ByteArray) (ix vk vi:Int) (A:Option Addr) (n c:Nat) (w:World) (ks:List Ex) (h:RC ks ⟨#[]⟩ nm vt A n c w) (e:Hid (ks.any (fun x=>!x.formed)=false)) (bN:(opN op !=(n:Int))=false) (b2:(op==2)=true) (B:Hid (nameB nm=true)):
  Calls Tryz.prog 84 #[.agg #[.int .i64 op,.string ⟨#[]⟩,.string nm,.int .i64 ix,.int .i64 vk,.int .i64 vi,.string vt,.slice A n c]] w fun r w'=>r= .returned (.bool (vk==0&&vi==0&&vt.size==0))∧Ext w w':=by
 have H:=hid h
 clear h
 have I:=hid (Blk.of_new w 37 (eC op ⟨#[]⟩ nm ix vk vi vt A n c))
 have Q:=hid ((Ext.refl w).alloc (.cells #[.int .i64 op,.string ⟨#[]⟩,.string nm,.int .i64 ix,.int .i64 vk,.int .i64 vi,.string vt,.slice A n c] 37))
 have V:=H.le
 go_enter Tryz.func84,Tryz.ntmps84
 go_wp2_with fail
 generalize w.alloc (.cells #[.int .i64 op,.string ⟨#[]⟩,.string nm,.int .i64 ix,.int .i64 vk,.int .i64 vi,.string vt,.slice A n c] 37)=w1 at*
 generalize w.heap.size=g at*
 obtain⟨L,-,-,-,-,-,-,W,-⟩:=lks I
 refine aa (by kernel_rfl) (by kernel_rfl) ?_
 repeat (go_big_quiet_step ((go_at_call 158;exact au (bt _ _))))
 refine wpQuiet_nil ?_
 intro G o
 have f:=af o
 clear o L W
 have m:=hid (Q.trans f)
 have E:=hid (I.ext f)
 clear f
 go_wp2_with fail
 go_loopw [3] (fun Y wr=> ∃k:Nat,k≤n∧Y= .int .i64 k∧(ks.take k).any (fun x=>!x.formed)=false∧Ext G wr) (fun i _=>n- (intOf i).toNat)
 case atStart=>exact⟨0,Nat.zero_le _,rfl,rfl,Ext.refl G⟩
 case round=>
  obtain⟨k,hk,rfl,K,b⟩:=hrel
  have s:=hid b
  have C:=hid K
  have t:=E.ext b
  obtain⟨c0,c1,c2,-,c4,c5,c6,c7,-⟩:=cls t
  clear t K
  by_cases F:k<n
  ·obtain⟨y,q⟩:=bF H.len F
   obtain⟨b',J,Z,R,U,O,q0,q1,q2,q3,q4,q5,q6,q7,j⟩:=((H.kids.ext m).ext b).get q
   subst O
   have P:=hid (H.call y (bD q) Z R U _ j)
   have l:Hid (y.formed=true):=by
    unfold Hid
    cases X:y.formed
    ·rw[aQ (p:=fun x=>!x.formed) q (by simp[X])]at e
     exact absurd e.out (by simp)
    ·rfl
   have D:Hid ((ks.take (k+1)).any (fun x=>!x.formed)=false):=aN q C (by simp[l.out])
   clear q j b
   go_wp2_with (go_at_call 84;refine P.mono ?_;rintro _ w3 ⟨rfl,u⟩;rw[l.out])
   go_roundw
   case rel=>exact⟨k+1,by omega,by go_num,D,s.trans u⟩
   case measure=>simp[intOf];omega
  ·obtain rfl:k=n:=by omega
   have z:=hid (m.trans s)
   go_wp2_with (go_at_call 144;(with_reducible refine(dg nm _ H.out.nm).mono ?_);rintro _ w4 ⟨rfl,a⟩;rw[B.out];have d4:=a.keep c4;have d5:=a.keep c5;have d6:=a.keep c6;have d1:=a.keep c1)
   all_goals
    go_ret
    refine⟨ab ?_,z.trans a⟩
    rw[cO]
    simp[*]
theorem rc3c (op:Int) (tb nm vt:ByteArray) (ix vk vi:Int) (A:Option Addr) (n c:Nat) (w:World) (ks:List Ex) (h:RC ks tb nm vt A n c w) (f:Hid (ks.any (fun x=>!x.formed)=false)) (bN:(opN op !=(n:Int))=false) (b2:(op==2)=true) (D:Hid (nameB nm=true)) (C:Hid (nameB tb=false)) (t1:¬tb.toList= []) (t2:tb.toList.isEmpty=false):
  Calls Tryz.prog 84 #[.agg #[.int .i64 op,.string tb,.string nm,.int .i64 ix,.int .i64 vk,.int .i64 vi,.string vt,.slice A n c]] w fun r w'=>r= .returned (.bool false)∧Ext w w':=by
 have H:=hid h
 clear h
 have K:=hid (Blk.of_new w 37 (eC op tb nm ix vk vi vt A n c))
 have V:=hid ((Ext.refl w).alloc (.cells #[.int .i64 op,.string tb,.string nm,.int .i64 ix,.int .i64 vk,.int .i64 vi,.string vt,.slice A n c] 37))
 have Z:=H.le
 go_enter Tryz.func84,Tryz.ntmps84
 go_wp2_with fail
 generalize w.alloc (.cells #[.int .i64 op,.string tb,.string nm,.int .i64 ix,.int .i64 vk,.int .i64 vi,.string vt,.slice A n c] 37)=w1 at*
 generalize w.heap.size=g at*
 obtain⟨P,-,-,-,-,-,-,k7,-⟩:=lks K
 refine aa (by kernel_rfl) (by kernel_rfl) ?_
 repeat (go_big_quiet_step ((go_at_call 158;exact au (bt _ _))))
 refine wpQuiet_nil ?_
 intro J q
 have j:=af q
 clear q P k7
 have o:=hid (V.trans j)
 have G:=hid (K.ext j)
 clear j
 go_wp2_with fail
 go_loopw [3] (fun iv wr=> ∃k:Nat,k≤n∧iv= .int .i64 k∧(ks.take k).any (fun x=>!x.formed)=false∧Ext J wr) (fun i _=>n- (intOf i).toNat)
 case atStart=>exact⟨0,Nat.zero_le _,rfl,rfl,Ext.refl J⟩
 case round=>
  obtain⟨k,hk,rfl,O,b⟩:=hrel
  have t:=hid b
  have E:=hid O
  have u:=G.ext b
  obtain⟨c0,c1,c2,-,c4,c5,c6,c7,-⟩:=cls u
  clear u O
  by_cases I:k<n
  ·obtain⟨z,s⟩:=bF H.len I
   obtain⟨b',L,A',X,Y,R,q0,q1,q2,q3,q4,q5,q6,q7,l⟩:=((H.kids.ext o).ext b).get s
   subst R
   have U:=hid (H.call z (bD s) A' X Y _ l)
   have m:Hid (z.formed=true):=by
    unfold Hid
    cases hf:z.formed
    ·rw[aQ (p:=fun x=>!x.formed) s (by simp[hf])]at f
     exact absurd f.out (by simp)
    ·rfl
   have F:Hid ((ks.take (k+1)).any (fun x=>!x.formed)=false):=aN s E (by simp[m.out])
   clear s l b
   go_wp2_with (go_at_call 84;refine U.mono ?_;rintro _ w3 ⟨rfl,y⟩;rw[m.out])
   go_roundw
   case rel=>exact⟨k+1,by omega,by go_num,F,t.trans y⟩
   case measure=>simp[intOf];omega
  ·obtain rfl:k=n:=by omega
   have B:=hid (o.trans t)
   go_wp2_with (first|(go_at_call 144;(with_reducible refine(dg nm _ H.out.nm).mono ?_);rintro _ w4 ⟨rfl,a⟩;rw[D.out];have d4:=a.keep c4;have Q:=a.keep c5;have W:=a.keep c6;have d1:=a.keep c1)|(go_at_call 144;(with_reducible refine(dg tb _ H.out.tb).mono ?_);rintro _ w5 ⟨rfl,e⟩;rw[C.out];have f4:=e.keep d4;have f5:=e.keep Q;have f6:=e.keep W))
   go_ret
   exact⟨rfl,(B.trans a).trans e⟩
theorem rc3d (op:Int) (tb nm vt:ByteArray) (ix vk vi:Int) (A:Option Addr) (n c:Nat) (w:World) (ks:List Ex) (h:RC ks tb nm vt A n c w) (f:Hid (ks.any (fun x=>!x.formed)=false)) (bN:(opN op !=(n:Int))=false) (b2:(op==2)=true) (D:Hid (nameB nm=true)) (C:Hid (nameB tb=true)) (t1:¬tb.toList= []) (t2:tb.toList.isEmpty=false):
  Calls Tryz.prog 84 #[.agg #[.int .i64 op,.string tb,.string nm,.int .i64 ix,.int .i64 vk,.int .i64 vi,.string vt,.slice A n c]] w fun r w'=>r= .returned (.bool (vk==0&&vi==0&&vt.size==0))∧Ext w w':=by
 have H:=hid h
 clear h
 have K:=hid (Blk.of_new w 37 (eC op tb nm ix vk vi vt A n c))
 have V:=hid ((Ext.refl w).alloc (.cells #[.int .i64 op,.string tb,.string nm,.int .i64 ix,.int .i64 vk,.int .i64 vi,.string vt,.slice A n c] 37))
 have Z:=H.le
 go_enter Tryz.func84,Tryz.ntmps84
 go_wp2_with fail
 generalize w.alloc (.cells #[.int .i64 op,.string tb,.string nm,.int .i64 ix,.int .i64 vk,.int .i64 vi,.string vt,.slice A n c] 37)=w1 at*
 generalize w.heap.size=g at*
 obtain⟨P,-,-,-,-,-,-,k7,-⟩:=lks K
 refine aa (by kernel_rfl) (by kernel_rfl) ?_
 repeat (go_big_quiet_step ((go_at_call 158;exact au (bt _ _))))
 refine wpQuiet_nil ?_
 intro J q
 have j:=af q
 clear q P k7
 have o:=hid (V.trans j)
 have G:=hid (K.ext j)
 clear j
 go_wp2_with fail
 go_loopw [3] (fun iv wr=> ∃k:Nat,k≤n∧iv= .int .i64 k∧(ks.take k).any (fun x=>!x.formed)=false∧Ext J wr) (fun i _=>n- (intOf i).toNat)
 case atStart=>exact⟨0,Nat.zero_le _,rfl,rfl,Ext.refl J⟩
 case round=>
  obtain⟨k,hk,rfl,O,b⟩:=hrel
  have t:=hid b
  have E:=hid O
  have u:=G.ext b
  obtain⟨c0,c1,c2,-,c4,c5,c6,c7,-⟩:=cls u
  clear u O
  by_cases I:k<n
  ·obtain⟨z,s⟩:=bF H.len I
   obtain⟨b',L,A',X,Y,R,q0,q1,q2,q3,q4,q5,q6,q7,l⟩:=((H.kids.ext o).ext b).get s
   subst R
   have U:=hid (H.call z (bD s) A' X Y _ l)
   have m:Hid (z.formed=true):=by
    unfold Hid
    cases hf:z.formed
    ·rw[aQ (p:=fun x=>!x.formed) s (by simp[hf])]at f
     exact absurd f.out (by simp)
    ·rfl
   have F:Hid ((ks.take (k+1)).any (fun x=>!x.formed)=false):=aN s E (by simp[m.out])
   clear s l b
   go_wp2_with (go_at_call 84;refine U.mono ?_;rintro _ w3 ⟨rfl,y⟩;rw[m.out])
   go_roundw
   case rel=>exact⟨k+1,by omega,by go_num,F,t.trans y⟩
   case measure=>simp[intOf];omega
  ·obtain rfl:k=n:=by omega
   have B:=hid (o.trans t)
   go_wp2_with (first|(go_at_call 144;(with_reducible refine(dg nm _ H.out.nm).mono ?_);rintro _ w4 ⟨rfl,a⟩;rw[D.out];have d4:=a.keep c4;have Q:=a.keep c5;have W:=a.keep c6;have d1:=a.keep c1)|(go_at_call 144;(with_reducible refine(dg tb _ H.out.tb).mono ?_);rintro _ w5 ⟨rfl,e⟩;rw[C.out];have f4:=e.keep d4;have f5:=e.keep Q;have f6:=e.keep W))
   all_goals
    go_ret
    refine⟨ab ?_,(B.trans a).trans e⟩
    rw[cO]
    simp[*]
theorem rc4a (op:Int) (tb nm vt:ByteArray) (ix vk vi:Int) (A:Option Addr) (n c:Nat) (w:World) (ks:List Ex) (h:RC ks tb nm vt A n c w) (b:Hid (ks.any (fun x=>!x.formed)=false)) (bN:(opN op !=(n:Int))=false) (Y:(op==2)=false) (t1:¬tb.toList= []) (t2:tb.toList.isEmpty=false):
  Calls Tryz.prog 84 #[.agg #[.int .i64 op,.string tb,.string nm,.int .i64 ix,.int .i64 vk,.int .i64 vi,.string vt,.slice A n c]] w fun r w'=>r= .returned (.bool false)∧Ext w w':=by
 have H:=hid h
 clear h
 have F:=hid (Blk.of_new w 37 (eC op tb nm ix vk vi vt A n c))
 have O:=hid ((Ext.refl w).alloc (.cells #[.int .i64 op,.string tb,.string nm,.int .i64 ix,.int .i64 vk,.int .i64 vi,.string vt,.slice A n c] 37))
 have R:=H.le
 go_enter Tryz.func84,Tryz.ntmps84
 go_wp2_with fail
 generalize w.alloc (.cells #[.int .i64 op,.string tb,.string nm,.int .i64 ix,.int .i64 vk,.int .i64 vi,.string vt,.slice A n c] 37)=w1 at*
 generalize w.heap.size=g at*
 obtain⟨J,-,-,-,-,-,-,U,-⟩:=lks F
 refine aa (by kernel_rfl) (by kernel_rfl) ?_
 repeat (go_big_quiet_step ((go_at_call 158;exact au (bt _ _))))
 refine wpQuiet_nil ?_
 intro E m
 have e:=af m
 clear m J U
 have l:=hid (O.trans e)
 have C:=hid (F.ext e)
 clear e
 go_wp2_with fail
 go_loopw [3] (fun W wr=> ∃k:Nat,k≤n∧W= .int .i64 k∧(ks.take k).any (fun x=>!x.formed)=false∧Ext E wr) (fun i _=>n- (intOf i).toNat)
 case atStart=>exact⟨0,Nat.zero_le _,rfl,rfl,Ext.refl E⟩
 case round=>
  obtain⟨k,hk,rfl,I,a⟩:=hrel
  have q:=hid a
  have z:=hid I
  have s:=C.ext a
  obtain⟨c0,c1,c2,-,c4,c5,c6,c7,-⟩:=cls s
  clear s I
  by_cases D:k<n
  ·obtain⟨u,o⟩:=bF H.len D
   obtain⟨b',G,X,P,Q,K,q0,q1,q2,q3,Z,q5,q6,q7,f⟩:=((H.kids.ext l).ext a).get o
   subst K
   have L:=hid (H.call u (bD o) X P Q _ f)
   have j:Hid (u.formed=true):=by
    unfold Hid
    cases V:u.formed
    ·rw[aQ (p:=fun x=>!x.formed) o (by simp[V])]at b
     exact absurd b.out (by simp)
    ·rfl
   have B:Hid ((ks.take (k+1)).any (fun x=>!x.formed)=false):=aN o z (by simp[j.out])
   clear o f a
   go_wp2_with (go_at_call 84;refine L.mono ?_;rintro _ w3 ⟨rfl,t⟩;rw[j.out])
   go_roundw
   case rel=>exact⟨k+1,by omega,by go_num,B,q.trans t⟩
   case measure=>simp[intOf];omega
  ·obtain rfl:k=n:=by omega
   have y:=hid (l.trans q)
   go_wp2_with fail
   go_ret
   exact⟨rfl,y⟩
theorem rc4b (op:Int) (nm vt:ByteArray) (ix vk vi:Int) (A:Option Addr) (n c:Nat) (w:World) (ks:List Ex) (h:RC ks ⟨#[]⟩ nm vt A n c w) (b:Hid (ks.any (fun x=>!x.formed)=false)) (bN:(opN op !=(n:Int))=false) (Y:(op==2)=false) (t1:¬nm.toList= []) (t2:nm.toList.isEmpty=false):
  Calls Tryz.prog 84 #[.agg #[.int .i64 op,.string ⟨#[]⟩,.string nm,.int .i64 ix,.int .i64 vk,.int .i64 vi,.string vt,.slice A n c]] w fun r w'=>r= .returned (.bool false)∧Ext w w':=by
 have H:=hid h
 clear h
 have F:=hid (Blk.of_new w 37 (eC op ⟨#[]⟩ nm ix vk vi vt A n c))
 have O:=hid ((Ext.refl w).alloc (.cells #[.int .i64 op,.string ⟨#[]⟩,.string nm,.int .i64 ix,.int .i64 vk,.int .i64 vi,.string vt,.slice A n c] 37))
 have R:=H.le
 go_enter Tryz.func84,Tryz.ntmps84
 go_wp2_with fail
 generalize w.alloc (.cells #[.int .i64 op,.string ⟨#[]⟩,.string nm,.int .i64 ix,.int .i64 vk,.int .i64 vi,.string vt,.slice A n c] 37)=w1 at*
 generalize w.heap.size=g at*
 obtain⟨J,-,-,-,-,-,-,U,-⟩:=lks F
 refine aa (by kernel_rfl) (by kernel_rfl) ?_
 repeat (go_big_quiet_step ((go_at_call 158;exact au (bt _ _))))
 refine wpQuiet_nil ?_
 intro E m
 have e:=af m
 clear m J U
 have l:=hid (O.trans e)
 have C:=hid (F.ext e)
 clear e
 go_wp2_with fail
 go_loopw [3] (fun W wr=> ∃k:Nat,k≤n∧W= .int .i64 k∧(ks.take k).any (fun x=>!x.formed)=false∧Ext E wr) (fun i _=>n- (intOf i).toNat)
 case atStart=>exact⟨0,Nat.zero_le _,rfl,rfl,Ext.refl E⟩
 case round=>
  obtain⟨k,hk,rfl,I,a⟩:=hrel
  have q:=hid a
  have z:=hid I
  have s:=C.ext a
  obtain⟨c0,c1,c2,-,c4,c5,c6,c7,-⟩:=cls s
  clear s I
  by_cases D:k<n
  ·obtain⟨u,o⟩:=bF H.len D
   obtain⟨b',G,X,P,Q,K,q0,q1,q2,q3,Z,q5,q6,q7,f⟩:=((H.kids.ext l).ext a).get o
   subst K
   have L:=hid (H.call u (bD o) X P Q _ f)
   have j:Hid (u.formed=true):=by
    unfold Hid
    cases V:u.formed
    ·rw[aQ (p:=fun x=>!x.formed) o (by simp[V])]at b
     exact absurd b.out (by simp)
    ·rfl
   have B:Hid ((ks.take (k+1)).any (fun x=>!x.formed)=false):=aN o z (by simp[j.out])
   clear o f a
   go_wp2_with (go_at_call 84;refine L.mono ?_;rintro _ w3 ⟨rfl,t⟩;rw[j.out])
   go_roundw
   case rel=>exact⟨k+1,by omega,by go_num,B,q.trans t⟩
   case measure=>simp[intOf];omega
  ·obtain rfl:k=n:=by omega
   have y:=hid (l.trans q)
   go_wp2_with fail
   go_ret
   exact⟨rfl,y⟩
theorem rc5 (op:Int) (vt:ByteArray) (ix vk vi:Int) (A:Option Addr) (n c:Nat) (w:World) (ks:List Ex) (d:Nd) (G:d.vk=vk) (L:d.vi=vi) (P:d.vt=vt) (h:RC ks ⟨#[]⟩ ⟨#[]⟩ vt A n c w) (b:Hid (ks.any (fun x=>!x.formed)=false)) (bN:(opN op !=(n:Int))=false) (b2:(op==2)=false) (b1:(op==1)=true):
  Calls Tryz.prog 84 #[.agg #[.int .i64 op,.string ⟨#[]⟩,.string ⟨#[]⟩,.int .i64 ix,.int .i64 vk,.int .i64 vi,.string vt,.slice A n c]] w fun r w'=>r= .returned (.bool d.litB)∧Ext w w':=by
 have H:=hid h
 clear h
 have l:=hid (fun W=>lm vk vi vt W H.vt d G L P)
 clear G L P
 have J:=hid (Blk.of_new w 37 (eC op ⟨#[]⟩ ⟨#[]⟩ ix vk vi vt A n c))
 have V:=hid ((Ext.refl w).alloc (.cells #[.int .i64 op,.string ⟨#[]⟩,.string ⟨#[]⟩,.int .i64 ix,.int .i64 vk,.int .i64 vi,.string vt,.slice A n c] 37))
 have Z:=H.le
 go_enter Tryz.func84,Tryz.ntmps84
 go_wp2_with fail
 generalize w.alloc (.cells #[.int .i64 op,.string ⟨#[]⟩,.string ⟨#[]⟩,.int .i64 ix,.int .i64 vk,.int .i64 vi,.string vt,.slice A n c] 37)=w1 at*
 generalize w.heap.size=g at*
 obtain⟨Q,-,-,-,-,-,-,k7,-⟩:=lks J
 refine aa (by kernel_rfl) (by kernel_rfl) ?_
 repeat (go_big_quiet_step ((go_at_call 158;exact au (bt _ _))))
 refine wpQuiet_nil ?_
 intro I o
 have e:=af o
 clear o Q k7
 have m:=hid (V.trans e)
 have E:=hid (J.ext e)
 clear e
 go_wp2_with fail
 go_loopw [3] (fun iv wr=> ∃k:Nat,k≤n∧iv= .int .i64 k∧(ks.take k).any (fun x=>!x.formed)=false∧Ext I wr) (fun i _=>n- (intOf i).toNat)
 case atStart=>exact⟨0,Nat.zero_le _,rfl,rfl,Ext.refl I⟩
 case round=>
  obtain⟨k,hk,rfl,O,a⟩:=hrel
  have s:=hid a
  have C:=hid O
  have t:=E.ext a
  obtain⟨c0,c1,c2,-,c4,c5,c6,c7,-⟩:=cls t
  clear t O
  by_cases F:k<n
  ·obtain⟨z,q⟩:=bF H.len F
   obtain⟨b',K,A',X,Y,R,q0,q1,q2,q3,q4,q5,q6,q7,f⟩:=((H.kids.ext m).ext a).get q
   subst R
   have U:=hid (H.call z (bD q) A' X Y _ f)
   have j:Hid (z.formed=true):=by
    unfold Hid
    cases hf:z.formed
    ·rw[aQ (p:=fun x=>!x.formed) q (by simp[hf])]at b
     exact absurd b.out (by simp)
    ·rfl
   have D:Hid ((ks.take (k+1)).any (fun x=>!x.formed)=false):=aN q C (by simp[j.out])
   clear q f a
   go_wp2_with (go_at_call 84;refine U.mono ?_;rintro _ w3 ⟨rfl,u⟩;rw[j.out])
   go_roundw
   case rel=>exact⟨k+1,by omega,by go_num,D,s.trans u⟩
   case measure=>simp[intOf];omega
  ·obtain rfl:k=n:=by omega
   have B:=hid (m.trans s)
   go_wp2_with (go_at_call 159;refine(l _).mono ?_;rintro _ w4 ⟨rfl,y⟩)
   go_ret
   exact⟨rfl,B.trans y⟩
theorem rc6a (op:Int) (vt:ByteArray) (ix vk vi:Int) (n c:Nat) (w:World) (ks:List Ex) (b a:Nat) (op1:Int) (G:Int) (HQ:Hid (w.cell? ⟨b,a+1*8,none⟩=some (.int .i64 op1)∧w.cell? ⟨b,a+1*8+4,none⟩=some (.int .i64 G))) (h:RC ks ⟨#[]⟩ ⟨#[]⟩ vt (some ⟨b,a,none⟩) n c w) (f:Hid (ks.any (fun x=>!x.formed)=false)) (bN:(opN op !=(n:Int))=false) (b2:(op==2)=false) (b1:(op==1)=false) (ac:(op==16)=true) (W:(1:Int)<(n:Int)) (p1:(op1 !=1)=true):
  Calls Tryz.prog 84 #[.agg #[.int .i64 op,.string ⟨#[]⟩,.string ⟨#[]⟩,.int .i64 ix,.int .i64 vk,.int .i64 vi,.string vt,.slice (some ⟨b,a,none⟩) n c]] w fun r w'=>r= .returned (.bool false)∧Ext w w':=by
 have H:=hid h
 clear h
 have L:=hid (Blk.of_new w 37 (eC op ⟨#[]⟩ ⟨#[]⟩ ix vk vi vt (some ⟨b,a,none⟩) n c))
 have U:=hid ((Ext.refl w).alloc (.cells #[.int .i64 op,.string ⟨#[]⟩,.string ⟨#[]⟩,.int .i64 ix,.int .i64 vk,.int .i64 vi,.string vt,.slice (some ⟨b,a,none⟩) n c] 37))
 have Y:=H.le
 go_enter Tryz.func84,Tryz.ntmps84
 go_wp2_with fail
 generalize w.alloc (.cells #[.int .i64 op,.string ⟨#[]⟩,.string ⟨#[]⟩,.int .i64 ix,.int .i64 vk,.int .i64 vi,.string vt,.slice (some ⟨b,a,none⟩) n c] 37)=w1 at*
 generalize w.heap.size=g at*
 obtain⟨Q,-,-,-,-,-,-,Z,-⟩:=lks L
 refine aa (by kernel_rfl) (by kernel_rfl) ?_
 repeat (go_big_quiet_step ((go_at_call 158;exact au (bt _ _))))
 refine wpQuiet_nil ?_
 intro K s
 have l:=af s
 clear s Q Z
 have q:=hid (U.trans l)
 have E:=hid (L.ext l)
 clear l
 go_wp2_with fail
 go_loopw [3] (fun iv wr=> ∃k:Nat,k≤n∧iv= .int .i64 k∧(ks.take k).any (fun x=>!x.formed)=false∧Ext K wr) (fun i _=>n- (intOf i).toNat)
 case atStart=>exact⟨0,Nat.zero_le _,rfl,rfl,Ext.refl K⟩
 case round=>
  obtain⟨k,hk,rfl,P,e⟩:=hrel
  have u:=hid e
  have C:=hid P
  have y:=E.ext e
  obtain⟨c0,c1,c2,-,c4,c5,c6,c7,-⟩:=cls y
  clear y P
  by_cases I:k<n
  ·obtain⟨B,t⟩:=bF H.len I
   obtain⟨b',O,A',V,X,J,D,q1,q2,q3,z,q5,q6,q7,m⟩:=((H.kids.ext q).ext e).get t
   simp only[Option.some.injEq,Addr.mk.injEq,and_true]at J
   obtain⟨rfl,rfl⟩:=J
   have R:=hid (H.call B (bD t) A' V X _ m)
   have o:Hid (B.formed=true):=by
    unfold Hid
    cases hf:B.formed
    ·rw[aQ (p:=fun x=>!x.formed) t (by simp[hf])]at f
     exact absurd f.out (by simp)
    ·rfl
   have F:Hid ((ks.take (k+1)).any (fun x=>!x.formed)=false):=aN t C (by simp[o.out])
   clear t m e
   go_wp2_with (go_at_call 84;refine R.mono ?_;rintro _ w3 ⟨rfl,A⟩;rw[o.out])
   go_roundw
   case rel=>exact⟨k+1,by omega,by go_num,F,u.trans A⟩
   case measure=>simp[intOf];omega
  ·obtain rfl:k=n:=by omega
   have j:=hid (q.trans u)
   obtain⟨D,z⟩:=HQ.out
   replace D:=j.keep D
   replace z:=j.keep z
   go_wp2_with fail
   go_ret
   exact⟨rfl,j⟩
theorem rc6b (op:Int) (vt:ByteArray) (ix vk vi:Int) (n c:Nat) (w:World) (ks:List Ex) (b a:Nat) (op1:Int) (z:Int) (HQ:Hid (w.cell? ⟨b,a+1*8,none⟩=some (.int .i64 op1)∧w.cell? ⟨b,a+1*8+4,none⟩=some (.int .i64 z))) (h:RC ks ⟨#[]⟩ ⟨#[]⟩ vt (some ⟨b,a,none⟩) n c w) (f:Hid (ks.any (fun x=>!x.formed)=false)) (bN:(opN op !=(n:Int))=false) (b2:(op==2)=false) (b1:(op==1)=false) (ac:(op==16)=true) (W:(1:Int)<(n:Int)) (p1:(op1 !=1)=false) (p2:(z !=2)=true):
  Calls Tryz.prog 84 #[.agg #[.int .i64 op,.string ⟨#[]⟩,.string ⟨#[]⟩,.int .i64 ix,.int .i64 vk,.int .i64 vi,.string vt,.slice (some ⟨b,a,none⟩) n c]] w fun r w'=>r= .returned (.bool false)∧Ext w w':=by
 have H:=hid h
 clear h
 have L:=hid (Blk.of_new w 37 (eC op ⟨#[]⟩ ⟨#[]⟩ ix vk vi vt (some ⟨b,a,none⟩) n c))
 have U:=hid ((Ext.refl w).alloc (.cells #[.int .i64 op,.string ⟨#[]⟩,.string ⟨#[]⟩,.int .i64 ix,.int .i64 vk,.int .i64 vi,.string vt,.slice (some ⟨b,a,none⟩) n c] 37))
 have Y:=H.le
 go_enter Tryz.func84,Tryz.ntmps84
 go_wp2_with fail
 generalize w.alloc (.cells #[.int .i64 op,.string ⟨#[]⟩,.string ⟨#[]⟩,.int .i64 ix,.int .i64 vk,.int .i64 vi,.string vt,.slice (some ⟨b,a,none⟩) n c] 37)=w1 at*
 generalize w.heap.size=g at*
 obtain⟨Q,-,-,-,-,-,-,Z,-⟩:=lks L
 refine aa (by kernel_rfl) (by kernel_rfl) ?_
 repeat (go_big_quiet_step ((go_at_call 158;exact au (bt _ _))))
 refine wpQuiet_nil ?_
 intro K s
 have l:=af s
 clear s Q Z
 have q:=hid (U.trans l)
 have F:=hid (L.ext l)
 clear l
 go_wp2_with fail
 go_loopw [3] (fun iv wr=> ∃k:Nat,k≤n∧iv= .int .i64 k∧(ks.take k).any (fun x=>!x.formed)=false∧Ext K wr) (fun i _=>n- (intOf i).toNat)
 case atStart=>exact⟨0,Nat.zero_le _,rfl,rfl,Ext.refl K⟩
 case round=>
  obtain⟨k,hk,rfl,P,e⟩:=hrel
  have u:=hid e
  have D:=hid P
  have y:=F.ext e
  obtain⟨c0,c1,c2,-,c4,c5,c6,c7,-⟩:=cls y
  clear y P
  by_cases I:k<n
  ·obtain⟨C,t⟩:=bF H.len I
   obtain⟨b',O,A',V,X,J,E,q1,q2,q3,A,q5,q6,q7,m⟩:=((H.kids.ext q).ext e).get t
   simp only[Option.some.injEq,Addr.mk.injEq,and_true]at J
   obtain⟨rfl,rfl⟩:=J
   have R:=hid (H.call C (bD t) A' V X _ m)
   have o:Hid (C.formed=true):=by
    unfold Hid
    cases hf:C.formed
    ·rw[aQ (p:=fun x=>!x.formed) t (by simp[hf])]at f
     exact absurd f.out (by simp)
    ·rfl
   have G:Hid ((ks.take (k+1)).any (fun x=>!x.formed)=false):=aN t D (by simp[o.out])
   clear t m e
   go_wp2_with (go_at_call 84;refine R.mono ?_;rintro _ w3 ⟨rfl,B⟩;rw[o.out])
   go_roundw
   case rel=>exact⟨k+1,by omega,by go_num,G,u.trans B⟩
   case measure=>simp[intOf];omega
  ·obtain rfl:k=n:=by omega
   have j:=hid (q.trans u)
   obtain⟨E,A⟩:=HQ.out
   replace E:=j.keep E
   replace A:=j.keep A
   go_wp2_with fail
   go_ret
   exact⟨rfl,j⟩
theorem rc6c (op:Int) (vt:ByteArray) (ix vk vi:Int) (n c:Nat) (w:World) (ks:List Ex) (b a:Nat) (op1:Int) (z:Int) (HQ:Hid (w.cell? ⟨b,a+1*8,none⟩=some (.int .i64 op1)∧w.cell? ⟨b,a+1*8+4,none⟩=some (.int .i64 z))) (h:RC ks ⟨#[]⟩ ⟨#[]⟩ vt (some ⟨b,a,none⟩) n c w) (f:Hid (ks.any (fun x=>!x.formed)=false)) (bN:(opN op !=(n:Int))=false) (b2:(op==2)=false) (b1:(op==1)=false) (ac:(op==16)=true) (W:(1:Int)<(n:Int)) (p1:(op1 !=1)=false) (p2:(z !=2)=false):
  Calls Tryz.prog 84 #[.agg #[.int .i64 op,.string ⟨#[]⟩,.string ⟨#[]⟩,.int .i64 ix,.int .i64 vk,.int .i64 vi,.string vt,.slice (some ⟨b,a,none⟩) n c]] w fun r w'=>r= .returned (.bool (vk==0&&vi==0&&vt.size==0))∧Ext w w':=by
 have H:=hid h
 clear h
 have L:=hid (Blk.of_new w 37 (eC op ⟨#[]⟩ ⟨#[]⟩ ix vk vi vt (some ⟨b,a,none⟩) n c))
 have U:=hid ((Ext.refl w).alloc (.cells #[.int .i64 op,.string ⟨#[]⟩,.string ⟨#[]⟩,.int .i64 ix,.int .i64 vk,.int .i64 vi,.string vt,.slice (some ⟨b,a,none⟩) n c] 37))
 have Y:=H.le
 go_enter Tryz.func84,Tryz.ntmps84
 go_wp2_with fail
 generalize w.alloc (.cells #[.int .i64 op,.string ⟨#[]⟩,.string ⟨#[]⟩,.int .i64 ix,.int .i64 vk,.int .i64 vi,.string vt,.slice (some ⟨b,a,none⟩) n c] 37)=w1 at*
 generalize w.heap.size=g at*
 obtain⟨Q,-,-,-,-,-,-,Z,-⟩:=lks L
 refine aa (by kernel_rfl) (by kernel_rfl) ?_
 repeat (go_big_quiet_step ((go_at_call 158;exact au (bt _ _))))
 refine wpQuiet_nil ?_
 intro K s
 have l:=af s
 clear s Q Z
 have q:=hid (U.trans l)
 have F:=hid (L.ext l)
 clear l
 go_wp2_with fail
 go_loopw [3] (fun iv wr=> ∃k:Nat,k≤n∧iv= .int .i64 k∧(ks.take k).any (fun x=>!x.formed)=false∧Ext K wr) (fun i _=>n- (intOf i).toNat)
 case atStart=>exact⟨0,Nat.zero_le _,rfl,rfl,Ext.refl K⟩
 case round=>
  obtain⟨k,hk,rfl,P,e⟩:=hrel
  have u:=hid e
  have D:=hid P
  have y:=F.ext e
  obtain⟨c0,c1,c2,-,c4,c5,c6,c7,-⟩:=cls y
  clear y P
  by_cases I:k<n
  ·obtain⟨C,t⟩:=bF H.len I
   obtain⟨b',O,A',V,X,J,E,q1,q2,q3,A,q5,q6,q7,m⟩:=((H.kids.ext q).ext e).get t
   simp only[Option.some.injEq,Addr.mk.injEq,and_true]at J
   obtain⟨rfl,rfl⟩:=J
   have R:=hid (H.call C (bD t) A' V X _ m)
   have o:Hid (C.formed=true):=by
    unfold Hid
    cases hf:C.formed
    ·rw[aQ (p:=fun x=>!x.formed) t (by simp[hf])]at f
     exact absurd f.out (by simp)
    ·rfl
   have G:Hid ((ks.take (k+1)).any (fun x=>!x.formed)=false):=aN t D (by simp[o.out])
   clear t m e
   go_wp2_with (go_at_call 84;refine R.mono ?_;rintro _ w3 ⟨rfl,B⟩;rw[o.out])
   go_roundw
   case rel=>exact⟨k+1,by omega,by go_num,G,u.trans B⟩
   case measure=>simp[intOf];omega
  ·obtain rfl:k=n:=by omega
   have j:=hid (q.trans u)
   obtain⟨E,A⟩:=HQ.out
   replace E:=j.keep E
   replace A:=j.keep A
   go_wp2_with fail
   all_goals
    go_ret
    refine⟨ab ?_,j⟩
    rw[cO]
    simp[*]
theorem rc7 (op:Int) (vt:ByteArray) (ix vk vi:Int) (A:Option Addr) (n c:Nat) (w:World) (ks:List Ex) (h:RC ks ⟨#[]⟩ ⟨#[]⟩ vt A n c w) (b:Hid (ks.any (fun x=>!x.formed)=false)) (bN:(opN op !=(n:Int))=false) (Z:(op==2)=false) (b1:(op==1)=false) (X:(op==16)=false):
  Calls Tryz.prog 84 #[.agg #[.int .i64 op,.string ⟨#[]⟩,.string ⟨#[]⟩,.int .i64 ix,.int .i64 vk,.int .i64 vi,.string vt,.slice A n c]] w fun r w'=>r= .returned (.bool (vk==0&&vi==0&&vt.size==0))∧Ext w w':=by
 have H:=hid h
 clear h
 have F:=hid (Blk.of_new w 37 (eC op ⟨#[]⟩ ⟨#[]⟩ ix vk vi vt A n c))
 have O:=hid ((Ext.refl w).alloc (.cells #[.int .i64 op,.string ⟨#[]⟩,.string ⟨#[]⟩,.int .i64 ix,.int .i64 vk,.int .i64 vi,.string vt,.slice A n c] 37))
 have R:=H.le
 go_enter Tryz.func84,Tryz.ntmps84
 go_wp2_with fail
 generalize w.alloc (.cells #[.int .i64 op,.string ⟨#[]⟩,.string ⟨#[]⟩,.int .i64 ix,.int .i64 vk,.int .i64 vi,.string vt,.slice A n c] 37)=w1 at*
 generalize w.heap.size=g at*
 obtain⟨J,-,-,-,-,-,-,U,-⟩:=lks F
 refine aa (by kernel_rfl) (by kernel_rfl) ?_
 repeat (go_big_quiet_step ((go_at_call 158;exact au (bt _ _))))
 refine wpQuiet_nil ?_
 intro E m
 have e:=af m
 clear m J U
 have l:=hid (O.trans e)
 have C:=hid (F.ext e)
 clear e
 go_wp2_with fail
 go_loopw [3] (fun W wr=> ∃k:Nat,k≤n∧W= .int .i64 k∧(ks.take k).any (fun x=>!x.formed)=false∧Ext E wr) (fun i _=>n- (intOf i).toNat)
 case atStart=>exact⟨0,Nat.zero_le _,rfl,rfl,Ext.refl E⟩
 case round=>
  obtain⟨k,hk,rfl,I,a⟩:=hrel
  have q:=hid a
  have z:=hid I
  have s:=C.ext a
  obtain⟨c0,c1,c2,-,c4,c5,c6,c7,-⟩:=cls s
  clear s I
  by_cases D:k<n
  ·obtain⟨u,o⟩:=bF H.len D
   obtain⟨b',G,Y,P,Q,L,q0,q1,q2,q3,q4,q5,q6,q7,f⟩:=((H.kids.ext l).ext a).get o
   subst L
   have K:=hid (H.call u (bD o) Y P Q _ f)
   have j:Hid (u.formed=true):=by
    unfold Hid
    cases V:u.formed
    ·rw[aQ (p:=fun x=>!x.formed) o (by simp[V])]at b
     exact absurd b.out (by simp)
    ·rfl
   have B:Hid ((ks.take (k+1)).any (fun x=>!x.formed)=false):=aN o z (by simp[j.out])
   clear o f a
   go_wp2_with (go_at_call 84;refine K.mono ?_;rintro _ w3 ⟨rfl,t⟩;rw[j.out])
   go_roundw
   case rel=>exact⟨k+1,by omega,by go_num,B,q.trans t⟩
   case measure=>simp[intOf];omega
  ·obtain rfl:k=n:=by omega
   have y:=hid (l.trans q)
   go_wp2_with fail
   all_goals
    go_ret
    refine⟨ab ?_,y⟩
    rw[cO]
    simp[*]
theorem mu:∀(e:Ex) (A:Option Addr) (n c:Nat) (w:World),ExV w e A n c→
  Calls Tryz.prog 84 #[e.d.val A n c] w fun r w'=>r= .returned (.bool e.formed)∧Ext w w':=by
 intro e
 induction e using Ex.ind with
 |h d ks ih=>
  intro A n c w hv
  obtain⟨D,Z,C,F⟩:=hv
  have D:ks.length=n:=D
  have F:KidsAt w A ks:=F
  have C:d.fit:=C
  have U:=kz d ks
  rw[D]at U
  have a:RC ks d.tb d.nm d.vt A n c w:=⟨C.tb,C.nm,C.vt,D,Z,F,fun x m X Q R W O=>ih x m X Q R W O⟩
  have L:ndB d (ks.map Ex.d)=if d.op=2 then nameB d.nm&& (d.tb.size==0||nameB d.tb) &&d.valZ
   else if d.op=1 then d.tb.size==0&&d.nm.size==0&&d.litB
   else if d.op=16∧(((ks.map Ex.d).getD 1 d).op≠1∨((ks.map Ex.d).getD 1 d).vk≠2)then false
   else d.tb.size==0&&d.nm.size==0&&d.valZ:=rfl
  have q:d.valZ=(d.vk==0&&d.vi==0&&d.vt.size==0):=rfl
  have B:∀A,(Ex.mk d ks).d.val A n c= .agg #[.int .i64 d.op,.string d.tb,.string d.nm,.int .i64 d.ix,.int .i64 d.vk,.int .i64 d.vi,.string d.vt,.slice A n c]:=fun _=>rfl
  rw[B,U]
  by_cases p:opN d.op=(n:Int)
  ·have g:(opN d.op !=(n:Int))=false:=by rw[p];simp
   have t:(opN d.op==(n:Int))=true:=by rw[p];simp
   rw[t,Bool.true_and]
   cases l:ks.any fun x=>!x.formed
   ·simp only[Bool.not_false,Bool.true_and]
    rw[L]
    by_cases H:d.op=2
    ·rw[if_pos H]
     have k:(d.op==2)=true:=by rw[H];rfl
     cases m:nameB d.nm
     ·exact rc3a _ _ _ _ _ _ _ _ _ _ _ _ a l g k m
     ·by_cases f:d.tb.size=0
      ·rw[f,q]
       simp only[beq_self_eq_true,Bool.true_and,Bool.true_or]
       rw[bu f]at a ⊢
       exact rc3b _ _ _ _ _ _ _ _ _ _ _ a l g k m
      ·have z:(d.tb.size==0)=false:=by simpa using f
       rw[z]
       cases V:nameB d.tb
       ·exact rc3c _ _ _ _ _ _ _ _ _ _ _ _ a l g k m V (bU f) (bI f)
       ·rw[q]
        simp only[Bool.true_and,Bool.or_true]
        exact rc3d _ _ _ _ _ _ _ _ _ _ _ _ a l g k m V (bU f) (bI f)
    ·rw[if_neg H]
     have k:(d.op==2)=false:=by simpa using H
     by_cases f:d.tb.size=0
     ·have I:=bu f
      by_cases y:d.nm.size=0
      ·have P:=bu y
       by_cases J:d.op=1
       ·rw[if_pos J,f,y]
        simp only[beq_self_eq_true,Bool.true_and]
        rw[I,P]at a ⊢
        exact rc5 _ _ _ _ _ _ _ _ _ _ d rfl rfl rfl a l g k (by rw[J];rfl)
       ·rw[if_neg J]
        have E:(d.op==1)=false:=by simpa using J
        rw[f,y,q]
        simp only[beq_self_eq_true,Bool.true_and]
        by_cases j:d.op=16
        ·have Y:n=2:=by
          rw[j]at p
          unfold opN at p
          simp at p
          omega
         obtain⟨x,m⟩:=bF (i:=1) D (by omega)
         obtain⟨b,o,X,Q,R,rfl,u⟩:=F.get m
         obtain⟨dx,kx⟩:=x
         rw[get1 d m]
         have s:(d.op==16)=true:=by rw[j];rfl
         rw[I,P]at a ⊢
         by_cases o1:dx.op=1
         ·by_cases G:dx.vk=2
          ·rw[if_neg (by rintro⟨_,h|h⟩;exact h o1;exact h G)]
           exact rc6c _ _ _ _ _ _ _ _ _ b o dx.op dx.vk ⟨u.c0,u.c4⟩ a l g k E s (by omega) (by rw[o1];rfl) (by rw[G];rfl)
          ·rw[if_pos ⟨j,.inr G⟩]
           exact rc6b _ _ _ _ _ _ _ _ _ b o dx.op dx.vk ⟨u.c0,u.c4⟩ a l g k E s (by omega) (by rw[o1];rfl) (by simpa using G)
         ·rw[if_pos ⟨j,.inl o1⟩]
          exact rc6a _ _ _ _ _ _ _ _ _ b o dx.op dx.vk ⟨u.c0,u.c4⟩ a l g k E s (by omega) (by simpa using o1)
        ·rw[if_neg (fun h=>j h.1)]
         rw[I,P]at a ⊢
         exact rc7 _ _ _ _ _ _ _ _ _ _ a l g k E (by simpa using j)
      ·have z:(d.nm.size==0)=false:=by simpa using y
       have K:(if d.op=1 then d.tb.size==0&&d.nm.size==0&&d.litB else if d.op=16∧(((ks.map Ex.d).getD 1 d).op≠1∨((ks.map Ex.d).getD 1 d).vk≠2)then false else d.tb.size==0&&d.nm.size==0&&d.valZ)=false:=by
        rw[z]
        simp
       rw[K]
       rw[I]at a ⊢
       exact rc4b _ _ _ _ _ _ _ _ _ _ _ a l g k (bU y) (bI y)
     ·have z:(d.tb.size==0)=false:=by simpa using f
      have K:(if d.op=1 then d.tb.size==0&&d.nm.size==0&&d.litB else if d.op=16∧(((ks.map Ex.d).getD 1 d).op≠1∨((ks.map Ex.d).getD 1 d).vk≠2)then false else d.tb.size==0&&d.nm.size==0&&d.valZ)=false:=by
       rw[z]
       simp
      rw[K]
      exact rc4a _ _ _ _ _ _ _ _ _ _ _ _ a l g k (bU f) (bI f)
   ·simp only[Bool.not_true,Bool.false_and]
    exact rc2 _ _ _ _ _ _ _ _ _ _ _ _ a l g
  ·have g:(opN d.op !=(n:Int))=true:=by simpa using p
   have t:(opN d.op==(n:Int))=false:=by simpa using p
   rw[t]
   simp only[Bool.false_and]
   exact rc1 _ _ _ _ _ _ _ _ _ _ _ _ a g
theorem same_at {l m:List Ex} (e:l.length=m.length) (h:∀(i:Nat) (x y:Ex),l[i]? =some x→m[i]? =some y→i<l.length→x.same y=true):sameL l m=true:=
 (eM l m).2 ⟨e,fun i x y a b=>h i x y a b (List.getElem?_eq_some_iff.1 a).1⟩
theorem same_no {l m:List Ex} {i:Nat} {x y:Ex} (e:l[i]? =some x) (a:m[i]? =some y) (h:x.same y=false):sameL l m=false:=by
 rw[←Bool.not_eq_true,eM]
 rintro⟨_,b⟩
 rw[b i x y e a]at h
 cases h
theorem mv {l m:List Ex} (h:l.length≠m.length):sameL l m=false:=by
 rw[←Bool.not_eq_true,eM]
 exact fun a=>h a.1
def dp (l m:List Ex) (k:Nat):Prop:=∀(i:Nat) (x y:Ex),l[i]? =some x→m[i]? =some y→i<k→x.same y=true
theorem dp.zero (l m:List Ex):dp l m 0:=fun _ _ _ _ _ h=>absurd h (Nat.not_lt_zero _)
theorem dp.step {l m:List Ex} {k:Nat} {x y:Ex} (h:dp l m k) (j:l[k]? =some x) (g:m[k]? =some y) (n:x.same y=true):dp l m (k+1):=by
 intro i a b e f hi
 rcases Nat.lt_or_ge i k with h2|h2
 ·exact h i a b e f h2
 ·obtain rfl:i=k:=by omega
  rw[Option.some.inj (e.symm.trans j),Option.some.inj (f.symm.trans g)]
  exact n
theorem dp.done {l m:List Ex} {n:Nat} (h:dp l m n) (b:l.length=n) (e:m.length=n):sameL l m=true:=
 same_at (by rw[b,e]) fun i x y f a hi=>h i x y f a (by omega)
theorem eqfunc_ex (l m:List Ex) (A B:Option Addr) (n p c G:Nat) (w:World) (Z:l.length=n) (hm:m.length=p) (hn:n≤9223372036854775807) (f:p≤9223372036854775807) (hk:KidsAt w A l) (t:KidsAt w B m)
  (hF:∀x∈l,∀(y:Ex) (Y D:Option Addr) (n1 E c1 c2:Nat) (W:World),ExV W x Y n1 c1→ExV W y D E c2→Calls Tryz.prog 182 #[x.d.val Y n1 c1,y.d.val D E c2] W fun r W'=>r= .returned (.bool (x.same y))∧Ext W W'):
  Calls Tryz.prog 266 #[.slice A n c,.slice B p G,.func (Fn.func 182) #[] #[]] w fun r w'=>r= .returned (.bool (sameL l m))∧Ext w w':=by
 have K:=hid Z
 have L:=hid hm
 have HK:=hid hk
 have I:=hid t
 have HF:=hid hF
 clear Z hm hk t hF
 by_cases g:n=p
 ·subst g
  have bN:((n:Int) !=(n:Int))=false:=by simp
  go_enter Tryz.func266,Tryz.ntmps266
  go_wp2_with fail
  go_loopw [17] (fun iv wr=> ∃(k:Nat),k≤n∧iv= .int .i64 k∧dp l m k∧Ext w wr) (fun i _=>n- (intOf i).toNat)
  case atStart=>exact⟨0,Nat.zero_le _,rfl,dp.zero l m,Ext.refl w⟩
  case round=>
   obtain⟨k,ac,rfl,H,a⟩:=hrel
   have h:=hid a
   have z:=hid H
   by_cases u:k<n
   ·obtain⟨x,F⟩:=bF K u
    obtain⟨y,J⟩:=bF L u
    obtain⟨b,ad,A',n',G,rfl,q0,q1,q2,q3,q4,q5,q6,q7,O⟩:=(HK.ext a).get F
    obtain⟨b2,P,D,E,c2,rfl,s0,s1,s2,U,R,X,s6,s7,e⟩:=(I.ext a).get J
    have HV:=hid O
    have ag:=hid e
    have p0:=fun o=> ((Ext.refl wr).alloc o).keep s0
    have p1:=fun o=> ((Ext.refl wr).alloc o).keep s1
    have p2:=fun o=> ((Ext.refl wr).alloc o).keep s2
    have p3:=fun o=> ((Ext.refl wr).alloc o).keep U
    have p4:=fun o=> ((Ext.refl wr).alloc o).keep R
    have p5:=fun o=> ((Ext.refl wr).alloc o).keep X
    have p6:=fun o=> ((Ext.refl wr).alloc o).keep s6
    have p7:=fun o=> ((Ext.refl wr).alloc o).keep s7
    have C:=hid (fun W (Q:Ext wr W)=>HF x (bD F) y A' D n' E G c2 W (O.ext Q) (e.ext Q))
    have V:=hid F
    have s:=hid J
    clear F J O e a H s0 s1 s2 U R X s6 s7
    cases f:x.same y
    ·rw[f]at C
     have q:Hid (sameL l m=false):=same_no V s f
     clear f
     go_wp2_with fail
     refine(C _ (((Ext.refl wr).alloc _).alloc _)).mono ?_
     rintro _ w2 ⟨rfl,j⟩
     go_wp2_with fail
     go_ret
     exact⟨ab q.symm,((h.alloc _).alloc _).trans j⟩
    ·rw[f]at C
     have q:=hid (z.step V s f)
     clear f
     go_wp2_with fail
     refine(C _ (((Ext.refl wr).alloc _).alloc _)).mono ?_
     rintro _ w2 ⟨rfl,j⟩
     go_wp2_with fail
     go_roundw
     case rel=>exact⟨k+1,by omega,by go_num,q,((h.alloc _).alloc _).trans j⟩
     case measure=>simp[intOf];omega
   ·obtain rfl:k=n:=by omega
    have q:=hid (z.done K L)
    clear H
    go_wp2_with fail
    go_ret
    exact⟨ab q.symm,h⟩
 ·have bN:((n:Int) !=(p:Int))=true:=by simp;omega
  have q:Hid (sameL l m=false):=mv (by rw[K.out,L.out];exact g)
  clear g
  go_enter Tryz.func266,Tryz.ntmps266
  go_wp2_with fail
  go_ret
  exact⟨ab q.symm,Ext.refl w⟩
theorem kB (d a:Nd) (ks b:List Ex):(Ex.mk d ks).same (Ex.mk a b)=
  (d.op==a.op&&d.tb.toList==a.tb.toList&&d.nm.toList==a.nm.toList&& (d.vk==a.vk&&d.vi==a.vi&&d.vt.toList==a.vt.toList) &&sameL ks b):=by
 rw[Ex.same,Nd.same,aV,aV,aV]
theorem equal_any:∀(a:Ex) (b:Ex) (A B:Option Addr) (n p c i:Nat) (w:World),ExV w a A n c→ExV w b B p i→
  Calls Tryz.prog 182 #[a.d.val A n c,b.d.val B p i] w fun r w'=>r= .returned (.bool (a.same b))∧Ext w w':=by
 intro a
 induction a using Ex.ind with
 |h d ks ih=>
  intro b A B n p c i w hv f
  obtain⟨o,e⟩:=b
  obtain⟨C,z,P,j⟩:=hv
  obtain⟨t,D,Y,k⟩:=f
  have j:KidsAt w A ks:=j
  have k:KidsAt w B e:=k
  have s:=hid (kB d o ks e)
  obtain⟨S,m⟩:∃S,sameL ks e=S:=⟨_,rfl⟩
  have F:Hid (∀W,Ext w W→Calls Tryz.prog 236 #[.slice A n c,.slice B p i] W fun r w'=>r= .returned (.bool S)∧Ext W w'):=by
   intro W q
   have u:=hid (eqfunc_ex ks e A B n p c i W C t z D (j.ext q) (k.ext q) fun x X y I K n1 V c1 c2 E l f=>ih x X y I K n1 V c1 c2 E l f)
   rw[m]at u
   go_enter Tryz.func236,Tryz.ntmps236
   go_wp2_with fail
   refine u.mono ?_
   rintro _ L ⟨rfl,g⟩
   go_wp2_with fail
   go_ret
   exact⟨rfl,g⟩
  rw[m]at s
  clear m C t z D P Y j k ih
  generalize (Ex.mk d ks).same (Ex.mk o e)=R at*
  unfold Nd.val
  simp only[Ex.d]
  obtain⟨op,tb,nm,ix,vk,vi,vt⟩:=d
  obtain⟨G,H,Z,J,Q,O,U⟩:=o
  simp only at*
  go_enter Tryz.func182,Tryz.ntmps182
  go_wp2_with (go_at_call 236;refine(F _ (((Ext.refl w).alloc _).alloc _)).mono ?_;rintro _ L ⟨rfl,g⟩)
  all_goals
   go_ret
   refine⟨ab (by rw[s.out];simp[*]),?_⟩
   first|exact(((Ext.refl w).alloc _).alloc _).trans g|exact((Ext.refl w).alloc _).alloc _
theorem fK (e:Ex) (A:Option Addr) (n c:Nat) (w:World) (b:ExV w e A n c):
  Calls Tryz.prog 116 #[e.d.val A n c] w fun r w'=>r= .returned (.bool e.absent)∧Ext w w':=by
 have g:Hid (∀W,Ext w W→Calls Tryz.prog 182 #[e.d.val A n c,exZ.d.val none 0 0] W fun r w'=>r= .returned (.bool e.absent)∧Ext W w'):=by
  intro W f
  rw[←lM]
  exact equal_any e exZ A none n 0 c 0 W (b.ext f) ⟨rfl,by omega,⟨⟨by decide,by decide⟩,⟨by decide,by decide⟩,⟨by decide,by decide⟩,⟨by decide,by decide⟩,by decide,by decide,by decide⟩,trivial⟩
 clear b
 unfold Nd.val at*
 generalize e.absent=R at*
 generalize e.d=d at*
 obtain⟨op,tb,nm,ix,vk,vi,vt⟩:=d
 simp only at*
 go_enter Tryz.func116,Tryz.ntmps116
 go_wp2_with (go_at_call 182;refine(g _ ((Ext.refl w).alloc _)).mono ?_;rintro _ h ⟨rfl,a⟩)
 go_ret
 exact⟨rfl,((Ext.refl w).alloc _).trans a⟩
theorem kC (l m:List Ex) (A B:Option Addr) (n p c Q:Nat) (w:World) (hl:l.length=n) (hm:m.length=p) (hn:n≤9223372036854775807) (hp:p≤9223372036854775807) (hk:KidsAt w A l) (C:KidsAt w B m)
  (hF:∀x∈l,∀(y:Ex) (A1 u:Option Addr) (n1 D c1 c2:Nat) (W:World),ExV W x A1 n1 c1→ExV W y u D c2→Calls Tryz.prog 19 #[x.d.val A1 n1 c1,y.d.val u D c2] W fun r W'=>r= .returned (.bool (x.same y))∧Ext W W'):
  Calls Tryz.prog 37 #[.slice A n c,.slice B p Q] w fun r w'=>r= .returned (.bool (sameL l m))∧Ext w w':=by
 have HL:=hid hl
 have HM:=hid hm
 have HK:=hid hk
 have ac:=hid C
 have HF:=hid hF
 clear hl hm hk C hF
 by_cases h:n=p
 ·subst h
  have bN:((n:Int) !=(n:Int))=false:=by simp
  go_enter Tryz.func37,Tryz.ntmps37
  go_wp2_with fail
  go_loopw [5] (fun iv wr=> ∃(k:Nat),k≤n∧iv= .int .i64 k∧dp l m k∧Ext w wr) (fun i _=>n- (intOf i).toNat)
  case atStart=>exact⟨0,Nat.zero_le _,rfl,dp.zero l m,Ext.refl w⟩
  case round=>
   obtain⟨k,ag,rfl,hr,e⟩:=hrel
   have j:=hid e
   have F:=hid hr
   by_cases E:k<n
   ·obtain⟨x,Z⟩:=bF HL E
    obtain⟨y,hy⟩:=bF HM E
    obtain⟨b,an,A',n',Q,rfl,q0,U,K,H,G,q5,L,P,hv⟩:=(HK.ext e).get Z
    obtain⟨b2,ad,u,D,c2,rfl,R,X,s2,J,I,O,Y,V,f⟩:=(ac.ext e).get hy
    have HV:=hid hv
    have ax:=hid f
    have i0:(0:Int)≤(k:Int):=by omega
    have i1:(k:Int)<(n:Int):=by omega
    have HC:Hid (∀z:ae wr,Calls Tryz.prog 19 #[x.d.val A' n' Q,y.d.val u D c2] z.now fun r W'=>r= .returned (.bool (x.same y))∧Ext z.now W'):=
     fun z=>HF x (bD Z) y A' u n' D Q c2 z.now (hv.ext z.ext) (f.ext z.ext)
    have HE:=hid Z
    have t:=hid hy
    obtain⟨sb,g⟩:∃sb,x.same y=sb:=⟨_,rfl⟩
    have s:=hid g
    rw[g]at HC
    replace q0:=ae.keep q0
    replace U:=ae.keep U
    replace K:=ae.keep K
    replace H:=ae.keep H
    replace G:=ae.keep G
    replace q5:=ae.keep q5
    replace L:=ae.keep L
    replace P:=ae.keep P
    replace R:=ae.keep R
    replace X:=ae.keep X
    replace s2:=ae.keep s2
    replace J:=ae.keep J
    replace I:=ae.keep I
    replace O:=ae.keep O
    replace Y:=ae.keep Y
    replace V:=ae.keep V
    clear Z hy hv f e hr g
    cases sb
    ·have q:Hid (sameL l m=false):=same_no HE t s
     go_wp2_with fail
     refine aa (by kernel_rfl) (by kernel_rfl) ?_
     repeat (go_big_quiet_step ((go_at_call 19;exact am (HC _))))
     refine wpQuiet_nil ?_
     intro w2 a
     have o:=af a
     clear a q0 U K H G q5 L P R X s2 J I O Y V
     go_wp2_with fail
     go_ret
     exact⟨ab q.symm,j.trans o⟩
    ·have q:=hid (F.step HE t s)
     go_wp2_with fail
     refine aa (by kernel_rfl) (by kernel_rfl) ?_
     repeat (go_big_quiet_step ((go_at_call 19;exact am (HC _))))
     refine wpQuiet_nil ?_
     intro w2 a
     have o:=af a
     clear a q0 U K H G q5 L P R X s2 J I O Y V
     go_wp2_with fail
     go_roundw
     case rel=>exact⟨k+1,by omega,by go_num,q,j.trans o⟩
     case measure=>simp[intOf];omega
   ·obtain rfl:k=n:=by omega
    have q:=hid (F.done HL HM)
    clear hr
    go_wp2_with fail
    go_ret
    exact⟨ab q.symm,j⟩
 ·have bN:((n:Int) !=(p:Int))=true:=by simp;omega
  have q:Hid (sameL l m=false):=mv (by rw[HL.out,HM.out];exact h)
  clear h
  go_enter Tryz.func37,Tryz.ntmps37
  go_wp2_with fail
  go_ret
  exact⟨ab q.symm,Ext.refl w⟩
theorem fd:∀(a:Ex) (b:Ex) (A B:Option Addr) (n p c g:Nat) (w:World),ExV w a A n c→ExV w b B p g→
  Calls Tryz.prog 19 #[a.d.val A n c,b.d.val B p g] w fun r w'=>r= .returned (.bool (a.same b))∧Ext w w':=by
 intro a
 induction a using Ex.ind with
 |h d ks ih=>
  intro b A B n p c g w Y f
  obtain⟨m,e⟩:=b
  obtain⟨z,u,L,i⟩:=Y
  obtain⟨t,C,V,j⟩:=f
  have i:KidsAt w A ks:=i
  have j:KidsAt w B e:=j
  have s:=hid (kB d m ks e)
  obtain⟨S,l⟩:∃S,sameL ks e=S:=⟨_,rfl⟩
  have E:Hid (∀W,Ext w W→Calls Tryz.prog 37 #[.slice A n c,.slice B p g] W fun r w'=>r= .returned (.bool S)∧Ext W w'):=by
   intro W q
   rw[←l]
   exact kC ks e A B n p c g W z t u C (i.ext q) (j.ext q) fun x U y H J n1 Q c1 c2 D k f=>ih x U y H J n1 Q c1 c2 D k f
  rw[l]at s
  clear l z t u C L V i j ih
  generalize (Ex.mk d ks).same (Ex.mk m e)=R at*
  unfold Nd.val
  simp only[Ex.d]
  obtain⟨op,tb,nm,ix,vk,vi,vt⟩:=d
  obtain⟨F,G,X,I,O,K,P⟩:=m
  simp only at*
  go_enter Tryz.func19,Tryz.ntmps19
  go_wp2_with (go_at_call 37;refine(E _ (((Ext.refl w).alloc _).alloc _)).mono ?_;rintro _ Z ⟨rfl,o⟩)
  all_goals
   go_ret
   refine⟨ab (by rw[s.out];simp[*]),?_⟩
   first|exact(((Ext.refl w).alloc _).alloc _).trans o|exact((Ext.refl w).alloc _).alloc _
end Go.Proofs.YtjigcpfjhfoheaaGreatDoor
