/- Walks: formed; formed returns whether an expression is well-formed; Walks: the reference's Formed; Formed returns whether an expression is well-formed; Walks: equality of expressions. -/
import Derived.Test.YtjigcpfjhfoheaaGreatDoorRae
namespace Go.Proofs.YtjigcpfjhfoheaaGreatDoor
open Go.RowKit
set_option maxHeartbeats 4000000
set_option maxRecDepth 100000
set_option linter.unusedVariables false
set_option linter.unusedSimpArgs false
theorem kh (F:FuncId) (o:Ent F) (p:Ex→Bool) (l:List Ex) (A:Option Addr) (n c:Nat) (w:World) (i:l.length=n) (s:n≤9223372036854775807) (h:KidsAt w A l)
  (g:∀x∈l,∀(f:Option Addr) (j c':Nat) (W:World),Ext w W→ExV W x f j c'→Calls Tryz.prog F #[x.d.val f j c'] W fun r m=>r= .returned (.bool (p x))∧Ext W m):
  Calls Tryz.prog 111 #[.slice A n c,.func (Fn.func F) #[] #[]] w fun r w'=>r= .returned (.bool (l.any p))∧Ext w w':=by
 have k:=hid (index_ex F o p l A n c w i s h g)
 clear i h g
 go_enter Tryz.func111,Tryz.ntmps111
 go_wp2_with (go_at_call 179;refine k.mono ?_;rintro _ u ⟨⟨x,t,rfl,a⟩,e⟩;have b:=hid a;clear a)
 go_ret
 exact⟨aa b,e⟩
theorem mS (d:Nd) (ks:List Ex):(Ex.mk d ks).formed=(opN d.op==(ks.length:Int) &&!(ks.any fun x=>!x.formed) &&ndB d (ks.map Ex.d)):=by
 rw[Ex.formed,j8]
 congr 2
 rw[List.any_eq_not_all_not,Bool.not_not]
 simp
theorem get1 {ks:List Ex} (d:Nd) {e:Ex} (h:ks[1]? =some e):(ks.map Ex.d).getD 1 d=e.d:=by
 rw[List.getD_eq_getElem?_getD,List.getElem?_map,h];rfl
theorem formed1 (x:Ex) (A:Option Addr) (n c:Nat) (w:World) (h:∀W,Ext w W→Calls Tryz.prog 79 #[x.d.val A n c] W fun r w'=>r= .returned (.bool x.formed)∧Ext W w'):
  Calls Tryz.prog 154 #[x.d.val A n c] w fun r w'=>r= .returned (.bool (!x.formed))∧Ext w w':=by
 have H:=hid h
 clear h
 unfold Nd.val at*
 go_enter Tryz.func154,Tryz.ntmps154
 go_wp2_with (go_at_call 79;refine(H _ ((Ext.refl w).alloc _)).mono ?_;rintro _ b ⟨rfl,a⟩)
 go_ret
 exact⟨rfl,((Ext.refl w).alloc _).trans a⟩
structure FC (tb nm vt:ByteArray) (A:Option Addr) (n c:Nat) (w:World) (B:Bool):Prop where
 tb:tb.size≤9223372036854775807
 nm:nm.size≤9223372036854775807
 vt:vt.size≤9223372036854775807
 sh:Sh w
 con:∀y:ae w,Calls Tryz.prog 111 #[.slice A n c,.func (Fn.func 154) #[] #[]] y.now fun r w'=>r= .returned (.bool B)∧Ext y.now w'
theorem fc1 (op:Int) (tb nm vt:ByteArray) (ix vk vi:Int) (A:Option Addr) (n c:Nat) (w:World) (B:Bool) (h:FC tb nm vt A n c w B) (p:(opN op !=(n:Int))=true):
  Calls Tryz.prog 79 #[.agg #[.int .i64 op,.string tb,.string nm,.int .i64 ix,.int .i64 vk,.int .i64 vi,.string vt,.slice A n c]] w fun r w'=>r= .returned (.bool false)∧Ext w w':=by
 have H:=hid h
 clear h
 have j:=hid (Blk.of_new w 37 (eC op tb nm ix vk vi vt A n c))
 have k:=hid ((Ext.refl w).alloc (.cells #[.int .i64 op,.string tb,.string nm,.int .i64 ix,.int .i64 vk,.int .i64 vi,.string vt,.slice A n c] 37))
 go_enter Tryz.func79,Tryz.ntmps79
 go_wp2_with fail
 generalize w.alloc (.cells #[.int .i64 op,.string tb,.string nm,.int .i64 ix,.int .i64 vk,.int .i64 vi,.string vt,.slice A n c] 37)=o at*
 generalize w.heap.size=g at*
 obtain⟨l,-,-,-,-,-,-,m,-⟩:=lks j
 have b:Hid (∀y:ae o,Calls Tryz.prog 111 #[.slice A n c,.func (Fn.func 154) #[] #[]] y.now fun r w'=>r= .returned (.bool B)∧Ext y.now w'):=fun y=>H.con ⟨y.now,k.trans y.ext⟩
 refine ab (by kernel_rfl) (by kernel_rfl) ?_
 repeat (go_big_quiet_step ((first|(go_at_call 153;exact dp (fB _ _))|(go_at_call 111;exact ak (b _)))))
 refine wpQuiet_nil ?_
 intro s f
 have a:=ah f
 clear f l m b
 have i:=hid (k.trans a)
 have e:=j.ext a
 obtain⟨c0,c1,c2,-,c4,c5,c6,c7,-⟩:=cls e
 clear e a
 go_wp2_with fail
 go_ret
 exact⟨rfl,i⟩
theorem fc2 (op:Int) (tb nm vt:ByteArray) (ix vk vi:Int) (A:Option Addr) (n c:Nat) (w:World) (h:FC tb nm vt A n c w true) (p:(opN op !=(n:Int))=false):
  Calls Tryz.prog 79 #[.agg #[.int .i64 op,.string tb,.string nm,.int .i64 ix,.int .i64 vk,.int .i64 vi,.string vt,.slice A n c]] w fun r w'=>r= .returned (.bool false)∧Ext w w':=by
 have H:=hid h
 clear h
 have j:=hid (Blk.of_new w 37 (eC op tb nm ix vk vi vt A n c))
 have k:=hid ((Ext.refl w).alloc (.cells #[.int .i64 op,.string tb,.string nm,.int .i64 ix,.int .i64 vk,.int .i64 vi,.string vt,.slice A n c] 37))
 go_enter Tryz.func79,Tryz.ntmps79
 go_wp2_with fail
 generalize w.alloc (.cells #[.int .i64 op,.string tb,.string nm,.int .i64 ix,.int .i64 vk,.int .i64 vi,.string vt,.slice A n c] 37)=o at*
 generalize w.heap.size=g at*
 obtain⟨l,-,-,-,-,-,-,m,-⟩:=lks j
 have b:Hid (∀y:ae o,Calls Tryz.prog 111 #[.slice A n c,.func (Fn.func 154) #[] #[]] y.now fun r w'=>r= .returned (.bool true)∧Ext y.now w'):=fun y=>H.con ⟨y.now,k.trans y.ext⟩
 refine ab (by kernel_rfl) (by kernel_rfl) ?_
 repeat (go_big_quiet_step ((first|(go_at_call 153;exact dp (fB _ _))|(go_at_call 111;exact ak (b _)))))
 refine wpQuiet_nil ?_
 intro s f
 have a:=ah f
 clear f l m b
 have i:=hid (k.trans a)
 have e:=j.ext a
 obtain⟨c0,c1,c2,-,c4,c5,c6,c7,-⟩:=cls e
 clear e a
 go_wp2_with fail
 go_ret
 exact⟨rfl,i⟩
inductive FCase:Int→ByteArray→ByteArray→Int→Int→Int→ByteArray→Option Addr→Nat→Nat→World→Bool→Prop where
 |c3a {op:Int} {tb nm vt:ByteArray} {ix vk vi:Int} {A:Option Addr} {n c:Nat} {w:World} (b2:(op==2)=true) (HN1:Hid (nameB nm=false)):FCase op tb nm ix vk vi vt A n c w false
 |c3b {op:Int} {nm vt:ByteArray} {ix vk vi:Int} {A:Option Addr} {n c:Nat} {w:World} (b2:(op==2)=true) (HN1:Hid (nameB nm=true)):FCase op ⟨#[]⟩ nm ix vk vi vt A n c w ((vk==0&&vi==0&&vt.size==0))
 |c3c {op:Int} {tb nm vt:ByteArray} {ix vk vi:Int} {A:Option Addr} {n c:Nat} {w:World} (b2:(op==2)=true) (HN1:Hid (nameB nm=true)) (HN2:Hid (nameB tb=false)) (t1:¬tb.toList= []) (t2:tb.toList.isEmpty=false):FCase op tb nm ix vk vi vt A n c w false
 |c3d {op:Int} {tb nm vt:ByteArray} {ix vk vi:Int} {A:Option Addr} {n c:Nat} {w:World} (b2:(op==2)=true) (HN1:Hid (nameB nm=true)) (HN2:Hid (nameB tb=true)) (t1:¬tb.toList= []) (t2:tb.toList.isEmpty=false):FCase op tb nm ix vk vi vt A n c w ((vk==0&&vi==0&&vt.size==0))
 |c4a {op:Int} {vt:ByteArray} {ix vk vi:Int} {A:Option Addr} {n c:Nat} {w:World} {d:Nd} (e0:d.vk=vk) (e1:d.vi=vi) (e2:d.vt=vt) (b2:(op==2)=false) (b1:(op==1)=true):FCase op ⟨#[]⟩ ⟨#[]⟩ ix vk vi vt A n c w (d.litB)
 |c4b {op:Int} {nm vt:ByteArray} {ix vk vi:Int} {A:Option Addr} {n c:Nat} {w:World} (b2:(op==2)=false) (b1:(op==1)=true) (t1:¬nm.toList= []) (t2:nm.toList.isEmpty=false):FCase op ⟨#[]⟩ nm ix vk vi vt A n c w false
 |c4c {op:Int} {tb nm vt:ByteArray} {ix vk vi:Int} {A:Option Addr} {n c:Nat} {w:World} (b2:(op==2)=false) (b1:(op==1)=true) (t1:¬tb.toList= []) (t2:tb.toList.isEmpty=false):FCase op tb nm ix vk vi vt A n c w false
 |c5a {op:Int} {tb nm vt:ByteArray} {ix vk vi:Int} {n c:Nat} {w:World} {b off:Nat} {op1:Int} {tb1 nm1:ByteArray} {ix1 vk1 vi1:Int} {vt1:ByteArray} {A1:Option Addr} {n1 c1:Nat} (HQ:Hid (w.cell? ⟨b,off+1*8,none⟩=some (.int .i64 op1)∧w.cell? ⟨b,off+1*8+1,none⟩=some (.string tb1)∧w.cell? ⟨b,off+1*8+2,none⟩=some (.string nm1)∧w.cell? ⟨b,off+1*8+3,none⟩=some (.int .i64 ix1)∧w.cell? ⟨b,off+1*8+4,none⟩=some (.int .i64 vk1)∧w.cell? ⟨b,off+1*8+5,none⟩=some (.int .i64 vi1)∧w.cell? ⟨b,off+1*8+6,none⟩=some (.string vt1)∧w.cell? ⟨b,off+1*8+7,none⟩=some (.slice A1 n1 c1))) (b2:(op==2)=false) (b1:(op==1)=false) (b16:(op==16)=true) (hn2:(1:Int)<(n:Int)) (p1:(op1 !=1)=true):FCase op tb nm ix vk vi vt ((some ⟨b,off,none⟩)) n c w false
 |c5b {op:Int} {tb nm vt:ByteArray} {ix vk vi:Int} {n c:Nat} {w:World} {b off:Nat} {op1:Int} {tb1 nm1:ByteArray} {ix1 vk1 vi1:Int} {vt1:ByteArray} {A1:Option Addr} {n1 c1:Nat} (HQ:Hid (w.cell? ⟨b,off+1*8,none⟩=some (.int .i64 op1)∧w.cell? ⟨b,off+1*8+1,none⟩=some (.string tb1)∧w.cell? ⟨b,off+1*8+2,none⟩=some (.string nm1)∧w.cell? ⟨b,off+1*8+3,none⟩=some (.int .i64 ix1)∧w.cell? ⟨b,off+1*8+4,none⟩=some (.int .i64 vk1)∧w.cell? ⟨b,off+1*8+5,none⟩=some (.int .i64 vi1)∧w.cell? ⟨b,off+1*8+6,none⟩=some (.string vt1)∧w.cell? ⟨b,off+1*8+7,none⟩=some (.slice A1 n1 c1))) (b2:(op==2)=false) (b1:(op==1)=false) (b16:(op==16)=true) (hn2:(1:Int)<(n:Int)) (p1:(op1 !=1)=false) (p2:(vk1 !=2)=true):FCase op tb nm ix vk vi vt ((some ⟨b,off,none⟩)) n c w false
 |c5c {op:Int} {tb nm vt:ByteArray} {ix vk vi:Int} {n c:Nat} {w:World} {b off:Nat} {op1:Int} {tb1 nm1:ByteArray} {ix1 vk1 vi1:Int} {vt1:ByteArray} {A1:Option Addr} {n1 c1:Nat} (HQ:Hid (w.cell? ⟨b,off+1*8,none⟩=some (.int .i64 op1)∧w.cell? ⟨b,off+1*8+1,none⟩=some (.string tb1)∧w.cell? ⟨b,off+1*8+2,none⟩=some (.string nm1)∧w.cell? ⟨b,off+1*8+3,none⟩=some (.int .i64 ix1)∧w.cell? ⟨b,off+1*8+4,none⟩=some (.int .i64 vk1)∧w.cell? ⟨b,off+1*8+5,none⟩=some (.int .i64 vi1)∧w.cell? ⟨b,off+1*8+6,none⟩=some (.string vt1)∧w.cell? ⟨b,off+1*8+7,none⟩=some (.slice A1 n1 c1))) (b2:(op==2)=false) (b1:(op==1)=false) (b16:(op==16)=true) (hn2:(1:Int)<(n:Int)) (p1:(op1 !=1)=false) (p2:(vk1 !=2)=false) (t1:¬tb.toList= []) (t2:tb.toList.isEmpty=false):FCase op tb nm ix vk vi vt ((some ⟨b,off,none⟩)) n c w false
 |c5d {op:Int} {nm vt:ByteArray} {ix vk vi:Int} {n c:Nat} {w:World} {b off:Nat} {op1:Int} {tb1 nm1:ByteArray} {ix1 vk1 vi1:Int} {vt1:ByteArray} {A1:Option Addr} {n1 c1:Nat} (HQ:Hid (w.cell? ⟨b,off+1*8,none⟩=some (.int .i64 op1)∧w.cell? ⟨b,off+1*8+1,none⟩=some (.string tb1)∧w.cell? ⟨b,off+1*8+2,none⟩=some (.string nm1)∧w.cell? ⟨b,off+1*8+3,none⟩=some (.int .i64 ix1)∧w.cell? ⟨b,off+1*8+4,none⟩=some (.int .i64 vk1)∧w.cell? ⟨b,off+1*8+5,none⟩=some (.int .i64 vi1)∧w.cell? ⟨b,off+1*8+6,none⟩=some (.string vt1)∧w.cell? ⟨b,off+1*8+7,none⟩=some (.slice A1 n1 c1))) (b2:(op==2)=false) (b1:(op==1)=false) (b16:(op==16)=true) (hn2:(1:Int)<(n:Int)) (p1:(op1 !=1)=false) (p2:(vk1 !=2)=false) (t1:¬nm.toList= []) (t2:nm.toList.isEmpty=false):FCase op ⟨#[]⟩ nm ix vk vi vt ((some ⟨b,off,none⟩)) n c w false
 |c5e {op:Int} {vt:ByteArray} {ix vk vi:Int} {n c:Nat} {w:World} {b off:Nat} {op1:Int} {tb1 nm1:ByteArray} {ix1 vk1 vi1:Int} {vt1:ByteArray} {A1:Option Addr} {n1 c1:Nat} (HQ:Hid (w.cell? ⟨b,off+1*8,none⟩=some (.int .i64 op1)∧w.cell? ⟨b,off+1*8+1,none⟩=some (.string tb1)∧w.cell? ⟨b,off+1*8+2,none⟩=some (.string nm1)∧w.cell? ⟨b,off+1*8+3,none⟩=some (.int .i64 ix1)∧w.cell? ⟨b,off+1*8+4,none⟩=some (.int .i64 vk1)∧w.cell? ⟨b,off+1*8+5,none⟩=some (.int .i64 vi1)∧w.cell? ⟨b,off+1*8+6,none⟩=some (.string vt1)∧w.cell? ⟨b,off+1*8+7,none⟩=some (.slice A1 n1 c1))) (b2:(op==2)=false) (b1:(op==1)=false) (b16:(op==16)=true) (hn2:(1:Int)<(n:Int)) (p1:(op1 !=1)=false) (p2:(vk1 !=2)=false):FCase op ⟨#[]⟩ ⟨#[]⟩ ix vk vi vt ((some ⟨b,off,none⟩)) n c w ((vk==0&&vi==0&&vt.size==0))
 |c6a {op:Int} {tb nm vt:ByteArray} {ix vk vi:Int} {A:Option Addr} {n c:Nat} {w:World} (b2:(op==2)=false) (b1:(op==1)=false) (b16:(op==16)=false) (t1:¬tb.toList= []) (t2:tb.toList.isEmpty=false):FCase op tb nm ix vk vi vt A n c w false
 |c6b {op:Int} {nm vt:ByteArray} {ix vk vi:Int} {A:Option Addr} {n c:Nat} {w:World} (b2:(op==2)=false) (b1:(op==1)=false) (b16:(op==16)=false) (t1:¬nm.toList= []) (t2:nm.toList.isEmpty=false):FCase op ⟨#[]⟩ nm ix vk vi vt A n c w false
 |c6c {op:Int} {vt:ByteArray} {ix vk vi:Int} {A:Option Addr} {n c:Nat} {w:World} (b2:(op==2)=false) (b1:(op==1)=false) (b16:(op==16)=false):FCase op ⟨#[]⟩ ⟨#[]⟩ ix vk vi vt A n c w ((vk==0&&vi==0&&vt.size==0))
theorem fcR {op:Int} {tb nm vt:ByteArray} {ix vk vi:Int} {A:Option Addr} {n c:Nat} {w:World} {R:Bool} (h:FC tb nm vt A n c w false) (U:(opN op !=(n:Int))=false) (L:FCase op tb nm ix vk vi vt A n c w R):
  Calls Tryz.prog 79 #[.agg #[.int .i64 op,.string tb,.string nm,.int .i64 ix,.int .i64 vk,.int .i64 vi,.string vt,.slice A n c]] w fun r w'=>r= .returned (.bool R)∧Ext w w':=by
 have H:=hid h
 clear h
 have D:=hid (Blk.of_new w 37 (eC op tb nm ix vk vi vt A n c))
 have E:=hid ((Ext.refl w).alloc (.cells #[.int .i64 op,.string tb,.string nm,.int .i64 ix,.int .i64 vk,.int .i64 vi,.string vt,.slice A n c] 37))
 go_enter Tryz.func79,Tryz.ntmps79
 go_wp2_with fail
 generalize w.alloc (.cells #[.int .i64 op,.string tb,.string nm,.int .i64 ix,.int .i64 vk,.int .i64 vi,.string vt,.slice A n c] 37)=Q at*
 generalize w.heap.size=g at*
 obtain⟨O,-,-,-,-,-,-,P,-⟩:=lks D
 have u:Hid (∀y:ae Q,Calls Tryz.prog 111 #[.slice A n c,.func (Fn.func 154) #[] #[]] y.now fun r w'=>r= .returned (.bool false)∧Ext y.now w'):=fun y=>H.con ⟨y.now,E.trans y.ext⟩
 refine ab (by kernel_rfl) (by kernel_rfl) ?_
 repeat (go_big_quiet_step ((first|(go_at_call 153;exact dp (fB _ _))|(go_at_call 111;exact ak (u _)))))
 refine wpQuiet_nil ?_
 intro b B
 have s:=ah B
 clear B O P u
 have a:=hid (E.trans s)
 have z:=D.ext s
 obtain⟨c0,c1,c2,-,c4,c5,c6,c7,-⟩:=cls z
 clear z s
 cases L with
 |c3a b2 HN1=>
  go_wp2_with (go_at_call 115;refine(name_any nm _ (H.sh.ext a) H.nm).mono ?_;rintro _ t ⟨rfl,rfl⟩;rw[HN1.out])
  go_ret
  exact⟨rfl,a⟩
 |c3b b2 HN1=>
  go_wp2_with (go_at_call 115;refine(name_any nm _ (H.sh.ext a) H.nm).mono ?_;rintro _ t ⟨rfl,rfl⟩;rw[HN1.out])
  all_goals
   go_ret
   refine⟨aa ?_,a⟩
   rw[cV]
   simp[*]
 |c3c b2 HN1 HN2 t1 t2=>
  go_wp2_with (first|(go_at_call 115;(with_reducible refine(name_any nm _ (H.out.sh.ext a.out) H.out.nm).mono ?_);rintro _ t ⟨rfl,rfl⟩;rw[HN1.out])|(go_at_call 115;(with_reducible refine(name_any tb _ (H.out.sh.ext a.out) H.out.tb).mono ?_);rintro _ t ⟨rfl,rfl⟩;rw[HN2.out]))
  go_ret
  exact⟨rfl,a⟩
 |c3d b2 HN1 HN2 t1 t2=>
  go_wp2_with (first|(go_at_call 115;(with_reducible refine(name_any nm _ (H.out.sh.ext a.out) H.out.nm).mono ?_);rintro _ t ⟨rfl,rfl⟩;rw[HN1.out])|(go_at_call 115;(with_reducible refine(name_any tb _ (H.out.sh.ext a.out) H.out.tb).mono ?_);rintro _ t ⟨rfl,rfl⟩;rw[HN2.out]))
  all_goals
   go_ret
   refine⟨aa ?_,a⟩
   rw[cV]
   simp[*]
 |c4a e0 e1 e2 b2 b1=>
  have x:=hid (fun W=>literal_any vk vi vt W H.vt _ e0 e1 e2)
  clear e0 e1 e2
  go_wp2_with (go_at_call 155;refine(x _).mono ?_;rintro _ t ⟨rfl,C⟩)
  go_ret
  exact⟨rfl,a.trans C⟩
 |c4b b2 b1 t1 t2=>
  go_wp2_with fail
  go_ret
  exact⟨rfl,a⟩
 |c4c b2 b1 t1 t2=>
  go_wp2_with fail
  go_ret
  exact⟨rfl,a⟩
 |c5a HQ b2 b1 b16 hn2 p1=>
  obtain⟨e,f,i,j,k,l,m,p⟩:=HQ.out
  replace e:=a.keep e
  replace f:=a.keep f
  replace i:=a.keep i
  replace j:=a.keep j
  replace k:=a.keep k
  replace l:=a.keep l
  replace m:=a.keep m
  replace p:=a.keep p
  go_wp2_with fail
  go_ret
  exact⟨rfl,a.alloc _⟩
 |c5b HQ b2 b1 b16 hn2 p1 p2=>
  obtain⟨e,f,i,j,k,l,m,p⟩:=HQ.out
  replace e:=a.keep e
  replace f:=a.keep f
  replace i:=a.keep i
  replace j:=a.keep j
  replace k:=a.keep k
  replace l:=a.keep l
  replace m:=a.keep m
  replace p:=a.keep p
  go_wp2_with fail
  go_ret
  exact⟨rfl,a.alloc _⟩
 |c5c HQ b2 b1 b16 hn2 p1 p2 t1 t2=>
  obtain⟨e,f,i,j,k,l,m,p⟩:=HQ.out
  replace e:=a.keep e
  replace f:=a.keep f
  replace i:=a.keep i
  replace j:=a.keep j
  replace k:=a.keep k
  replace l:=a.keep l
  replace m:=a.keep m
  replace p:=a.keep p
  have F:=fun o=> ((Ext.refl b).alloc o).keep c1
  have G:=fun o=> ((Ext.refl b).alloc o).keep c2
  have I:=fun o=> ((Ext.refl b).alloc o).keep c4
  have J:=fun o=> ((Ext.refl b).alloc o).keep c5
  have K:=fun o=> ((Ext.refl b).alloc o).keep c6
  go_wp2_with fail
  go_ret
  exact⟨rfl,a.alloc _⟩
 |c5d HQ b2 b1 b16 hn2 p1 p2 t1 t2=>
  obtain⟨e,f,i,j,k,l,m,p⟩:=HQ.out
  replace e:=a.keep e
  replace f:=a.keep f
  replace i:=a.keep i
  replace j:=a.keep j
  replace k:=a.keep k
  replace l:=a.keep l
  replace m:=a.keep m
  replace p:=a.keep p
  have F:=fun o=> ((Ext.refl b).alloc o).keep c1
  have G:=fun o=> ((Ext.refl b).alloc o).keep c2
  have I:=fun o=> ((Ext.refl b).alloc o).keep c4
  have J:=fun o=> ((Ext.refl b).alloc o).keep c5
  have K:=fun o=> ((Ext.refl b).alloc o).keep c6
  go_wp2_with fail
  go_ret
  exact⟨rfl,a.alloc _⟩
 |c5e HQ b2 b1 b16 hn2 p1 p2=>
  obtain⟨e,f,i,j,k,l,m,p⟩:=HQ.out
  replace e:=a.keep e
  replace f:=a.keep f
  replace i:=a.keep i
  replace j:=a.keep j
  replace k:=a.keep k
  replace l:=a.keep l
  replace m:=a.keep m
  replace p:=a.keep p
  have F:=fun o=> ((Ext.refl b).alloc o).keep c1
  have G:=fun o=> ((Ext.refl b).alloc o).keep c2
  have I:=fun o=> ((Ext.refl b).alloc o).keep c4
  have J:=fun o=> ((Ext.refl b).alloc o).keep c5
  have K:=fun o=> ((Ext.refl b).alloc o).keep c6
  go_wp2_with fail
  all_goals
   go_ret
   refine⟨aa ?_,a.alloc _⟩
   rw[cV]
   simp[*]
 |c6a b2 b1 b16 t1 t2=>
  go_wp2_with fail
  go_ret
  exact⟨rfl,a⟩
 |c6b b2 b1 b16 t1 t2=>
  go_wp2_with fail
  go_ret
  exact⟨rfl,a⟩
 |c6c b2 b1 b16=>
  go_wp2_with fail
  all_goals
   go_ret
   refine⟨aa ?_,a⟩
   rw[cV]
   simp[*]
theorem jN {w:World} {b o:Nat} {d:Nd} {ks:List Ex} {A:Option Addr} {n c:Nat} (h:cq w b o (.mk d ks) A n c):
  w.cell? ⟨b,o,none⟩=some (.int .i64 d.op)∧w.cell? ⟨b,o+1,none⟩=some (.string d.tb)∧w.cell? ⟨b,o+2,none⟩=some (.string d.nm)∧w.cell? ⟨b,o+3,none⟩=some (.int .i64 d.ix)∧
  w.cell? ⟨b,o+4,none⟩=some (.int .i64 d.vk)∧w.cell? ⟨b,o+5,none⟩=some (.int .i64 d.vi)∧w.cell? ⟨b,o+6,none⟩=some (.string d.vt)∧w.cell? ⟨b,o+7,none⟩=some (.slice A n c):=
 ⟨h.c0,h.c1,h.c2,h.c3,h.c4,h.c5,h.c6,h.c7⟩
theorem dA:∀(e:Ex) (A:Option Addr) (n c:Nat) (w:World),ExV w e A n c→Sh w→
  Calls Tryz.prog 79 #[e.d.val A n c] w fun r w'=>r= .returned (.bool e.formed)∧Ext w w':=by
 intro e
 induction e using Ex.ind with
 |h d ks ih=>
  intro A n c w hv hw
  obtain⟨J,h2,O,K⟩:=hv
  have J:ks.length=n:=J
  have K:KidsAt w A ks:=K
  have O:d.fit:=O
  have Z:=mS d ks
  rw[J]at Z
  obtain⟨B,hB⟩:∃B,(ks.any fun x=>!x.formed)=B:=⟨_,rfl⟩
  have a:FC d.tb d.nm d.vt A n c w B:=by
   refine⟨O.tb,O.nm,O.vt,hw,fun y=>?_⟩
   rw[←hB]
   refine kh 154 ent101 _ ks A n c _ J h2 (K.ext y.ext) ?_
   intro x k L V c' W hW ad
   exact formed1 x L V c' W fun W' Q=>ih x k L V c' W' (ad.ext Q) (((hw.ext y.ext).ext hW).ext Q)
  rw[hB]at Z
  have ac:ndB d (ks.map Ex.d)=if d.op=2 then nameB d.nm&& (d.tb.size==0||nameB d.tb) &&d.valZ
   else if d.op=1 then d.tb.size==0&&d.nm.size==0&&d.litB
   else if d.op=16∧(((ks.map Ex.d).getD 1 d).op≠1∨((ks.map Ex.d).getD 1 d).vk≠2)then false
   else d.tb.size==0&&d.nm.size==0&&d.valZ:=rfl
  have u:d.valZ=(d.vk==0&&d.vi==0&&d.vt.size==0):=rfl
  have U:∀A,(Ex.mk d ks).d.val A n c= .agg #[.int .i64 d.op,.string d.tb,.string d.nm,.int .i64 d.ix,.int .i64 d.vk,.int .i64 d.vi,.string d.vt,.slice A n c]:=fun _=>rfl
  rw[U,Z]
  by_cases o:opN d.op=(n:Int)
  ·have g:(opN d.op !=(n:Int))=false:=by rw[o];simp
   have H:(opN d.op==(n:Int))=true:=by rw[o];simp
   rw[H,Bool.true_and]
   cases B
   ·simp only[Bool.not_false,Bool.true_and]
    rw[ac]
    by_cases G:d.tb.size=0
    ·have I:=bi G
     by_cases C:d.nm.size=0
     ·have Y:=bi C
      by_cases m:d.op=2
      ·rw[if_pos m,gP C]
       exact fcR a g (.c3a (by rw[m];rfl) (gP C))
      ·rw[if_neg m]
       by_cases l:d.op=1
       ·rw[if_pos l,G,C]
        simp only[beq_self_eq_true,Bool.true_and]
        rw[I,Y]at a ⊢
        exact fcR a g (.c4a (d:=d) rfl rfl rfl (by rw[l];rfl) (by rw[l];rfl))
       ·rw[if_neg l]
        by_cases f:d.op=16
        ·have R:n=2:=by
          rw[f]at o
          unfold opN at o
          simp at o
          omega
         obtain⟨x,k⟩:=dI (i:=1) J (by omega)
         obtain⟨b,X,L,V,c',rfl,P⟩:=K.get k
         obtain⟨F,kx⟩:=x
         rw[get1 d k]
         have t:=jN P
         have s:(d.op==2)=false:=by rw[f];rfl
         have p:(d.op==1)=false:=by rw[f];rfl
         have j:(d.op==16)=true:=by rw[f];rfl
         by_cases o1:F.op=1
         ·by_cases o2:F.vk=2
          ·rw[if_neg (by rintro⟨_,h|h⟩;exact h o1;exact h o2),G,C,u]
           simp only[beq_self_eq_true,Bool.true_and]
           rw[I,Y]at a ⊢
           exact fcR a g (.c5e t s p j (by omega) (by rw[o1];rfl) (by rw[o2];rfl))
          ·rw[if_pos ⟨f,.inr o2⟩]
           exact fcR a g (.c5b t s p j (by omega) (by rw[o1];rfl) (by simpa using o2))
         ·rw[if_pos ⟨f,.inl o1⟩]
          exact fcR a g (.c5a t s p j (by omega) (by simpa using o1))
        ·rw[if_neg (fun h=>f h.1),G,C,u]
         simp only[beq_self_eq_true,Bool.true_and]
         rw[I,Y]at a ⊢
         exact fcR a g (.c6c (by simpa using m) (by simpa using l) (by simpa using f))
     ·have D:=bB C
      have E:=bo C
      by_cases m:d.op=2
      ·rw[if_pos m,G]
       cases k:nameB d.nm
       ·exact fcR a g (.c3a (by rw[m];rfl) k)
       ·rw[u]
        simp only[beq_self_eq_true,Bool.true_and,Bool.true_or]
        rw[I]at a ⊢
        exact fcR a g (.c3b (by rw[m];rfl) k)
      ·rw[if_neg m]
       have z:(d.nm.size==0)=false:=by simpa using C
       by_cases l:d.op=1
       ·rw[if_pos l,z]
        simp only[Bool.and_false,Bool.false_and]
        rw[I]at a ⊢
        exact fcR a g (.c4b (by rw[l];rfl) (by rw[l];rfl) D E)
       ·rw[if_neg l]
        by_cases f:d.op=16
        ·have R:n=2:=by
          rw[f]at o
          unfold opN at o
          simp at o
          omega
         obtain⟨x,k⟩:=dI (i:=1) J (by omega)
         obtain⟨b,X,L,V,c',rfl,P⟩:=K.get k
         obtain⟨F,kx⟩:=x
         rw[get1 d k]
         have t:=jN P
         have s:(d.op==2)=false:=by rw[f];rfl
         have p:(d.op==1)=false:=by rw[f];rfl
         have j:(d.op==16)=true:=by rw[f];rfl
         by_cases o1:F.op=1
         ·by_cases o2:F.vk=2
          ·rw[if_neg (by rintro⟨_,h|h⟩;exact h o1;exact h o2),z]
           simp only[Bool.and_false,Bool.false_and]
           rw[I]at a ⊢
           exact fcR a g (.c5d t s p j (by omega) (by rw[o1];rfl) (by rw[o2];rfl) D E)
          ·rw[if_pos ⟨f,.inr o2⟩]
           exact fcR a g (.c5b t s p j (by omega) (by rw[o1];rfl) (by simpa using o2))
         ·rw[if_pos ⟨f,.inl o1⟩]
          exact fcR a g (.c5a t s p j (by omega) (by simpa using o1))
        ·rw[if_neg (fun h=>f h.1),z]
         simp only[Bool.and_false,Bool.false_and]
         rw[I]at a ⊢
         exact fcR a g (.c6b (by simpa using m) (by simpa using l) (by simpa using f) D E)
    ·have D:=bB G
     have E:=bo G
     have z:(d.tb.size==0)=false:=by simpa using G
     by_cases m:d.op=2
     ·rw[if_pos m,z]
      cases k:nameB d.nm
      ·exact fcR a g (.c3a (by rw[m];rfl) k)
      ·cases hy:nameB d.tb
       ·exact fcR a g (.c3c (by rw[m];rfl) k hy D E)
       ·rw[u]
        simp only[Bool.true_and,Bool.or_true]
        exact fcR a g (.c3d (by rw[m];rfl) k hy D E)
     ·rw[if_neg m]
      by_cases l:d.op=1
      ·rw[if_pos l,z]
       simp only[Bool.false_and]
       exact fcR a g (.c4c (by rw[l];rfl) (by rw[l];rfl) D E)
      ·rw[if_neg l]
       by_cases f:d.op=16
       ·have R:n=2:=by
         rw[f]at o
         unfold opN at o
         simp at o
         omega
        obtain⟨x,k⟩:=dI (i:=1) J (by omega)
        obtain⟨b,X,L,V,c',rfl,P⟩:=K.get k
        obtain⟨F,kx⟩:=x
        rw[get1 d k]
        have t:=jN P
        have s:(d.op==2)=false:=by rw[f];rfl
        have p:(d.op==1)=false:=by rw[f];rfl
        have j:(d.op==16)=true:=by rw[f];rfl
        by_cases o1:F.op=1
        ·by_cases o2:F.vk=2
         ·rw[if_neg (by rintro⟨_,h|h⟩;exact h o1;exact h o2),z]
          simp only[Bool.false_and]
          exact fcR a g (.c5c t s p j (by omega) (by rw[o1];rfl) (by rw[o2];rfl) D E)
         ·rw[if_pos ⟨f,.inr o2⟩]
          exact fcR a g (.c5b t s p j (by omega) (by rw[o1];rfl) (by simpa using o2))
        ·rw[if_pos ⟨f,.inl o1⟩]
         exact fcR a g (.c5a t s p j (by omega) (by simpa using o1))
       ·rw[if_neg (fun h=>f h.1),z]
        simp only[Bool.false_and]
        exact fcR a g (.c6a (by simpa using m) (by simpa using l) (by simpa using f) D E)
   ·simp only[Bool.not_true,Bool.false_and]
    exact fc2 _ _ _ _ _ _ _ _ _ _ _ a g
  ·have g:(opN d.op !=(n:Int))=true:=by simpa using o
   have H:(opN d.op==(n:Int))=false:=by simpa using o
   rw[H]
   simp only[Bool.false_and]
   exact fc1 _ _ _ _ _ _ _ _ _ _ _ B a g
structure RC (ks:List Ex) (tb nm vt:ByteArray) (A:Option Addr) (n c:Nat) (w:World):Prop where
 tb:tb.size≤9223372036854775807
 nm:nm.size≤9223372036854775807
 vt:vt.size≤9223372036854775807
 len:ks.length=n
 le:n≤9223372036854775807
 kids:KidsAt w A ks
 call:∀x∈ks,∀(A':Option Addr) (n' c':Nat) (W:World),ExV W x A' n' c'→Calls Tryz.prog 84 #[x.d.val A' n' c'] W fun r W'=>r= .returned (.bool x.formed)∧Ext W W'
theorem rc1 (op:Int) (tb nm vt:ByteArray) (ix vk vi:Int) (A:Option Addr) (n c:Nat) (w:World) (ks:List Ex) (h:RC ks tb nm vt A n c w) (o:(opN op !=(n:Int))=true):
  Calls Tryz.prog 84 #[.agg #[.int .i64 op,.string tb,.string nm,.int .i64 ix,.int .i64 vk,.int .i64 vi,.string vt,.slice A n c]] w fun r w'=>r= .returned (.bool false)∧Ext w w':=by
 have H:=hid h
 clear h
 have f:=hid (Blk.of_new w 37 (eC op tb nm ix vk vi vt A n c))
 have j:=hid ((Ext.refl w).alloc (.cells #[.int .i64 op,.string tb,.string nm,.int .i64 ix,.int .i64 vk,.int .i64 vi,.string vt,.slice A n c] 37))
 have k:=H.le
 go_enter Tryz.func84,Tryz.ntmps84
 go_wp2_with fail
 generalize w.alloc (.cells #[.int .i64 op,.string tb,.string nm,.int .i64 ix,.int .i64 vk,.int .i64 vi,.string vt,.slice A n c] 37)=p at*
 generalize w.heap.size=g at*
 obtain⟨l,-,-,-,-,-,-,m,-⟩:=lks f
 refine ab (by kernel_rfl) (by kernel_rfl) ?_
 repeat (go_big_quiet_step ((go_at_call 158;exact dp (lp _ _))))
 refine wpQuiet_nil ?_
 intro s b
 have a:=ah b
 clear b l m
 have e:=hid (j.trans a)
 have i:=hid (f.ext a)
 clear a
 go_wp2_with fail
 go_ret
 exact⟨rfl,e⟩
theorem rc2 (op:Int) (tb nm vt:ByteArray) (ix vk vi:Int) (A:Option Addr) (n c:Nat) (w:World) (ks:List Ex) (h:RC ks tb nm vt A n c w) (l:Hid (ks.any (fun x=>!x.formed)=true)) (bN:(opN op !=(n:Int))=false):
  Calls Tryz.prog 84 #[.agg #[.int .i64 op,.string tb,.string nm,.int .i64 ix,.int .i64 vk,.int .i64 vi,.string vt,.slice A n c]] w fun r w'=>r= .returned (.bool false)∧Ext w w':=by
 have H:=hid h
 clear h
 have E:=hid (Blk.of_new w 37 (eC op tb nm ix vk vi vt A n c))
 have O:=hid ((Ext.refl w).alloc (.cells #[.int .i64 op,.string tb,.string nm,.int .i64 ix,.int .i64 vk,.int .i64 vi,.string vt,.slice A n c] 37))
 have R:=H.le
 go_enter Tryz.func84,Tryz.ntmps84
 go_wp2_with fail
 generalize w.alloc (.cells #[.int .i64 op,.string tb,.string nm,.int .i64 ix,.int .i64 vk,.int .i64 vi,.string vt,.slice A n c] 37)=w1 at*
 generalize w.heap.size=g at*
 obtain⟨V,-,-,-,-,-,-,W,-⟩:=lks E
 refine ab (by kernel_rfl) (by kernel_rfl) ?_
 repeat (go_big_quiet_step ((go_at_call 158;exact dp (lp _ _))))
 refine wpQuiet_nil ?_
 intro K t
 have f:=ah t
 clear t V W
 have b:=hid (O.trans f)
 have y:=hid (E.ext f)
 clear f
 go_wp2_with fail
 go_loopw [3] (fun U wr=> ∃k:Nat,k≤n∧U= .int .i64 k∧(ks.take k).any (fun x=>!x.formed)=false∧Ext K wr) (fun i _=>n- (intOf i).toNat)
 case atStart=>exact⟨0,Nat.zero_le _,rfl,rfl,Ext.refl K⟩
 case round=>
  obtain⟨k,hk,rfl,I,a⟩:=hrel
  have e:=hid a
  have o:=hid I
  have p:=y.ext a
  obtain⟨c0,c1,c2,-,c4,c5,c6,c7,-⟩:=cls p
  clear p I
  by_cases C:k<n
  ·obtain⟨G,u⟩:=dI H.len C
   obtain⟨Z,J,L,X,c',Q,q0,q1,q2,q3,q4,q5,q6,q7,s⟩:=((H.kids.ext b).ext a).get u
   subst Q
   have F:=hid (H.call G (eT u) L X c' _ s)
   obtain⟨z,D⟩:∃z,G.formed=z:=⟨_,rfl⟩
   have m:=hid D
   have B:Hid (z=true→(ks.take (k+1)).any (fun x=>!x.formed)=false):=fun h=>bM u o (by simp[D,h])
   clear D
   clear u s a
   cases z
   ·go_wp2_with (go_at_call 84;refine F.mono ?_;rintro _ Y ⟨rfl,j⟩;rw[m.out])
    go_ret
    exact⟨rfl,(b.trans e).trans j⟩
   ·go_wp2_with (go_at_call 84;refine F.mono ?_;rintro _ Y ⟨rfl,j⟩;rw[m.out])
    go_roundw
    case rel=>exact⟨k+1,by omega,by go_num,B (by first|rfl|trivial),e.trans j⟩
    case measure=>simp[intOf];omega
  ·obtain rfl:k=n:=by omega
   have P:=hid (b.trans e)
   exact absurd (cP H.len o) (by rw[l.out];simp)
inductive RCase:Int→ByteArray→ByteArray→Int→Int→Int→ByteArray→Option Addr→Nat→Nat→World→Bool→Prop where
 |c3a {op:Int} {tb nm vt:ByteArray} {ix vk vi:Int} {A:Option Addr} {n c:Nat} {w:World} (b2:(op==2)=true) (HN1:Hid (nameB nm=false)):RCase op tb nm ix vk vi vt A n c w false
 |c3b {op:Int} {nm vt:ByteArray} {ix vk vi:Int} {A:Option Addr} {n c:Nat} {w:World} (b2:(op==2)=true) (HN1:Hid (nameB nm=true)):RCase op ⟨#[]⟩ nm ix vk vi vt A n c w ((vk==0&&vi==0&&vt.size==0))
 |c3c {op:Int} {tb nm vt:ByteArray} {ix vk vi:Int} {A:Option Addr} {n c:Nat} {w:World} (b2:(op==2)=true) (HN1:Hid (nameB nm=true)) (HN2:Hid (nameB tb=false)) (t1:¬tb.toList= []) (t2:tb.toList.isEmpty=false):RCase op tb nm ix vk vi vt A n c w false
 |c3d {op:Int} {tb nm vt:ByteArray} {ix vk vi:Int} {A:Option Addr} {n c:Nat} {w:World} (b2:(op==2)=true) (HN1:Hid (nameB nm=true)) (HN2:Hid (nameB tb=true)) (t1:¬tb.toList= []) (t2:tb.toList.isEmpty=false):RCase op tb nm ix vk vi vt A n c w ((vk==0&&vi==0&&vt.size==0))
 |c4a {op:Int} {tb nm vt:ByteArray} {ix vk vi:Int} {A:Option Addr} {n c:Nat} {w:World} (b2:(op==2)=false) (t1:¬tb.toList= []) (t2:tb.toList.isEmpty=false):RCase op tb nm ix vk vi vt A n c w false
 |c4b {op:Int} {nm vt:ByteArray} {ix vk vi:Int} {A:Option Addr} {n c:Nat} {w:World} (b2:(op==2)=false) (t1:¬nm.toList= []) (t2:nm.toList.isEmpty=false):RCase op ⟨#[]⟩ nm ix vk vi vt A n c w false
 |c5 {op:Int} {vt:ByteArray} {ix vk vi:Int} {A:Option Addr} {n c:Nat} {w:World} {d:Nd} (e0:d.vk=vk) (e1:d.vi=vi) (e2:d.vt=vt) (b2:(op==2)=false) (b1:(op==1)=true):RCase op ⟨#[]⟩ ⟨#[]⟩ ix vk vi vt A n c w (d.litB)
 |c6a {op:Int} {vt:ByteArray} {ix vk vi:Int} {n c:Nat} {w:World} {b off:Nat} {op1:Int} {vk1:Int} (HQ:Hid (w.cell? ⟨b,off+1*8,none⟩=some (.int .i64 op1)∧w.cell? ⟨b,off+1*8+4,none⟩=some (.int .i64 vk1))) (b2:(op==2)=false) (b1:(op==1)=false) (b16:(op==16)=true) (hn2:(1:Int)<(n:Int)) (p1:(op1 !=1)=true):RCase op ⟨#[]⟩ ⟨#[]⟩ ix vk vi vt ((some ⟨b,off,none⟩)) n c w false
 |c6b {op:Int} {vt:ByteArray} {ix vk vi:Int} {n c:Nat} {w:World} {b off:Nat} {op1:Int} {vk1:Int} (HQ:Hid (w.cell? ⟨b,off+1*8,none⟩=some (.int .i64 op1)∧w.cell? ⟨b,off+1*8+4,none⟩=some (.int .i64 vk1))) (b2:(op==2)=false) (b1:(op==1)=false) (b16:(op==16)=true) (hn2:(1:Int)<(n:Int)) (p1:(op1 !=1)=false) (p2:(vk1 !=2)=true):RCase op ⟨#[]⟩ ⟨#[]⟩ ix vk vi vt ((some ⟨b,off,none⟩)) n c w false
 |c6c {op:Int} {vt:ByteArray} {ix vk vi:Int} {n c:Nat} {w:World} {b off:Nat} {op1:Int} {vk1:Int} (HQ:Hid (w.cell? ⟨b,off+1*8,none⟩=some (.int .i64 op1)∧w.cell? ⟨b,off+1*8+4,none⟩=some (.int .i64 vk1))) (b2:(op==2)=false) (b1:(op==1)=false) (b16:(op==16)=true) (hn2:(1:Int)<(n:Int)) (p1:(op1 !=1)=false) (p2:(vk1 !=2)=false):RCase op ⟨#[]⟩ ⟨#[]⟩ ix vk vi vt ((some ⟨b,off,none⟩)) n c w ((vk==0&&vi==0&&vt.size==0))
 |c7 {op:Int} {vt:ByteArray} {ix vk vi:Int} {A:Option Addr} {n c:Nat} {w:World} (b2:(op==2)=false) (b1:(op==1)=false) (b16:(op==16)=false):RCase op ⟨#[]⟩ ⟨#[]⟩ ix vk vi vt A n c w ((vk==0&&vi==0&&vt.size==0))
theorem rcR {op:Int} {tb nm vt:ByteArray} {ix vk vi:Int} {A:Option Addr} {n c:Nat} {w:World} {R:Bool} {ks:List Ex} (h:RC ks tb nm vt A n c w) (m:Hid (ks.any (fun x=>!x.formed)=false)) (bN:(opN op !=(n:Int))=false) (hc:RCase op tb nm ix vk vi vt A n c w R):
  Calls Tryz.prog 84 #[.agg #[.int .i64 op,.string tb,.string nm,.int .i64 ix,.int .i64 vk,.int .i64 vi,.string vt,.slice A n c]] w fun r w'=>r= .returned (.bool R)∧Ext w w':=by
 have H:=hid h
 clear h
 have V:=hid (Blk.of_new w 37 (eC op tb nm ix vk vi vt A n c))
 have HX:=hid ((Ext.refl w).alloc (.cells #[.int .i64 op,.string tb,.string nm,.int .i64 ix,.int .i64 vk,.int .i64 vi,.string vt,.slice A n c] 37))
 have ac:=H.le
 go_enter Tryz.func84,Tryz.ntmps84
 go_wp2_with fail
 generalize w.alloc (.cells #[.int .i64 op,.string tb,.string nm,.int .i64 ix,.int .i64 vk,.int .i64 vi,.string vt,.slice A n c] 37)=w1 at*
 generalize w.heap.size=g at*
 obtain⟨k0,-,-,-,-,-,-,k7,-⟩:=lks V
 refine ab (by kernel_rfl) (by kernel_rfl) ?_
 repeat (go_big_quiet_step ((go_at_call 158;exact dp (lp _ _))))
 refine wpQuiet_nil ?_
 intro Z G
 have o:=ah G
 clear G k0 k7
 have u:=hid (HX.trans o)
 have J:=hid (V.ext o)
 clear o
 go_wp2_with fail
 go_loopw [3] (fun iv wr=> ∃k:Nat,k≤n∧iv= .int .i64 k∧(ks.take k).any (fun x=>!x.formed)=false∧Ext Z wr) (fun i _=>n- (intOf i).toNat)
 case atStart=>exact⟨0,Nat.zero_le _,rfl,rfl,Ext.refl Z⟩
 case round=>
  obtain⟨k,hk,rfl,X,f⟩:=hrel
  have y:=hid f
  have L:=hid X
  have D:=J.ext f
  obtain⟨c0,c1,c2,-,c4,c5,c6,c7,-⟩:=cls D
  clear D X
  by_cases Q:k<n
  ·obtain⟨P,E⟩:=dI H.len Q
   obtain⟨b',Y,A',n',c',hA,j,q1,q2,q3,l,q5,q6,q7,F⟩:=((H.kids.ext u).ext f).get E
   subst hA
   have HC:=hid (H.call P (eT E) A' n' c' _ F)
   have s:Hid (P.formed=true):=by
    unfold Hid
    cases hf:P.formed
    ·rw[bU (p:=fun x=>!x.formed) E (by simp[hf])]at m
     exact absurd m.out (by simp)
    ·rfl
   have K:Hid ((ks.take (k+1)).any (fun x=>!x.formed)=false):=bM E L (by simp[s.out])
   clear E F f
   go_wp2_with (go_at_call 84;refine HC.mono ?_;rintro _ w3 ⟨rfl,U⟩;rw[s.out])
   go_roundw
   case rel=>exact⟨k+1,by omega,by go_num,K,y.trans U⟩
   case measure=>simp[intOf];omega
  ·obtain rfl:k=n:=by omega
   have b:=hid (u.trans y)
   cases hc with
   |c3a b2 HN1=>
    go_wp2_with (go_at_call 144;(with_reducible refine(bq nm _ H.out.nm).mono ?_);rintro _ I ⟨rfl,a⟩;rw[HN1.out];have z:=a.keep c4;have B:=a.keep c5;have C:=a.keep c6;have O:=a.keep c1)
    go_ret
    exact⟨rfl,b.trans a⟩
   |c3b b2 HN1=>
    go_wp2_with (go_at_call 144;(with_reducible refine(bq nm _ H.out.nm).mono ?_);rintro _ I ⟨rfl,a⟩;rw[HN1.out];have z:=a.keep c4;have B:=a.keep c5;have C:=a.keep c6;have O:=a.keep c1)
    all_goals
     go_ret
     refine⟨aa ?_,b.trans a⟩
     rw[cV]
     simp[*]
   |c3c b2 HN1 HN2 t1 t2=>
    go_wp2_with (first|(go_at_call 144;(with_reducible refine(bq nm _ H.out.nm).mono ?_);rintro _ I ⟨rfl,a⟩;rw[HN1.out];have z:=a.keep c4;have B:=a.keep c5;have C:=a.keep c6;have O:=a.keep c1)|(go_at_call 144;(with_reducible refine(bq tb _ H.out.tb).mono ?_);rintro _ w5 ⟨rfl,e⟩;rw[HN2.out];have f4:=e.keep z;have f5:=e.keep B;have f6:=e.keep C))
    go_ret
    exact⟨rfl,(b.trans a).trans e⟩
   |c3d b2 HN1 HN2 t1 t2=>
    go_wp2_with (first|(go_at_call 144;(with_reducible refine(bq nm _ H.out.nm).mono ?_);rintro _ I ⟨rfl,a⟩;rw[HN1.out];have z:=a.keep c4;have B:=a.keep c5;have C:=a.keep c6;have O:=a.keep c1)|(go_at_call 144;(with_reducible refine(bq tb _ H.out.tb).mono ?_);rintro _ w5 ⟨rfl,e⟩;rw[HN2.out];have f4:=e.keep z;have f5:=e.keep B;have f6:=e.keep C))
    all_goals
     go_ret
     refine⟨aa ?_,(b.trans a).trans e⟩
     rw[cV]
     simp[*]
   |c4a b2 t1 t2=>
    go_wp2_with fail
    go_ret
    exact⟨rfl,b⟩
   |c4b b2 t1 t2=>
    go_wp2_with fail
    go_ret
    exact⟨rfl,b⟩
   |c5 e0 e1 e2 b2 b1=>
    have t:=hid (fun W=>nU vk vi vt W H.vt _ e0 e1 e2)
    clear e0 e1 e2
    go_wp2_with (go_at_call 159;refine(t _).mono ?_;rintro _ I ⟨rfl,a⟩)
    go_ret
    exact⟨rfl,b.trans a⟩
   |c6a HQ b2 b1 b16 hn2 p1=>
    obtain⟨j,l⟩:=HQ.out
    replace j:=b.keep j
    replace l:=b.keep l
    go_wp2_with fail
    go_ret
    exact⟨rfl,b⟩
   |c6b HQ b2 b1 b16 hn2 p1 p2=>
    obtain⟨j,l⟩:=HQ.out
    replace j:=b.keep j
    replace l:=b.keep l
    go_wp2_with fail
    go_ret
    exact⟨rfl,b⟩
   |c6c HQ b2 b1 b16 hn2 p1 p2=>
    obtain⟨j,l⟩:=HQ.out
    replace j:=b.keep j
    replace l:=b.keep l
    go_wp2_with fail
    all_goals
     go_ret
     refine⟨aa ?_,b⟩
     rw[cV]
     simp[*]
   |c7 b2 b1 b16=>
    go_wp2_with fail
    all_goals
     go_ret
     refine⟨aa ?_,b⟩
     rw[cV]
     simp[*]
theorem cC:∀(e:Ex) (A:Option Addr) (n c:Nat) (w:World),ExV w e A n c→
  Calls Tryz.prog 84 #[e.d.val A n c] w fun r w'=>r= .returned (.bool e.formed)∧Ext w w':=by
 intro e
 induction e using Ex.ind with
 |h d ks ih=>
  intro A n c w Z
  obtain⟨C,X,D,H⟩:=Z
  have C:ks.length=n:=C
  have H:KidsAt w A ks:=H
  have D:d.fit:=D
  have R:=mS d ks
  rw[C]at R
  have a:RC ks d.tb d.nm d.vt A n c w:=⟨D.tb,D.nm,D.vt,C,X,H,fun x m Q V c' W P=>ih x m Q V c' W P⟩
  have L:ndB d (ks.map Ex.d)=if d.op=2 then nameB d.nm&& (d.tb.size==0||nameB d.tb) &&d.valZ
   else if d.op=1 then d.tb.size==0&&d.nm.size==0&&d.litB
   else if d.op=16∧(((ks.map Ex.d).getD 1 d).op≠1∨((ks.map Ex.d).getD 1 d).vk≠2)then false
   else d.tb.size==0&&d.nm.size==0&&d.valZ:=rfl
  have u:d.valZ=(d.vk==0&&d.vi==0&&d.vt.size==0):=rfl
  have E:∀A,(Ex.mk d ks).d.val A n c= .agg #[.int .i64 d.op,.string d.tb,.string d.nm,.int .i64 d.ix,.int .i64 d.vk,.int .i64 d.vi,.string d.vt,.slice A n c]:=fun _=>rfl
  rw[E,R]
  by_cases t:opN d.op=(n:Int)
  ·have f:(opN d.op !=(n:Int))=false:=by rw[t];simp
   have s:(opN d.op==(n:Int))=true:=by rw[t];simp
   rw[s,Bool.true_and]
   cases l:ks.any fun x=>!x.formed
   ·simp only[Bool.not_false,Bool.true_and]
    rw[L]
    by_cases J:d.op=2
    ·rw[if_pos J]
     have k:(d.op==2)=true:=by rw[J];rfl
     cases m:nameB d.nm
     ·exact rcR a l f (.c3a k m)
     ·by_cases g:d.tb.size=0
      ·rw[g,u]
       simp only[beq_self_eq_true,Bool.true_and,Bool.true_or]
       rw[bi g]at a ⊢
       exact rcR a l f (.c3b k m)
      ·have z:(d.tb.size==0)=false:=by simpa using g
       rw[z]
       cases U:nameB d.tb
       ·exact rcR a l f (.c3c k m U (bB g) (bo g))
       ·rw[u]
        simp only[Bool.true_and,Bool.or_true]
        exact rcR a l f (.c3d k m U (bB g) (bo g))
    ·rw[if_neg J]
     have k:(d.op==2)=false:=by simpa using J
     by_cases g:d.tb.size=0
     ·have G:=bi g
      by_cases B:d.nm.size=0
      ·have K:=bi B
       by_cases I:d.op=1
       ·rw[if_pos I,g,B]
        simp only[beq_self_eq_true,Bool.true_and]
        rw[G,K]at a ⊢
        exact rcR a l f (.c5 (d:=d) rfl rfl rfl k (by rw[I];rfl))
       ·rw[if_neg I]
        have F:(d.op==1)=false:=by simpa using I
        rw[g,B,u]
        simp only[beq_self_eq_true,Bool.true_and]
        by_cases j:d.op=16
        ·have Y:n=2:=by
          rw[j]at t
          unfold opN at t
          simp at t
          omega
         obtain⟨x,m⟩:=dI (i:=1) C (by omega)
         obtain⟨b,ac,Q,V,c',rfl,y⟩:=H.get m
         obtain⟨o,kx⟩:=x
         rw[get1 d m]
         have p:(d.op==16)=true:=by rw[j];rfl
         rw[G,K]at a ⊢
         by_cases o1:o.op=1
         ·by_cases o2:o.vk=2
          ·rw[if_neg (by rintro⟨_,h|h⟩;exact h o1;exact h o2)]
           exact rcR a l f (.c6c (op1:=o.op) (vk1:=o.vk) ⟨y.c0,y.c4⟩ k F p (by omega) (by rw[o1];rfl) (by rw[o2];rfl))
          ·rw[if_pos ⟨j,.inr o2⟩]
           exact rcR a l f (.c6b (op1:=o.op) (vk1:=o.vk) ⟨y.c0,y.c4⟩ k F p (by omega) (by rw[o1];rfl) (by simpa using o2))
         ·rw[if_pos ⟨j,.inl o1⟩]
          exact rcR a l f (.c6a (op1:=o.op) (vk1:=o.vk) ⟨y.c0,y.c4⟩ k F p (by omega) (by simpa using o1))
        ·rw[if_neg (fun h=>j h.1)]
         rw[G,K]at a ⊢
         exact rcR a l f (.c7 k F (by simpa using j))
      ·have z:(d.nm.size==0)=false:=by simpa using B
       have O:(if d.op=1 then d.tb.size==0&&d.nm.size==0&&d.litB else if d.op=16∧(((ks.map Ex.d).getD 1 d).op≠1∨((ks.map Ex.d).getD 1 d).vk≠2)then false else d.tb.size==0&&d.nm.size==0&&d.valZ)=false:=by
        rw[z]
        simp
       rw[O]
       rw[G]at a ⊢
       exact rcR a l f (.c4b k (bB B) (bo B))
     ·have z:(d.tb.size==0)=false:=by simpa using g
      have O:(if d.op=1 then d.tb.size==0&&d.nm.size==0&&d.litB else if d.op=16∧(((ks.map Ex.d).getD 1 d).op≠1∨((ks.map Ex.d).getD 1 d).vk≠2)then false else d.tb.size==0&&d.nm.size==0&&d.valZ)=false:=by
       rw[z]
       simp
      rw[O]
      exact rcR a l f (.c4a k (bB g) (bo g))
   ·simp only[Bool.not_true,Bool.false_and]
    exact rc2 _ _ _ _ _ _ _ _ _ _ _ _ a l f
  ·have f:(opN d.op !=(n:Int))=true:=by simpa using t
   have s:(opN d.op==(n:Int))=false:=by simpa using t
   rw[s]
   simp only[Bool.false_and]
   exact rc1 _ _ _ _ _ _ _ _ _ _ _ _ a f
theorem same_at {l m:List Ex} (b:l.length=m.length) (h:∀(i:Nat) (x y:Ex),l[i]? =some x→m[i]? =some y→i<l.length→x.same y=true):sameL l m=true:=
 (eY l m).2 ⟨b,fun i x y a e=>h i x y a e (List.getElem?_eq_some_iff.1 a).1⟩
theorem same_no {l m:List Ex} {i:Nat} {x y:Ex} (b:l[i]? =some x) (e:m[i]? =some y) (h:x.same y=false):sameL l m=false:=by
 rw[←Bool.not_eq_true,eY]
 rintro⟨_,a⟩
 rw[a i x y b e]at h
 cases h
theorem po {l m:List Ex} (h:l.length≠m.length):sameL l m=false:=by
 rw[←Bool.not_eq_true,eY]
 exact fun a=>h a.1
def ek (l m:List Ex) (k:Nat):Prop:=∀(i:Nat) (x y:Ex),l[i]? =some x→m[i]? =some y→i<k→x.same y=true
theorem ek.zero (l m:List Ex):ek l m 0:=fun _ _ _ _ _ h=>absurd h (Nat.not_lt_zero _)
theorem ek.step {l m:List Ex} {k:Nat} {x y:Ex} (h:ek l m k) (j:l[k]? =some x) (n:m[k]? =some y) (g:x.same y=true):ek l m (k+1):=by
 intro i a b e f hi
 rcases Nat.lt_or_ge i k with h2|h2
 ·exact h i a b e f h2
 ·obtain rfl:i=k:=by omega
  rw[Option.some.inj (e.symm.trans j),Option.some.inj (f.symm.trans n)]
  exact g
theorem ek.done {l m:List Ex} {n:Nat} (h:ek l m n) (a:l.length=n) (b:m.length=n):sameL l m=true:=
 same_at (by rw[a,b]) fun i x y e f hi=>h i x y e f (by omega)
theorem eqfunc_ex (l m:List Ex) (A B:Option Addr) (n p c c':Nat) (w:World) (X:l.length=n) (Y:m.length=p) (hn:n≤9223372036854775807) (h:p≤9223372036854775807) (V:KidsAt w A l) (z:KidsAt w B m)
  (R:∀x∈l,∀(y:Ex) (P D:Option Addr) (Z G c1 c2:Nat) (W:World),ExV W x P Z c1→ExV W y D G c2→Calls Tryz.prog 182 #[x.d.val P Z c1,y.d.val D G c2] W fun r W'=>r= .returned (.bool (x.same y))∧Ext W W'):
  Calls Tryz.prog 266 #[.slice A n c,.slice B p c',.func (Fn.func 182) #[] #[]] w fun r w'=>r= .returned (.bool (sameL l m))∧Ext w w':=by
 have I:=hid X
 have J:=hid Y
 have HK:=hid V
 have H:=hid z
 have HF:=hid R
 clear X Y V z R
 by_cases g:n=p
 ·subst g
  have bN:((n:Int) !=(n:Int))=false:=by simp
  go_enter Tryz.func266,Tryz.ntmps266
  go_wp2_with fail
  go_loopw [17] (fun iv wr=> ∃(k:Nat),k≤n∧iv= .int .i64 k∧ek l m k∧Ext w wr) (fun i _=>n- (intOf i).toNat)
  case atStart=>exact⟨0,Nat.zero_le _,rfl,ek.zero l m,Ext.refl w⟩
  case round=>
   obtain⟨k,ag,rfl,K,a⟩:=hrel
   have f:=hid a
   have u:=hid K
   by_cases C:k<n
   ·obtain⟨x,F⟩:=dI I C
    obtain⟨y,O⟩:=dI J C
    obtain⟨b,an,A',n',c',rfl,q0,q1,q2,q3,q4,q5,q6,q7,L⟩:=(HK.ext a).get F
    obtain⟨b2,ac,D,G,c2,rfl,s0,s1,s2,s3,s4,s5,s6,s7,j⟩:=(H.ext a).get O
    have HV:=hid L
    have ad:=hid j
    have p0:=fun o=> ((Ext.refl wr).alloc o).keep s0
    have p1:=fun o=> ((Ext.refl wr).alloc o).keep s1
    have p2:=fun o=> ((Ext.refl wr).alloc o).keep s2
    have p3:=fun o=> ((Ext.refl wr).alloc o).keep s3
    have p4:=fun o=> ((Ext.refl wr).alloc o).keep s4
    have p5:=fun o=> ((Ext.refl wr).alloc o).keep s5
    have p6:=fun o=> ((Ext.refl wr).alloc o).keep s6
    have p7:=fun o=> ((Ext.refl wr).alloc o).keep s7
    have E:=hid (fun W (U:Ext wr W)=>HF x (eT F) y A' D n' G c' c2 W (L.ext U) (j.ext U))
    have Q:=hid F
    have t:=hid O
    clear F O L j a K s0 s1 s2 s3 s4 s5 s6 s7
    cases h:x.same y
    ·rw[h]at E
     have e:Hid (sameL l m=false):=same_no Q t h
     clear h
     go_wp2_with fail
     refine(E _ (((Ext.refl wr).alloc _).alloc _)).mono ?_
     rintro _ w2 ⟨rfl,s⟩
     go_wp2_with fail
     go_ret
     exact⟨aa e.symm,((f.alloc _).alloc _).trans s⟩
    ·rw[h]at E
     have e:=hid (u.step Q t h)
     clear h
     go_wp2_with fail
     refine(E _ (((Ext.refl wr).alloc _).alloc _)).mono ?_
     rintro _ w2 ⟨rfl,s⟩
     go_wp2_with fail
     go_roundw
     case rel=>exact⟨k+1,by omega,by go_num,e,((f.alloc _).alloc _).trans s⟩
     case measure=>simp[intOf];omega
   ·obtain rfl:k=n:=by omega
    have e:=hid (u.done I J)
    clear K
    go_wp2_with fail
    go_ret
    exact⟨aa e.symm,f⟩
 ·have bN:((n:Int) !=(p:Int))=true:=by simp;omega
  have e:Hid (sameL l m=false):=po (by rw[I.out,J.out];exact g)
  clear g
  go_enter Tryz.func266,Tryz.ntmps266
  go_wp2_with fail
  go_ret
  exact⟨aa e.symm,Ext.refl w⟩
theorem mT (d a:Nd) (ks b:List Ex):(Ex.mk d ks).same (Ex.mk a b)=
  (d.op==a.op&&d.tb.toList==a.tb.toList&&d.nm.toList==a.nm.toList&& (d.vk==a.vk&&d.vi==a.vi&&d.vt.toList==a.vt.toList) &&sameL ks b):=by
 rw[Ex.same,Nd.same,bc,bc,bc]
theorem equal_any:∀(a:Ex) (b:Ex) (A B:Option Addr) (n p c c':Nat) (w:World),ExV w a A n c→ExV w b B p c'→
  Calls Tryz.prog 182 #[a.d.val A n c,b.d.val B p c'] w fun r w'=>r= .returned (.bool (a.same b))∧Ext w w':=by
 intro a
 induction a using Ex.ind with
 |h d ks ih=>
  intro b A B n p c c' w K f
  obtain⟨k,e⟩:=b
  obtain⟨z,C,J,j⟩:=K
  obtain⟨t,u,I,i⟩:=f
  have j:KidsAt w A ks:=j
  have i:KidsAt w B e:=i
  have s:=hid (mT d k ks e)
  obtain⟨S,l⟩:∃S,sameL ks e=S:=⟨_,rfl⟩
  have G:Hid (∀W,Ext w W→Calls Tryz.prog 236 #[.slice A n c,.slice B p c'] W fun r w'=>r= .returned (.bool S)∧Ext W w'):=by
   intro W D
   have o:=hid (eqfunc_ex ks e A B n p c c' W z t C u (j.ext D) (i.ext D) fun x L y E F P Q c1 c2 H m f=>ih x L y E F P Q c1 c2 H m f)
   rw[l]at o
   go_enter Tryz.func236,Tryz.ntmps236
   go_wp2_with fail
   refine o.mono ?_
   rintro _ w2 ⟨rfl,g⟩
   go_wp2_with fail
   go_ret
   exact⟨rfl,g⟩
  rw[l]at s
  clear l z t C u J I j i ih
  generalize (Ex.mk d ks).same (Ex.mk k e)=R at*
  unfold Nd.val
  simp only[Ex.d]
  obtain⟨op,tb,nm,ix,vk,vi,vt⟩:=d
  obtain⟨V,X,U,O,Z,Y,ac⟩:=k
  simp only at*
  go_enter Tryz.func182,Tryz.ntmps182
  go_wp2_with (go_at_call 236;refine(G _ (((Ext.refl w).alloc _).alloc _)).mono ?_;rintro _ w2 ⟨rfl,g⟩)
  all_goals
   go_ret
   refine⟨aa (by rw[s.out];simp[*]),?_⟩
   first|exact(((Ext.refl w).alloc _).alloc _).trans g|exact((Ext.refl w).alloc _).alloc _
theorem iw (e:Ex) (A:Option Addr) (n c:Nat) (w:World) (b:ExV w e A n c):
  Calls Tryz.prog 116 #[e.d.val A n c] w fun r w'=>r= .returned (.bool e.absent)∧Ext w w':=by
 have f:Hid (∀W,Ext w W→Calls Tryz.prog 182 #[e.d.val A n c,exZ.d.val none 0 0] W fun r w'=>r= .returned (.bool e.absent)∧Ext W w'):=by
  intro W g
  rw[←j9]
  exact equal_any e exZ A none n 0 c 0 W (b.ext g) ⟨rfl,by omega,⟨⟨by decide,by decide⟩,⟨by decide,by decide⟩,⟨by decide,by decide⟩,⟨by decide,by decide⟩,by decide,by decide,by decide⟩,trivial⟩
 clear b
 unfold Nd.val at*
 generalize e.absent=R at*
 generalize e.d=d at*
 obtain⟨op,tb,nm,ix,vk,vi,vt⟩:=d
 simp only at*
 go_enter Tryz.func116,Tryz.ntmps116
 go_wp2_with (go_at_call 182;refine(f _ ((Ext.refl w).alloc _)).mono ?_;rintro _ h ⟨rfl,a⟩)
 go_ret
 exact⟨rfl,((Ext.refl w).alloc _).trans a⟩
theorem mU (l m:List Ex) (A B:Option Addr) (n p c c':Nat) (w:World) (hl:l.length=n) (hm:m.length=p) (hn:n≤9223372036854775807) (hp:p≤9223372036854775807) (hk:KidsAt w A l) (E:KidsAt w B m)
  (hF:∀x∈l,∀(y:Ex) (A1 t:Option Addr) (n1 G c1 c2:Nat) (W:World),ExV W x A1 n1 c1→ExV W y t G c2→Calls Tryz.prog 19 #[x.d.val A1 n1 c1,y.d.val t G c2] W fun r W'=>r= .returned (.bool (x.same y))∧Ext W W'):
  Calls Tryz.prog 37 #[.slice A n c,.slice B p c'] w fun r w'=>r= .returned (.bool (sameL l m))∧Ext w w':=by
 have HL:=hid hl
 have HM:=hid hm
 have HK:=hid hk
 have ac:=hid E
 have HF:=hid hF
 clear hl hm hk E hF
 by_cases h:n=p
 ·subst h
  have bN:((n:Int) !=(n:Int))=false:=by simp
  go_enter Tryz.func37,Tryz.ntmps37
  go_wp2_with fail
  go_loopw [5] (fun iv wr=> ∃(k:Nat),k≤n∧iv= .int .i64 k∧ek l m k∧Ext w wr) (fun i _=>n- (intOf i).toNat)
  case atStart=>exact⟨0,Nat.zero_le _,rfl,ek.zero l m,Ext.refl w⟩
  case round=>
   obtain⟨k,an,rfl,hr,e⟩:=hrel
   have g:=hid e
   have C:=hid hr
   by_cases F:k<n
   ·obtain⟨x,H⟩:=dI HL F
    obtain⟨y,hy⟩:=dI HM F
    obtain⟨b,ax,A',n',c',rfl,I,J,K,L,O,P,Q,R,hv⟩:=(HK.ext e).get H
    obtain⟨b2,ad,t,G,c2,rfl,U,V,X,Y,Z,s5,s6,s7,o⟩:=(ac.ext e).get hy
    have HV:=hid hv
    have ag:=hid o
    have i0:(0:Int)≤(k:Int):=by omega
    have i1:(k:Int)<(n:Int):=by omega
    have HC:Hid (∀z:ae wr,Calls Tryz.prog 19 #[x.d.val A' n' c',y.d.val t G c2] z.now fun r W'=>r= .returned (.bool (x.same y))∧Ext z.now W'):=
     fun z=>HF x (eT H) y A' t n' G c' c2 z.now (hv.ext z.ext) (o.ext z.ext)
    have HE:=hid H
    have u:=hid hy
    obtain⟨sb,j⟩:∃sb,x.same y=sb:=⟨_,rfl⟩
    have D:=hid j
    rw[j]at HC
    replace I:=ae.keep I
    replace J:=ae.keep J
    replace K:=ae.keep K
    replace L:=ae.keep L
    replace O:=ae.keep O
    replace P:=ae.keep P
    replace Q:=ae.keep Q
    replace R:=ae.keep R
    replace U:=ae.keep U
    replace V:=ae.keep V
    replace X:=ae.keep X
    replace Y:=ae.keep Y
    replace Z:=ae.keep Z
    replace s5:=ae.keep s5
    replace s6:=ae.keep s6
    replace s7:=ae.keep s7
    clear H hy hv o e hr j
    cases sb
    ·have f:Hid (sameL l m=false):=same_no HE u D
     go_wp2_with fail
     refine ab (by kernel_rfl) (by kernel_rfl) ?_
     repeat (go_big_quiet_step ((go_at_call 19;exact ak (HC _))))
     refine wpQuiet_nil ?_
     intro w2 a
     have s:=ah a
     clear a I J K L O P Q R U V X Y Z s5 s6 s7
     go_wp2_with fail
     go_ret
     exact⟨aa f.symm,g.trans s⟩
    ·have f:=hid (C.step HE u D)
     go_wp2_with fail
     refine ab (by kernel_rfl) (by kernel_rfl) ?_
     repeat (go_big_quiet_step ((go_at_call 19;exact ak (HC _))))
     refine wpQuiet_nil ?_
     intro w2 a
     have s:=ah a
     clear a I J K L O P Q R U V X Y Z s5 s6 s7
     go_wp2_with fail
     go_roundw
     case rel=>exact⟨k+1,by omega,by go_num,f,g.trans s⟩
     case measure=>simp[intOf];omega
   ·obtain rfl:k=n:=by omega
    have f:=hid (C.done HL HM)
    clear hr
    go_wp2_with fail
    go_ret
    exact⟨aa f.symm,g⟩
 ·have bN:((n:Int) !=(p:Int))=true:=by simp;omega
  have f:Hid (sameL l m=false):=po (by rw[HL.out,HM.out];exact h)
  clear h
  go_enter Tryz.func37,Tryz.ntmps37
  go_wp2_with fail
  go_ret
  exact⟨aa f.symm,Ext.refl w⟩
theorem gQ:∀(a:Ex) (b:Ex) (A B:Option Addr) (n p c c':Nat) (w:World),ExV w a A n c→ExV w b B p c'→
  Calls Tryz.prog 19 #[a.d.val A n c,b.d.val B p c'] w fun r w'=>r= .returned (.bool (a.same b))∧Ext w w':=by
 intro a
 induction a using Ex.ind with
 |h d ks ih=>
  intro b A B n p c c' w J f
  obtain⟨j,e⟩:=b
  obtain⟨u,z,I,i⟩:=J
  obtain⟨s,t,H,g⟩:=f
  have i:KidsAt w A ks:=i
  have g:KidsAt w B e:=g
  have o:=hid (mT d j ks e)
  obtain⟨S,k⟩:∃S,sameL ks e=S:=⟨_,rfl⟩
  have F:Hid (∀W,Ext w W→Calls Tryz.prog 37 #[.slice A n c,.slice B p c'] W fun r w'=>r= .returned (.bool S)∧Ext W w'):=by
   intro W C
   rw[←k]
   exact mU ks e A B n p c c' W u s z t (i.ext C) (g.ext C) fun x K y D E O P c1 c2 G l f=>ih x K y D E O P c1 c2 G l f
  rw[k]at o
  clear k u s z t I H i g ih
  generalize (Ex.mk d ks).same (Ex.mk j e)=R at*
  unfold Nd.val
  simp only[Ex.d]
  obtain⟨op,tb,nm,ix,vk,vi,vt⟩:=d
  obtain⟨U,V,Q,L,Y,X,Z⟩:=j
  simp only at*
  go_enter Tryz.func19,Tryz.ntmps19
  go_wp2_with (go_at_call 37;refine(F _ (((Ext.refl w).alloc _).alloc _)).mono ?_;rintro _ w2 ⟨rfl,m⟩)
  all_goals
   go_ret
   refine⟨aa (by rw[o.out];simp[*]),?_⟩
   first|exact(((Ext.refl w).alloc _).alloc _).trans m|exact((Ext.refl w).alloc _).alloc _
end Go.Proofs.YtjigcpfjhfoheaaGreatDoor
