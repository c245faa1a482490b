/- Walks: the reference's names; Walks: formed; formed returns whether an expression is well-formed. -/
import Derived.Test.YtjigcpfjhfoheaaGreatDoorYae
namespace Go.Proofs.YtjigcpfjhfoheaaGreatDoor
open Go.RowKit
set_option maxHeartbeats 4000000
set_option maxRecDepth 100000
set_option linter.unusedVariables false
set_option linter.unusedSimpArgs false
def kwStr (k:Nat):ByteArray:=S (kwWords.getD k [])
def kwB (s:ByteArray):Bool:=kwWords.contains (N s)
def kwVals:List Value:=kwWords.map fun l=> .string (S l)
theorem kwVals_get (k:Nat) (h:k<47):kwVals[k]? =some (.string (kwStr k)):=by
 have a:k<kwWords.length:=h
 unfold kwVals kwStr
 rw[List.getElem?_map,List.getD_eq_getElem?_getD,List.getElem?_eq_getElem a]
 rfl
theorem mt:∀l∈kwWords,∀x∈l,x<256:=by decide+kernel
theorem kw_hit {s:ByteArray} {k:Nat} (b:k<47) (h:N (kwStr k)=N s):kwB s=true:=by
 unfold kwB
 have a:k<kwWords.length:=b
 rw[List.contains_iff_mem,←h]
 unfold kwStr
 rw[List.getD_eq_getElem?_getD,List.getElem?_eq_getElem a,Option.getD_some,N_S _ (mt _ (List.getElem_mem a))]
 exact List.getElem_mem a
theorem kw_miss {s:ByteArray} (h:∀k,k<47→N (kwStr k)≠N s):kwB s=false:=by
 unfold kwB
 rw[←Bool.not_eq_true,List.contains_iff_mem]
 intro e
 obtain⟨k,a,b⟩:=List.getElem_of_mem e
 apply h k a
 unfold kwStr
 rw[List.getD_eq_getElem?_getD,List.getElem?_eq_getElem a,Option.getD_some,N_S _ (mt _ (List.getElem_mem a))]
 exact b
theorem keyword_any (s:ByteArray) (w:World):Calls Tryz.prog 216 #[.string s] w fun r w'=>r= .returned (.bool (kwB s))∧Ext w w':=by
 have n:Hid (Blk (w.alloc (.cells kwVals.toArray 9)) w.heap.size 9 kwVals):=Blk.of_new w 9 kwVals
 have m:Hid (Ext w (w.alloc (.cells kwVals.toArray 9))):=(Ext.refl w).alloc _
 go_enter Tryz.func216,Tryz.ntmps216
 go_wp2_with fail
 obtain⟨o,a⟩:∃o,w.alloc (.cells kwVals.toArray 9)=o:=⟨_,rfl⟩
 rw[a]at n m
 change Code.wp _ _ _ _ (w.alloc (.cells kwVals.toArray 9))
 rw[a]
 clear a
 generalize w.heap.size=g at*
 go_loop [4] (fun i=> ∃k:Nat,k≤47∧i= .int .i64 k∧∀j,j<k→N (kwStr j)≠N s) (fun i=>47- (intOf i).toNat)
 case atStart=>exact⟨0,Nat.zero_le _,rfl,fun j p=>absurd p (Nat.not_lt_zero _)⟩
 case round=>
  obtain⟨k,z,rfl,e⟩:=hrel
  have l:=hid e
  clear e
  by_cases f:k<47
  ·have A:=(n.cell k).trans (kwVals_get k f)
   by_cases b:N (kwStr k)=N s
   ·have y:((kwStr k).toList==s.toList)=true:=by rw[aV,b];simp
    have u:=hid (kw_hit f b)
    clear b
    generalize kwStr k=t at*
    go_wp2_with fail
    go_ret
    exact⟨ab u.symm,m⟩
   ·have y:((kwStr k).toList==s.toList)=false:=by rw[aV,beq_eq_false_iff_ne];exact b
    have q:=hid b
    clear b
    have x:Hid (∀j,j<k+1→N (kwStr j)≠N s):=by
     intro j p
     rcases Nat.lt_or_ge j k with h|h
     ·exact l j h
     ·obtain rfl:j=k:=by omega
      exact q
    clear l q
    generalize kwStr k=t at*
    go_wp2_with fail
    go_round
    case rel=>exact⟨k+1,by omega,by go_num,x⟩
    case measure=>simp[intOf];omega
  ·obtain rfl:k=47:=by omega
   go_wp2_with fail
   go_ret
   exact⟨ab (kw_miss l).symm,m⟩
theorem jC (s:ByteArray):nameB s=(dS (N s) && (N s).all cB&&decide (s.size≤24) &&!kwB s):=by unfold nameB fU kwB;rw[N_len]
def gS (k c:Nat):Bool:=ej c||k !=0&&cB c
theorem chOk_all {s:ByteArray} {k:Nat} (f:k<s.size) (h:∀j (a:j<s.size),j<k→gS j s[j].toNat=true) (b:gS k s[k].toNat=true):∀j (a:j<s.size),j<k+1→gS j s[j].toNat=true:=by
 intro j a e
 rcases Nat.lt_or_ge j k with h2|h2
 ·exact h j a h2
 ·obtain rfl:j=k:=by omega
  exact b
theorem chOk_no {s:ByteArray} {k:Nat} (a:k<s.size) (h:gS k s[k].toNat=false):nameB s=false:=by
 unfold gS at h
 rw[Bool.or_eq_false_iff]at h
 by_cases b:k=0
 ·subst b
  exact fJ a h.1
 ·have e:cB s[k].toNat=false:=by
   have:=h.2
   rw[Bool.and_eq_false_iff]at this
   rcases this with h2|h2
   ·simp at h2;exact absurd h2 b
   ·exact h2
  rw[jC,gP a e]
  simp
theorem chOk_yes {s:ByteArray} (h:∀j (b:j<s.size),j<s.size→gS j s[j].toNat=true):nameB s=(decide (0<s.size) &&decide (s.size≤24) &&!kwB s):=by
 rw[jC]
 by_cases e:0<s.size
 ·obtain⟨r,i⟩:=N_head e
  have k:=h 0 e e
  have g:dS (N s)=true:=by
   rw[i]
   simpa[dS,gS] using k
  have m:(N s).all cB=true:=by
   rw[List.all_eq_true]
   intro x n
   obtain⟨j,b,o⟩:=List.getElem_of_mem n
   rw[N_len]at b
   have a:=h j b b
   have f:=N_get s j b
   rw[List.getElem?_eq_getElem (by rw[N_len];exact b)]at f
   have p:x=s[j].toNat:=by rw[←o];exact Option.some.inj f
   rw[p]
   unfold gS at a
   rw[Bool.or_eq_true,Bool.and_eq_true]at a
   rcases a with a|a
   ·unfold cB;rw[a];rfl
   ·exact a.2
  rw[g,m];simp[e]
 ·have l:N s= []:=List.eq_nil_of_length_eq_zero (by rw[N_len];omega)
  rw[l]
  simp[dS,e]
theorem dg (s : ByteArray) (w : World) (F : s.size ≤ 9223372036854775807) : Calls Tryz.prog 144 #[.string s] w fun r w' => r = .returned (.bool (nameB s)) ∧ Ext w w' := by
  go_enter Tryz.func144, Tryz.ntmps144
  go_wp2_with fail
  go_loop [3, 4] (fun i _ => ∃ k : Nat, k ≤ s.size ∧ i = .int .i64 k ∧ ∀ j (z : j < s.size), j < k → gS j s[j].toNat = true) (fun i _ => s.size - (intOf i).toNat)
  case atStart => exact ⟨0, Nat.zero_le _, rfl, fun j _ h => absurd h (Nat.not_lt_zero _)⟩
  case round =>
    obtain ⟨k, E, rfl, g⟩ := hrel
    have m := hid g
    clear g
    by_cases l : k < s.size
    · have u : Hid (gS k s[k].toNat = true → ∀ j (z : j < s.size), j < k + 1 → gS j s[j].toNat = true) := fun h => chOk_all l m h
      have y : Hid (gS k s[k].toNat = false → nameB s = false) := fun h => chOk_no l h
      have n : Hid (gS k s[k].toNat = (decide (97 ≤ s[k].toNat) && decide (s[k].toNat ≤ 122) || k != 0 && (decide (97 ≤ s[k].toNat) && decide (s[k].toNat ≤ 122) || s[k].toNat == 95 || decide (48 ≤ s[k].toNat) && decide (s[k].toNat ≤ 57)))) := rfl
      clear m
      by_cases a : k = 0
      · have b := hid a
        have C : ((k : Int) == 0) = true := by rw [a]; rfl
        clear a
        go_wp2_with fail
        all_goals first
          | (go_round
             case rel =>
               refine ⟨k + 1, by omega, by go_num, u ?_⟩
               rw [n.out]
               have a := b
               simp only [beq_iff_eq, bne_iff_ne, ne_eq, beq_eq_false_iff_ne, bne_eq_false_iff_eq, decide_eq_true_eq, decide_eq_false_iff_not, Bool.or_eq_true, Bool.and_eq_true, Bool.not_eq_true', Bool.not_eq_false'] at * <;> omega
             case measure => simp [intOf]; omega)
          | (go_ret
             refine ⟨ab ?_, Ext.refl w⟩
             symm
             apply y
             rw [n.out, ← Bool.not_eq_true]
             have a := b
             simp only [beq_iff_eq, bne_iff_ne, ne_eq, beq_eq_false_iff_ne, bne_eq_false_iff_eq, decide_eq_true_eq, decide_eq_false_iff_not, Bool.or_eq_true, Bool.and_eq_true, Bool.not_eq_true', Bool.not_eq_false'] at * <;> omega)
      · have b := hid a
        have C : ((k : Int) == 0) = false := by rw [beq_eq_false_iff_ne]; omega
        clear a
        go_wp2_with fail
        all_goals first
          | (go_round
             case rel =>
               refine ⟨k + 1, by omega, by go_num, u ?_⟩
               rw [n.out]
               have a := b
               simp only [beq_iff_eq, bne_iff_ne, ne_eq, beq_eq_false_iff_ne, bne_eq_false_iff_eq, decide_eq_true_eq, decide_eq_false_iff_not, Bool.or_eq_true, Bool.and_eq_true, Bool.not_eq_true', Bool.not_eq_false'] at * <;> omega
             case measure => simp [intOf]; omega)
          | (go_ret
             refine ⟨ab ?_, Ext.refl w⟩
             symm
             apply y
             rw [n.out, ← Bool.not_eq_true]
             have a := b
             simp only [beq_iff_eq, bne_iff_ne, ne_eq, beq_eq_false_iff_ne, bne_eq_false_iff_eq, decide_eq_true_eq, decide_eq_false_iff_not, Bool.or_eq_true, Bool.and_eq_true, Bool.not_eq_true', Bool.not_eq_false'] at * <;> omega)
    · obtain rfl : k = s.size := by omega
      have p := hid (chOk_yes m)
      have A := hid (keyword_any s w)
      clear m
      by_cases f : 0 < s.size
      · by_cases o : s.size ≤ 24
        · have x : decide ((0 : Int) < (s.size : Int)) = true := by simp; omega
          have t : decide (0 < s.size) = true := by simpa using f
          have B : decide ((s.size : Int) ≤ (24 : Int)) = true := by simp; omega
          have e : Hid (nameB s = !kwB s) := by unfold Hid; rw [p.out]; simp [f, o]
          clear o
          go_wp2_with (go_at_call 216; refine A.mono ?_; rintro _ D ⟨rfl, q⟩)
          go_ret
          exact ⟨ab e.symm, q⟩
        · have x : decide ((0 : Int) < (s.size : Int)) = true := by simp; omega
          have t : decide (0 < s.size) = true := by simpa using f
          have B : decide ((s.size : Int) ≤ (24 : Int)) = false := by simp; omega
          have e : Hid (nameB s = false) := by unfold Hid; rw [p.out]; simp [o]
          clear o
          go_wp2_with fail
          go_ret
          exact ⟨ab e.symm, Ext.refl w⟩
      · have x : decide ((0 : Int) < (s.size : Int)) = false := by simpa using f
        have t : decide (0 < s.size) = false := by simpa using f
        have e : Hid (nameB s = false) := by unfold Hid; rw [p.out]; simp [f]
        go_wp2_with fail
        go_ret
        exact ⟨ab e.symm, Ext.refl w⟩
theorem im (F:FuncId) (o:Ent F) (p:Ex→Bool) (l:List Ex) (A:Option Addr) (n c:Nat) (w:World) (i:l.length=n) (s:n≤9223372036854775807) (h:KidsAt w A l)
  (j:∀x∈l,∀(k:Option Addr) (f g:Nat) (W:World),Ext w W→ExV W x k f g→Calls Tryz.prog F #[x.d.val k f g] W fun r m=>r= .returned (.bool (p x))∧Ext W m):
  Calls Tryz.prog 111 #[.slice A n c,.func (Fn.func F) #[] #[]] w fun r w'=>r= .returned (.bool (l.any p))∧Ext w w':=by
 have q:=hid (index_ex F o p l A n c w i s h j)
 clear i h j
 go_enter Tryz.func111,Tryz.ntmps111
 go_wp2_with (go_at_call 179;refine q.mono ?_;rintro _ u ⟨⟨x,t,rfl,a⟩,b⟩;have e:=hid a;clear a)
 go_ret
 exact⟨ab e,b⟩
theorem kz (d:Nd) (ks:List Ex):(Ex.mk d ks).formed=(opN d.op==(ks.length:Int) &&!(ks.any fun x=>!x.formed) &&ndB d (ks.map Ex.d)):=by
 rw[Ex.formed,ig]
 congr 2
 rw[List.any_eq_not_all_not,Bool.not_not]
 simp
theorem get1 {ks:List Ex} (d:Nd) {e:Ex} (h:ks[1]? =some e):(ks.map Ex.d).getD 1 d=e.d:=by
 rw[List.getD_eq_getElem?_getD,List.getElem?_map,h];rfl
theorem formed1 (x:Ex) (A:Option Addr) (n c:Nat) (w:World) (h:∀W,Ext w W→Calls Tryz.prog 79 #[x.d.val A n c] W fun r w'=>r= .returned (.bool x.formed)∧Ext W w'):
  Calls Tryz.prog 154 #[x.d.val A n c] w fun r w'=>r= .returned (.bool (!x.formed))∧Ext w w':=by
 have H:=hid h
 clear h
 unfold Nd.val at*
 go_enter Tryz.func154,Tryz.ntmps154
 go_wp2_with (go_at_call 79;refine(H _ ((Ext.refl w).alloc _)).mono ?_;rintro _ b ⟨rfl,a⟩)
 go_ret
 exact⟨rfl,((Ext.refl w).alloc _).trans a⟩
structure FC (tb nm vt:ByteArray) (A:Option Addr) (n c:Nat) (w:World) (B:Bool):Prop where
 tb:tb.size≤9223372036854775807
 nm:nm.size≤9223372036854775807
 vt:vt.size≤9223372036854775807
 sh:Sh w
 con:∀y:ae w,Calls Tryz.prog 111 #[.slice A n c,.func (Fn.func 154) #[] #[]] y.now fun r w'=>r= .returned (.bool B)∧Ext y.now w'
theorem fc1 (op:Int) (tb nm vt:ByteArray) (ix vk vi:Int) (A:Option Addr) (n c:Nat) (w:World) (B:Bool) (h:FC tb nm vt A n c w B) (p:(opN op !=(n:Int))=true):
  Calls Tryz.prog 79 #[.agg #[.int .i64 op,.string tb,.string nm,.int .i64 ix,.int .i64 vk,.int .i64 vi,.string vt,.slice A n c]] w fun r w'=>r= .returned (.bool false)∧Ext w w':=by
 have H:=hid h
 clear h
 have j:=hid (Blk.of_new w 37 (eC op tb nm ix vk vi vt A n c))
 have k:=hid ((Ext.refl w).alloc (.cells #[.int .i64 op,.string tb,.string nm,.int .i64 ix,.int .i64 vk,.int .i64 vi,.string vt,.slice A n c] 37))
 go_enter Tryz.func79,Tryz.ntmps79
 go_wp2_with fail
 generalize w.alloc (.cells #[.int .i64 op,.string tb,.string nm,.int .i64 ix,.int .i64 vk,.int .i64 vi,.string vt,.slice A n c] 37)=o at*
 generalize w.heap.size=g at*
 obtain⟨l,-,-,-,-,-,-,m,-⟩:=lks j
 have f:Hid (∀y:ae o,Calls Tryz.prog 111 #[.slice A n c,.func (Fn.func 154) #[] #[]] y.now fun r w'=>r= .returned (.bool B)∧Ext y.now w'):=fun y=>H.con ⟨y.now,k.trans y.ext⟩
 refine aa (by kernel_rfl) (by kernel_rfl) ?_
 repeat (go_big_quiet_step ((first|(go_at_call 153;exact au (aD _ _))|(go_at_call 111;exact am (f _)))))
 refine wpQuiet_nil ?_
 intro q e
 have a:=af e
 clear e l m f
 have i:=hid (k.trans a)
 have b:=j.ext a
 obtain⟨c0,c1,c2,-,c4,c5,c6,c7,-⟩:=cls b
 clear b a
 go_wp2_with fail
 go_ret
 exact⟨rfl,i⟩
theorem fc2 (op:Int) (tb nm vt:ByteArray) (ix vk vi:Int) (A:Option Addr) (n c:Nat) (w:World) (h:FC tb nm vt A n c w true) (p:(opN op !=(n:Int))=false):
  Calls Tryz.prog 79 #[.agg #[.int .i64 op,.string tb,.string nm,.int .i64 ix,.int .i64 vk,.int .i64 vi,.string vt,.slice A n c]] w fun r w'=>r= .returned (.bool false)∧Ext w w':=by
 have H:=hid h
 clear h
 have j:=hid (Blk.of_new w 37 (eC op tb nm ix vk vi vt A n c))
 have k:=hid ((Ext.refl w).alloc (.cells #[.int .i64 op,.string tb,.string nm,.int .i64 ix,.int .i64 vk,.int .i64 vi,.string vt,.slice A n c] 37))
 go_enter Tryz.func79,Tryz.ntmps79
 go_wp2_with fail
 generalize w.alloc (.cells #[.int .i64 op,.string tb,.string nm,.int .i64 ix,.int .i64 vk,.int .i64 vi,.string vt,.slice A n c] 37)=m at*
 generalize w.heap.size=g at*
 obtain⟨l,-,-,-,-,-,-,o,-⟩:=lks j
 have f:Hid (∀y:ae m,Calls Tryz.prog 111 #[.slice A n c,.func (Fn.func 154) #[] #[]] y.now fun r w'=>r= .returned (.bool true)∧Ext y.now w'):=fun y=>H.con ⟨y.now,k.trans y.ext⟩
 refine aa (by kernel_rfl) (by kernel_rfl) ?_
 repeat (go_big_quiet_step ((first|(go_at_call 153;exact au (aD _ _))|(go_at_call 111;exact am (f _)))))
 refine wpQuiet_nil ?_
 intro q e
 have a:=af e
 clear e l o f
 have i:=hid (k.trans a)
 have b:=j.ext a
 obtain⟨c0,c1,c2,-,c4,c5,c6,c7,-⟩:=cls b
 clear b a
 go_wp2_with fail
 go_ret
 exact⟨rfl,i⟩
theorem fc3a (op:Int) (tb nm vt:ByteArray) (ix vk vi:Int) (A:Option Addr) (n c:Nat) (w:World) (h:FC tb nm vt A n c w false) (t:(opN op !=(n:Int))=false) (q:(op==2)=true) (j:Hid (nameB nm=false)):
  Calls Tryz.prog 79 #[.agg #[.int .i64 op,.string tb,.string nm,.int .i64 ix,.int .i64 vk,.int .i64 vi,.string vt,.slice A n c]] w fun r w'=>r= .returned (.bool false)∧Ext w w':=by
 have H:=hid h
 clear h
 have k:=hid (Blk.of_new w 37 (eC op tb nm ix vk vi vt A n c))
 have l:=hid ((Ext.refl w).alloc (.cells #[.int .i64 op,.string tb,.string nm,.int .i64 ix,.int .i64 vk,.int .i64 vi,.string vt,.slice A n c] 37))
 go_enter Tryz.func79,Tryz.ntmps79
 go_wp2_with fail
 generalize w.alloc (.cells #[.int .i64 op,.string tb,.string nm,.int .i64 ix,.int .i64 vk,.int .i64 vi,.string vt,.slice A n c] 37)=o at*
 generalize w.heap.size=g at*
 obtain⟨m,-,-,-,-,-,-,p,-⟩:=lks k
 have i:Hid (∀y:ae o,Calls Tryz.prog 111 #[.slice A n c,.func (Fn.func 154) #[] #[]] y.now fun r w'=>r= .returned (.bool false)∧Ext y.now w'):=fun y=>H.con ⟨y.now,l.trans y.ext⟩
 refine aa (by kernel_rfl) (by kernel_rfl) ?_
 repeat (go_big_quiet_step ((first|(go_at_call 153;exact au (aD _ _))|(go_at_call 111;exact am (i _)))))
 refine wpQuiet_nil ?_
 intro u f
 have a:=af f
 clear f m p i
 have b:=hid (l.trans a)
 have e:=k.ext a
 obtain⟨c0,c1,c2,-,c4,c5,c6,c7,-⟩:=cls e
 clear e a
 go_wp2_with (go_at_call 115;refine(name_any nm _ (H.sh.ext b) H.nm).mono ?_;rintro _ s ⟨rfl,rfl⟩;rw[j.out])
 go_ret
 exact⟨rfl,b⟩
theorem fc3b (op:Int) (nm vt:ByteArray) (ix vk vi:Int) (A:Option Addr) (n c:Nat) (w:World) (h:FC ⟨#[]⟩ nm vt A n c w false) (t:(opN op !=(n:Int))=false) (q:(op==2)=true) (j:Hid (nameB nm=true)):
  Calls Tryz.prog 79 #[.agg #[.int .i64 op,.string ⟨#[]⟩,.string nm,.int .i64 ix,.int .i64 vk,.int .i64 vi,.string vt,.slice A n c]] w fun r w'=>r= .returned (.bool (vk==0&&vi==0&&vt.size==0))∧Ext w w':=by
 have H:=hid h
 clear h
 have k:=hid (Blk.of_new w 37 (eC op ⟨#[]⟩ nm ix vk vi vt A n c))
 have l:=hid ((Ext.refl w).alloc (.cells #[.int .i64 op,.string ⟨#[]⟩,.string nm,.int .i64 ix,.int .i64 vk,.int .i64 vi,.string vt,.slice A n c] 37))
 go_enter Tryz.func79,Tryz.ntmps79
 go_wp2_with fail
 generalize w.alloc (.cells #[.int .i64 op,.string ⟨#[]⟩,.string nm,.int .i64 ix,.int .i64 vk,.int .i64 vi,.string vt,.slice A n c] 37)=o at*
 generalize w.heap.size=g at*
 obtain⟨m,-,-,-,-,-,-,p,-⟩:=lks k
 have i:Hid (∀y:ae o,Calls Tryz.prog 111 #[.slice A n c,.func (Fn.func 154) #[] #[]] y.now fun r w'=>r= .returned (.bool false)∧Ext y.now w'):=fun y=>H.con ⟨y.now,l.trans y.ext⟩
 refine aa (by kernel_rfl) (by kernel_rfl) ?_
 repeat (go_big_quiet_step ((first|(go_at_call 153;exact au (aD _ _))|(go_at_call 111;exact am (i _)))))
 refine wpQuiet_nil ?_
 intro u f
 have a:=af f
 clear f m p i
 have b:=hid (l.trans a)
 have e:=k.ext a
 obtain⟨c0,c1,c2,-,c4,c5,c6,c7,-⟩:=cls e
 clear e a
 go_wp2_with (go_at_call 115;refine(name_any nm _ (H.sh.ext b) H.nm).mono ?_;rintro _ s ⟨rfl,rfl⟩;rw[j.out])
 all_goals
  go_ret
  refine⟨ab ?_,b⟩
  rw[cO]
  simp[*]
theorem fc3c (op:Int) (tb nm vt:ByteArray) (ix vk vi:Int) (A:Option Addr) (n c:Nat) (w:World) (h:FC tb nm vt A n c w false) (z:(opN op !=(n:Int))=false) (t:(op==2)=true) (k:Hid (nameB nm=true)) (j:Hid (nameB tb=false)) (u:¬tb.toList= []) (B:tb.toList.isEmpty=false):
  Calls Tryz.prog 79 #[.agg #[.int .i64 op,.string tb,.string nm,.int .i64 ix,.int .i64 vk,.int .i64 vi,.string vt,.slice A n c]] w fun r w'=>r= .returned (.bool false)∧Ext w w':=by
 have H:=hid h
 clear h
 have m:=hid (Blk.of_new w 37 (eC op tb nm ix vk vi vt A n c))
 have l:=hid ((Ext.refl w).alloc (.cells #[.int .i64 op,.string tb,.string nm,.int .i64 ix,.int .i64 vk,.int .i64 vi,.string vt,.slice A n c] 37))
 go_enter Tryz.func79,Tryz.ntmps79
 go_wp2_with fail
 generalize w.alloc (.cells #[.int .i64 op,.string tb,.string nm,.int .i64 ix,.int .i64 vk,.int .i64 vi,.string vt,.slice A n c] 37)=p at*
 generalize w.heap.size=g at*
 obtain⟨o,-,-,-,-,-,-,q,-⟩:=lks m
 have f:Hid (∀y:ae p,Calls Tryz.prog 111 #[.slice A n c,.func (Fn.func 154) #[] #[]] y.now fun r w'=>r= .returned (.bool false)∧Ext y.now w'):=fun y=>H.con ⟨y.now,l.trans y.ext⟩
 refine aa (by kernel_rfl) (by kernel_rfl) ?_
 repeat (go_big_quiet_step ((first|(go_at_call 153;exact au (aD _ _))|(go_at_call 111;exact am (f _)))))
 refine wpQuiet_nil ?_
 intro x e
 have b:=af e
 clear e o q f
 have a:=hid (l.trans b)
 have i:=m.ext b
 obtain⟨c0,c1,c2,-,c4,c5,c6,c7,-⟩:=cls i
 clear i b
 go_wp2_with (first|(go_at_call 115;(with_reducible refine(name_any nm _ (H.out.sh.ext a.out) H.out.nm).mono ?_);rintro _ s ⟨rfl,rfl⟩;rw[k.out])|(go_at_call 115;(with_reducible refine(name_any tb _ (H.out.sh.ext a.out) H.out.tb).mono ?_);rintro _ s ⟨rfl,rfl⟩;rw[j.out]))
 go_ret
 exact⟨rfl,a⟩
theorem fc3d (op:Int) (tb nm vt:ByteArray) (ix vk vi:Int) (A:Option Addr) (n c:Nat) (w:World) (h:FC tb nm vt A n c w false) (z:(opN op !=(n:Int))=false) (t:(op==2)=true) (k:Hid (nameB nm=true)) (j:Hid (nameB tb=true)) (u:¬tb.toList= []) (B:tb.toList.isEmpty=false):
  Calls Tryz.prog 79 #[.agg #[.int .i64 op,.string tb,.string nm,.int .i64 ix,.int .i64 vk,.int .i64 vi,.string vt,.slice A n c]] w fun r w'=>r= .returned (.bool (vk==0&&vi==0&&vt.size==0))∧Ext w w':=by
 have H:=hid h
 clear h
 have m:=hid (Blk.of_new w 37 (eC op tb nm ix vk vi vt A n c))
 have l:=hid ((Ext.refl w).alloc (.cells #[.int .i64 op,.string tb,.string nm,.int .i64 ix,.int .i64 vk,.int .i64 vi,.string vt,.slice A n c] 37))
 go_enter Tryz.func79,Tryz.ntmps79
 go_wp2_with fail
 generalize w.alloc (.cells #[.int .i64 op,.string tb,.string nm,.int .i64 ix,.int .i64 vk,.int .i64 vi,.string vt,.slice A n c] 37)=p at*
 generalize w.heap.size=g at*
 obtain⟨o,-,-,-,-,-,-,q,-⟩:=lks m
 have f:Hid (∀y:ae p,Calls Tryz.prog 111 #[.slice A n c,.func (Fn.func 154) #[] #[]] y.now fun r w'=>r= .returned (.bool false)∧Ext y.now w'):=fun y=>H.con ⟨y.now,l.trans y.ext⟩
 refine aa (by kernel_rfl) (by kernel_rfl) ?_
 repeat (go_big_quiet_step ((first|(go_at_call 153;exact au (aD _ _))|(go_at_call 111;exact am (f _)))))
 refine wpQuiet_nil ?_
 intro x e
 have b:=af e
 clear e o q f
 have a:=hid (l.trans b)
 have i:=m.ext b
 obtain⟨c0,c1,c2,-,c4,c5,c6,c7,-⟩:=cls i
 clear i b
 go_wp2_with (first|(go_at_call 115;(with_reducible refine(name_any nm _ (H.out.sh.ext a.out) H.out.nm).mono ?_);rintro _ s ⟨rfl,rfl⟩;rw[k.out])|(go_at_call 115;(with_reducible refine(name_any tb _ (H.out.sh.ext a.out) H.out.tb).mono ?_);rintro _ s ⟨rfl,rfl⟩;rw[j.out]))
 all_goals
  go_ret
  refine⟨ab ?_,a⟩
  rw[cO]
  simp[*]
theorem fc4a (op:Int) (vt:ByteArray) (ix vk vi:Int) (A:Option Addr) (n c:Nat) (w:World) (d:Nd) (m:d.vk=vk) (p:d.vi=vi) (q:d.vt=vt) (h:FC ⟨#[]⟩ ⟨#[]⟩ vt A n c w false) (C:(opN op !=(n:Int))=false) (x:(op==2)=false) (z:(op==1)=true):
  Calls Tryz.prog 79 #[.agg #[.int .i64 op,.string ⟨#[]⟩,.string ⟨#[]⟩,.int .i64 ix,.int .i64 vk,.int .i64 vi,.string vt,.slice A n c]] w fun r w'=>r= .returned (.bool d.litB)∧Ext w w':=by
 have H:=hid h
 clear h
 have b:=hid (fun W=>literal_any vk vi vt W H.vt d m p q)
 clear m p q
 have o:=hid (Blk.of_new w 37 (eC op ⟨#[]⟩ ⟨#[]⟩ ix vk vi vt A n c))
 have l:=hid ((Ext.refl w).alloc (.cells #[.int .i64 op,.string ⟨#[]⟩,.string ⟨#[]⟩,.int .i64 ix,.int .i64 vk,.int .i64 vi,.string vt,.slice A n c] 37))
 go_enter Tryz.func79,Tryz.ntmps79
 go_wp2_with fail
 generalize w.alloc (.cells #[.int .i64 op,.string ⟨#[]⟩,.string ⟨#[]⟩,.int .i64 ix,.int .i64 vk,.int .i64 vi,.string vt,.slice A n c] 37)=t at*
 generalize w.heap.size=g at*
 obtain⟨s,-,-,-,-,-,-,u,-⟩:=lks o
 have f:Hid (∀y:ae t,Calls Tryz.prog 111 #[.slice A n c,.func (Fn.func 154) #[] #[]] y.now fun r w'=>r= .returned (.bool false)∧Ext y.now w'):=fun y=>H.con ⟨y.now,l.trans y.ext⟩
 refine aa (by kernel_rfl) (by kernel_rfl) ?_
 repeat (go_big_quiet_step ((first|(go_at_call 153;exact au (aD _ _))|(go_at_call 111;exact am (f _)))))
 refine wpQuiet_nil ?_
 intro B e
 have a:=af e
 clear e s u f
 have k:=hid (l.trans a)
 have i:=o.ext a
 obtain⟨c0,c1,c2,-,c4,c5,c6,c7,-⟩:=cls i
 clear i a
 go_wp2_with (go_at_call 155;refine(b _).mono ?_;rintro _ D ⟨rfl,j⟩)
 go_ret
 exact⟨rfl,k.trans j⟩
theorem fc4b (op:Int) (nm vt:ByteArray) (ix vk vi:Int) (A:Option Addr) (n c:Nat) (w:World) (h:FC ⟨#[]⟩ nm vt A n c w false) (s:(opN op !=(n:Int))=false) (p:(op==2)=false) (u:(op==1)=true) (t:¬nm.toList= []) (q:nm.toList.isEmpty=false):
  Calls Tryz.prog 79 #[.agg #[.int .i64 op,.string ⟨#[]⟩,.string nm,.int .i64 ix,.int .i64 vk,.int .i64 vi,.string vt,.slice A n c]] w fun r w'=>r= .returned (.bool false)∧Ext w w':=by
 have H:=hid h
 clear h
 have j:=hid (Blk.of_new w 37 (eC op ⟨#[]⟩ nm ix vk vi vt A n c))
 have k:=hid ((Ext.refl w).alloc (.cells #[.int .i64 op,.string ⟨#[]⟩,.string nm,.int .i64 ix,.int .i64 vk,.int .i64 vi,.string vt,.slice A n c] 37))
 go_enter Tryz.func79,Tryz.ntmps79
 go_wp2_with fail
 generalize w.alloc (.cells #[.int .i64 op,.string ⟨#[]⟩,.string nm,.int .i64 ix,.int .i64 vk,.int .i64 vi,.string vt,.slice A n c] 37)=m at*
 generalize w.heap.size=g at*
 obtain⟨l,-,-,-,-,-,-,o,-⟩:=lks j
 have f:Hid (∀y:ae m,Calls Tryz.prog 111 #[.slice A n c,.func (Fn.func 154) #[] #[]] y.now fun r w'=>r= .returned (.bool false)∧Ext y.now w'):=fun y=>H.con ⟨y.now,k.trans y.ext⟩
 refine aa (by kernel_rfl) (by kernel_rfl) ?_
 repeat (go_big_quiet_step ((first|(go_at_call 153;exact au (aD _ _))|(go_at_call 111;exact am (f _)))))
 refine wpQuiet_nil ?_
 intro x e
 have a:=af e
 clear e l o f
 have i:=hid (k.trans a)
 have b:=j.ext a
 obtain⟨c0,c1,c2,-,c4,c5,c6,c7,-⟩:=cls b
 clear b a
 go_wp2_with fail
 go_ret
 exact⟨rfl,i⟩
theorem fc4c (op:Int) (tb nm vt:ByteArray) (ix vk vi:Int) (A:Option Addr) (n c:Nat) (w:World) (h:FC tb nm vt A n c w false) (s:(opN op !=(n:Int))=false) (p:(op==2)=false) (u:(op==1)=true) (t:¬tb.toList= []) (q:tb.toList.isEmpty=false):
  Calls Tryz.prog 79 #[.agg #[.int .i64 op,.string tb,.string nm,.int .i64 ix,.int .i64 vk,.int .i64 vi,.string vt,.slice A n c]] w fun r w'=>r= .returned (.bool false)∧Ext w w':=by
 have H:=hid h
 clear h
 have j:=hid (Blk.of_new w 37 (eC op tb nm ix vk vi vt A n c))
 have k:=hid ((Ext.refl w).alloc (.cells #[.int .i64 op,.string tb,.string nm,.int .i64 ix,.int .i64 vk,.int .i64 vi,.string vt,.slice A n c] 37))
 go_enter Tryz.func79,Tryz.ntmps79
 go_wp2_with fail
 generalize w.alloc (.cells #[.int .i64 op,.string tb,.string nm,.int .i64 ix,.int .i64 vk,.int .i64 vi,.string vt,.slice A n c] 37)=m at*
 generalize w.heap.size=g at*
 obtain⟨l,-,-,-,-,-,-,o,-⟩:=lks j
 have f:Hid (∀y:ae m,Calls Tryz.prog 111 #[.slice A n c,.func (Fn.func 154) #[] #[]] y.now fun r w'=>r= .returned (.bool false)∧Ext y.now w'):=fun y=>H.con ⟨y.now,k.trans y.ext⟩
 refine aa (by kernel_rfl) (by kernel_rfl) ?_
 repeat (go_big_quiet_step ((first|(go_at_call 153;exact au (aD _ _))|(go_at_call 111;exact am (f _)))))
 refine wpQuiet_nil ?_
 intro x e
 have a:=af e
 clear e l o f
 have i:=hid (k.trans a)
 have b:=j.ext a
 obtain⟨c0,c1,c2,-,c4,c5,c6,c7,-⟩:=cls b
 clear b a
 go_wp2_with fail
 go_ret
 exact⟨rfl,i⟩
theorem fc5a (op:Int) (tb nm vt:ByteArray) (ix vk vi:Int) (n c:Nat) (w:World) (b a:Nat) (op1:Int) (q o:ByteArray) (s m p:Int) (l:ByteArray) (K:Option Addr) (n1 c1:Nat) (P:Hid (w.cell? ⟨b,a+1*8,none⟩=some (.int .i64 op1)∧w.cell? ⟨b,a+1*8+1,none⟩=some (.string q)∧w.cell? ⟨b,a+1*8+2,none⟩=some (.string o)∧w.cell? ⟨b,a+1*8+3,none⟩=some (.int .i64 s)∧w.cell? ⟨b,a+1*8+4,none⟩=some (.int .i64 m)∧w.cell? ⟨b,a+1*8+5,none⟩=some (.int .i64 p)∧w.cell? ⟨b,a+1*8+6,none⟩=some (.string l)∧w.cell? ⟨b,a+1*8+7,none⟩=some (.slice K n1 c1))) (h:FC tb nm vt (some ⟨b,a,none⟩) n c w false) (W:(opN op !=(n:Int))=false) (Q:(op==2)=false) (U:(op==1)=false) (O:(op==16)=true) (J:(1:Int)<(n:Int)) (R:(op1 !=1)=true):
  Calls Tryz.prog 79 #[.agg #[.int .i64 op,.string tb,.string nm,.int .i64 ix,.int .i64 vk,.int .i64 vi,.string vt,.slice (some ⟨b,a,none⟩) n c]] w fun r w'=>r= .returned (.bool false)∧Ext w w':=by
 have H:=hid h
 clear h
 have D:=hid (Blk.of_new w 37 (eC op tb nm ix vk vi vt (some ⟨b,a,none⟩) n c))
 have x:=hid ((Ext.refl w).alloc (.cells #[.int .i64 op,.string tb,.string nm,.int .i64 ix,.int .i64 vk,.int .i64 vi,.string vt,.slice (some ⟨b,a,none⟩) n c] 37))
 go_enter Tryz.func79,Tryz.ntmps79
 go_wp2_with fail
 generalize w.alloc (.cells #[.int .i64 op,.string tb,.string nm,.int .i64 ix,.int .i64 vk,.int .i64 vi,.string vt,.slice (some ⟨b,a,none⟩) n c] 37)=I at*
 generalize w.heap.size=g at*
 obtain⟨G,-,-,-,-,-,-,L,-⟩:=lks D
 have j:Hid (∀y:ae I,Calls Tryz.prog 111 #[.slice (some ⟨b,a,none⟩) n c,.func (Fn.func 154) #[] #[]] y.now fun r w'=>r= .returned (.bool false)∧Ext y.now w'):=fun y=>H.con ⟨y.now,x.trans y.ext⟩
 refine aa (by kernel_rfl) (by kernel_rfl) ?_
 repeat (go_big_quiet_step ((first|(go_at_call 153;exact au (aD _ _))|(go_at_call 111;exact am (j _)))))
 refine wpQuiet_nil ?_
 intro V i
 have f:=af i
 clear i G L j
 have e:=hid (x.trans f)
 have k:=D.ext f
 obtain⟨c0,c1,c2,-,c4,c5,c6,c7,-⟩:=cls k
 clear k f
 obtain⟨E,C,z,u,t,F,A,B⟩:=P.out
 replace E:=e.keep E
 replace C:=e.keep C
 replace z:=e.keep z
 replace u:=e.keep u
 replace t:=e.keep t
 replace F:=e.keep F
 replace A:=e.keep A
 replace B:=e.keep B
 go_wp2_with fail
 go_ret
 exact⟨rfl,e.alloc _⟩
theorem fc5b (op:Int) (tb nm vt:ByteArray) (ix vk vi:Int) (n c:Nat) (w:World) (b a:Nat) (op1:Int) (q o:ByteArray) (s j p:Int) (m:ByteArray) (K:Option Addr) (n1 c1:Nat) (P:Hid (w.cell? ⟨b,a+1*8,none⟩=some (.int .i64 op1)∧w.cell? ⟨b,a+1*8+1,none⟩=some (.string q)∧w.cell? ⟨b,a+1*8+2,none⟩=some (.string o)∧w.cell? ⟨b,a+1*8+3,none⟩=some (.int .i64 s)∧w.cell? ⟨b,a+1*8+4,none⟩=some (.int .i64 j)∧w.cell? ⟨b,a+1*8+5,none⟩=some (.int .i64 p)∧w.cell? ⟨b,a+1*8+6,none⟩=some (.string m)∧w.cell? ⟨b,a+1*8+7,none⟩=some (.slice K n1 c1))) (h:FC tb nm vt (some ⟨b,a,none⟩) n c w false) (X:(opN op !=(n:Int))=false) (Q:(op==2)=false) (U:(op==1)=false) (O:(op==16)=true) (J:(1:Int)<(n:Int)) (R:(op1 !=1)=false) (V:(j !=2)=true):
  Calls Tryz.prog 79 #[.agg #[.int .i64 op,.string tb,.string nm,.int .i64 ix,.int .i64 vk,.int .i64 vi,.string vt,.slice (some ⟨b,a,none⟩) n c]] w fun r w'=>r= .returned (.bool false)∧Ext w w':=by
 have H:=hid h
 clear h
 have D:=hid (Blk.of_new w 37 (eC op tb nm ix vk vi vt (some ⟨b,a,none⟩) n c))
 have x:=hid ((Ext.refl w).alloc (.cells #[.int .i64 op,.string tb,.string nm,.int .i64 ix,.int .i64 vk,.int .i64 vi,.string vt,.slice (some ⟨b,a,none⟩) n c] 37))
 go_enter Tryz.func79,Tryz.ntmps79
 go_wp2_with fail
 generalize w.alloc (.cells #[.int .i64 op,.string tb,.string nm,.int .i64 ix,.int .i64 vk,.int .i64 vi,.string vt,.slice (some ⟨b,a,none⟩) n c] 37)=I at*
 generalize w.heap.size=g at*
 obtain⟨G,-,-,-,-,-,-,L,-⟩:=lks D
 have k:Hid (∀y:ae I,Calls Tryz.prog 111 #[.slice (some ⟨b,a,none⟩) n c,.func (Fn.func 154) #[] #[]] y.now fun r w'=>r= .returned (.bool false)∧Ext y.now w'):=fun y=>H.con ⟨y.now,x.trans y.ext⟩
 refine aa (by kernel_rfl) (by kernel_rfl) ?_
 repeat (go_big_quiet_step ((first|(go_at_call 153;exact au (aD _ _))|(go_at_call 111;exact am (k _)))))
 refine wpQuiet_nil ?_
 intro W i
 have f:=af i
 clear i G L k
 have e:=hid (x.trans f)
 have l:=D.ext f
 obtain⟨c0,c1,c2,-,c4,c5,c6,c7,-⟩:=cls l
 clear l f
 obtain⟨E,C,z,u,t,F,A,B⟩:=P.out
 replace E:=e.keep E
 replace C:=e.keep C
 replace z:=e.keep z
 replace u:=e.keep u
 replace t:=e.keep t
 replace F:=e.keep F
 replace A:=e.keep A
 replace B:=e.keep B
 go_wp2_with fail
 go_ret
 exact⟨rfl,e.alloc _⟩
theorem fc5c (op:Int) (tb nm vt:ByteArray) (ix vk vi:Int) (n c:Nat) (w:World) (b a:Nat) (op1:Int) (t q:ByteArray) (u j s:Int) (p:ByteArray) (O:Option Addr) (n1 c1:Nat) (R:Hid (w.cell? ⟨b,a+1*8,none⟩=some (.int .i64 op1)∧w.cell? ⟨b,a+1*8+1,none⟩=some (.string t)∧w.cell? ⟨b,a+1*8+2,none⟩=some (.string q)∧w.cell? ⟨b,a+1*8+3,none⟩=some (.int .i64 u)∧w.cell? ⟨b,a+1*8+4,none⟩=some (.int .i64 j)∧w.cell? ⟨b,a+1*8+5,none⟩=some (.int .i64 s)∧w.cell? ⟨b,a+1*8+6,none⟩=some (.string p)∧w.cell? ⟨b,a+1*8+7,none⟩=some (.slice O n1 c1))) (h:FC tb nm vt (some ⟨b,a,none⟩) n c w false) (bN:(opN op !=(n:Int))=false) (U:(op==2)=false) (X:(op==1)=false) (Q:(op==16)=true) (L:(1:Int)<(n:Int)) (W:(op1 !=1)=false) (Y:(j !=2)=false) (t1:¬tb.toList= []) (t2:tb.toList.isEmpty=false):
  Calls Tryz.prog 79 #[.agg #[.int .i64 op,.string tb,.string nm,.int .i64 ix,.int .i64 vk,.int .i64 vi,.string vt,.slice (some ⟨b,a,none⟩) n c]] w fun r w'=>r= .returned (.bool false)∧Ext w w':=by
 have H:=hid h
 clear h
 have F:=hid (Blk.of_new w 37 (eC op tb nm ix vk vi vt (some ⟨b,a,none⟩) n c))
 have A:=hid ((Ext.refl w).alloc (.cells #[.int .i64 op,.string tb,.string nm,.int .i64 ix,.int .i64 vk,.int .i64 vi,.string vt,.slice (some ⟨b,a,none⟩) n c] 37))
 go_enter Tryz.func79,Tryz.ntmps79
 go_wp2_with fail
 generalize w.alloc (.cells #[.int .i64 op,.string tb,.string nm,.int .i64 ix,.int .i64 vk,.int .i64 vi,.string vt,.slice (some ⟨b,a,none⟩) n c] 37)=K at*
 generalize w.heap.size=g at*
 obtain⟨J,-,-,-,-,-,-,P,-⟩:=lks F
 have k:Hid (∀y:ae K,Calls Tryz.prog 111 #[.slice (some ⟨b,a,none⟩) n c,.func (Fn.func 154) #[] #[]] y.now fun r w'=>r= .returned (.bool false)∧Ext y.now w'):=fun y=>H.con ⟨y.now,A.trans y.ext⟩
 refine aa (by kernel_rfl) (by kernel_rfl) ?_
 repeat (go_big_quiet_step ((first|(go_at_call 153;exact au (aD _ _))|(go_at_call 111;exact am (k _)))))
 refine wpQuiet_nil ?_
 intro l i
 have f:=af i
 clear i J P k
 have e:=hid (A.trans f)
 have m:=F.ext f
 obtain⟨c0,c1,c2,-,c4,c5,c6,c7,-⟩:=cls m
 clear m f
 obtain⟨G,E,B,z,x,I,C,D⟩:=R.out
 replace G:=e.keep G
 replace E:=e.keep E
 replace B:=e.keep B
 replace z:=e.keep z
 replace x:=e.keep x
 replace I:=e.keep I
 replace C:=e.keep C
 replace D:=e.keep D
 have V:=fun o=> ((Ext.refl l).alloc o).keep c1
 have Z:=fun o=> ((Ext.refl l).alloc o).keep c2
 have a4:=fun o=> ((Ext.refl l).alloc o).keep c4
 have a5:=fun o=> ((Ext.refl l).alloc o).keep c5
 have a6:=fun o=> ((Ext.refl l).alloc o).keep c6
 go_wp2_with fail
 go_ret
 exact⟨rfl,e.alloc _⟩
theorem fc5d (op:Int) (nm vt:ByteArray) (ix vk vi:Int) (n c:Nat) (w:World) (b a:Nat) (op1:Int) (t q:ByteArray) (u j s:Int) (p:ByteArray) (O:Option Addr) (n1 c1:Nat) (R:Hid (w.cell? ⟨b,a+1*8,none⟩=some (.int .i64 op1)∧w.cell? ⟨b,a+1*8+1,none⟩=some (.string t)∧w.cell? ⟨b,a+1*8+2,none⟩=some (.string q)∧w.cell? ⟨b,a+1*8+3,none⟩=some (.int .i64 u)∧w.cell? ⟨b,a+1*8+4,none⟩=some (.int .i64 j)∧w.cell? ⟨b,a+1*8+5,none⟩=some (.int .i64 s)∧w.cell? ⟨b,a+1*8+6,none⟩=some (.string p)∧w.cell? ⟨b,a+1*8+7,none⟩=some (.slice O n1 c1))) (h:FC ⟨#[]⟩ nm vt (some ⟨b,a,none⟩) n c w false) (bN:(opN op !=(n:Int))=false) (U:(op==2)=false) (X:(op==1)=false) (Q:(op==16)=true) (L:(1:Int)<(n:Int)) (W:(op1 !=1)=false) (Y:(j !=2)=false) (t1:¬nm.toList= []) (t2:nm.toList.isEmpty=false):
  Calls Tryz.prog 79 #[.agg #[.int .i64 op,.string ⟨#[]⟩,.string nm,.int .i64 ix,.int .i64 vk,.int .i64 vi,.string vt,.slice (some ⟨b,a,none⟩) n c]] w fun r w'=>r= .returned (.bool false)∧Ext w w':=by
 have H:=hid h
 clear h
 have F:=hid (Blk.of_new w 37 (eC op ⟨#[]⟩ nm ix vk vi vt (some ⟨b,a,none⟩) n c))
 have A:=hid ((Ext.refl w).alloc (.cells #[.int .i64 op,.string ⟨#[]⟩,.string nm,.int .i64 ix,.int .i64 vk,.int .i64 vi,.string vt,.slice (some ⟨b,a,none⟩) n c] 37))
 go_enter Tryz.func79,Tryz.ntmps79
 go_wp2_with fail
 generalize w.alloc (.cells #[.int .i64 op,.string ⟨#[]⟩,.string nm,.int .i64 ix,.int .i64 vk,.int .i64 vi,.string vt,.slice (some ⟨b,a,none⟩) n c] 37)=K at*
 generalize w.heap.size=g at*
 obtain⟨J,-,-,-,-,-,-,P,-⟩:=lks F
 have k:Hid (∀y:ae K,Calls Tryz.prog 111 #[.slice (some ⟨b,a,none⟩) n c,.func (Fn.func 154) #[] #[]] y.now fun r w'=>r= .returned (.bool false)∧Ext y.now w'):=fun y=>H.con ⟨y.now,A.trans y.ext⟩
 refine aa (by kernel_rfl) (by kernel_rfl) ?_
 repeat (go_big_quiet_step ((first|(go_at_call 153;exact au (aD _ _))|(go_at_call 111;exact am (k _)))))
 refine wpQuiet_nil ?_
 intro l i
 have f:=af i
 clear i J P k
 have e:=hid (A.trans f)
 have m:=F.ext f
 obtain⟨c0,c1,c2,-,c4,c5,c6,c7,-⟩:=cls m
 clear m f
 obtain⟨G,E,B,z,x,I,C,D⟩:=R.out
 replace G:=e.keep G
 replace E:=e.keep E
 replace B:=e.keep B
 replace z:=e.keep z
 replace x:=e.keep x
 replace I:=e.keep I
 replace C:=e.keep C
 replace D:=e.keep D
 have V:=fun o=> ((Ext.refl l).alloc o).keep c1
 have Z:=fun o=> ((Ext.refl l).alloc o).keep c2
 have a4:=fun o=> ((Ext.refl l).alloc o).keep c4
 have a5:=fun o=> ((Ext.refl l).alloc o).keep c5
 have a6:=fun o=> ((Ext.refl l).alloc o).keep c6
 go_wp2_with fail
 go_ret
 exact⟨rfl,e.alloc _⟩
theorem fc5e (op:Int) (vt:ByteArray) (ix vk vi:Int) (n c:Nat) (w:World) (b a:Nat) (op1:Int) (t q:ByteArray) (u j s:Int) (p:ByteArray) (O:Option Addr) (n1 c1:Nat) (R:Hid (w.cell? ⟨b,a+1*8,none⟩=some (.int .i64 op1)∧w.cell? ⟨b,a+1*8+1,none⟩=some (.string t)∧w.cell? ⟨b,a+1*8+2,none⟩=some (.string q)∧w.cell? ⟨b,a+1*8+3,none⟩=some (.int .i64 u)∧w.cell? ⟨b,a+1*8+4,none⟩=some (.int .i64 j)∧w.cell? ⟨b,a+1*8+5,none⟩=some (.int .i64 s)∧w.cell? ⟨b,a+1*8+6,none⟩=some (.string p)∧w.cell? ⟨b,a+1*8+7,none⟩=some (.slice O n1 c1))) (h:FC ⟨#[]⟩ ⟨#[]⟩ vt (some ⟨b,a,none⟩) n c w false) (bN:(opN op !=(n:Int))=false) (U:(op==2)=false) (X:(op==1)=false) (Q:(op==16)=true) (L:(1:Int)<(n:Int)) (W:(op1 !=1)=false) (Y:(j !=2)=false):
  Calls Tryz.prog 79 #[.agg #[.int .i64 op,.string ⟨#[]⟩,.string ⟨#[]⟩,.int .i64 ix,.int .i64 vk,.int .i64 vi,.string vt,.slice (some ⟨b,a,none⟩) n c]] w fun r w'=>r= .returned (.bool (vk==0&&vi==0&&vt.size==0))∧Ext w w':=by
 have H:=hid h
 clear h
 have F:=hid (Blk.of_new w 37 (eC op ⟨#[]⟩ ⟨#[]⟩ ix vk vi vt (some ⟨b,a,none⟩) n c))
 have A:=hid ((Ext.refl w).alloc (.cells #[.int .i64 op,.string ⟨#[]⟩,.string ⟨#[]⟩,.int .i64 ix,.int .i64 vk,.int .i64 vi,.string vt,.slice (some ⟨b,a,none⟩) n c] 37))
 go_enter Tryz.func79,Tryz.ntmps79
 go_wp2_with fail
 generalize w.alloc (.cells #[.int .i64 op,.string ⟨#[]⟩,.string ⟨#[]⟩,.int .i64 ix,.int .i64 vk,.int .i64 vi,.string vt,.slice (some ⟨b,a,none⟩) n c] 37)=K at*
 generalize w.heap.size=g at*
 obtain⟨J,-,-,-,-,-,-,P,-⟩:=lks F
 have k:Hid (∀y:ae K,Calls Tryz.prog 111 #[.slice (some ⟨b,a,none⟩) n c,.func (Fn.func 154) #[] #[]] y.now fun r w'=>r= .returned (.bool false)∧Ext y.now w'):=fun y=>H.con ⟨y.now,A.trans y.ext⟩
 refine aa (by kernel_rfl) (by kernel_rfl) ?_
 repeat (go_big_quiet_step ((first|(go_at_call 153;exact au (aD _ _))|(go_at_call 111;exact am (k _)))))
 refine wpQuiet_nil ?_
 intro l i
 have f:=af i
 clear i J P k
 have e:=hid (A.trans f)
 have m:=F.ext f
 obtain⟨c0,c1,c2,-,c4,c5,c6,c7,-⟩:=cls m
 clear m f
 obtain⟨G,E,B,z,x,I,C,D⟩:=R.out
 replace G:=e.keep G
 replace E:=e.keep E
 replace B:=e.keep B
 replace z:=e.keep z
 replace x:=e.keep x
 replace I:=e.keep I
 replace C:=e.keep C
 replace D:=e.keep D
 have V:=fun o=> ((Ext.refl l).alloc o).keep c1
 have Z:=fun o=> ((Ext.refl l).alloc o).keep c2
 have a4:=fun o=> ((Ext.refl l).alloc o).keep c4
 have a5:=fun o=> ((Ext.refl l).alloc o).keep c5
 have a6:=fun o=> ((Ext.refl l).alloc o).keep c6
 go_wp2_with fail
 all_goals
  go_ret
  refine⟨ab ?_,e.alloc _⟩
  rw[cO]
  simp[*]
theorem fc6a (op:Int) (tb nm vt:ByteArray) (ix vk vi:Int) (A:Option Addr) (n c:Nat) (w:World) (h:FC tb nm vt A n c w false) (x:(opN op !=(n:Int))=false) (q:(op==2)=false) (s:(op==1)=false) (p:(op==16)=false) (t:¬tb.toList= []) (z:tb.toList.isEmpty=false):
  Calls Tryz.prog 79 #[.agg #[.int .i64 op,.string tb,.string nm,.int .i64 ix,.int .i64 vk,.int .i64 vi,.string vt,.slice A n c]] w fun r w'=>r= .returned (.bool false)∧Ext w w':=by
 have H:=hid h
 clear h
 have k:=hid (Blk.of_new w 37 (eC op tb nm ix vk vi vt A n c))
 have j:=hid ((Ext.refl w).alloc (.cells #[.int .i64 op,.string tb,.string nm,.int .i64 ix,.int .i64 vk,.int .i64 vi,.string vt,.slice A n c] 37))
 go_enter Tryz.func79,Tryz.ntmps79
 go_wp2_with fail
 generalize w.alloc (.cells #[.int .i64 op,.string tb,.string nm,.int .i64 ix,.int .i64 vk,.int .i64 vi,.string vt,.slice A n c] 37)=m at*
 generalize w.heap.size=g at*
 obtain⟨l,-,-,-,-,-,-,o,-⟩:=lks k
 have e:Hid (∀y:ae m,Calls Tryz.prog 111 #[.slice A n c,.func (Fn.func 154) #[] #[]] y.now fun r w'=>r= .returned (.bool false)∧Ext y.now w'):=fun y=>H.con ⟨y.now,j.trans y.ext⟩
 refine aa (by kernel_rfl) (by kernel_rfl) ?_
 repeat (go_big_quiet_step ((first|(go_at_call 153;exact au (aD _ _))|(go_at_call 111;exact am (e _)))))
 refine wpQuiet_nil ?_
 intro u b
 have a:=af b
 clear b l o e
 have i:=hid (j.trans a)
 have f:=k.ext a
 obtain⟨c0,c1,c2,-,c4,c5,c6,c7,-⟩:=cls f
 clear f a
 go_wp2_with fail
 go_ret
 exact⟨rfl,i⟩
theorem fc6b (op:Int) (nm vt:ByteArray) (ix vk vi:Int) (A:Option Addr) (n c:Nat) (w:World) (h:FC ⟨#[]⟩ nm vt A n c w false) (x:(opN op !=(n:Int))=false) (q:(op==2)=false) (s:(op==1)=false) (p:(op==16)=false) (t:¬nm.toList= []) (z:nm.toList.isEmpty=false):
  Calls Tryz.prog 79 #[.agg #[.int .i64 op,.string ⟨#[]⟩,.string nm,.int .i64 ix,.int .i64 vk,.int .i64 vi,.string vt,.slice A n c]] w fun r w'=>r= .returned (.bool false)∧Ext w w':=by
 have H:=hid h
 clear h
 have k:=hid (Blk.of_new w 37 (eC op ⟨#[]⟩ nm ix vk vi vt A n c))
 have j:=hid ((Ext.refl w).alloc (.cells #[.int .i64 op,.string ⟨#[]⟩,.string nm,.int .i64 ix,.int .i64 vk,.int .i64 vi,.string vt,.slice A n c] 37))
 go_enter Tryz.func79,Tryz.ntmps79
 go_wp2_with fail
 generalize w.alloc (.cells #[.int .i64 op,.string ⟨#[]⟩,.string nm,.int .i64 ix,.int .i64 vk,.int .i64 vi,.string vt,.slice A n c] 37)=m at*
 generalize w.heap.size=g at*
 obtain⟨l,-,-,-,-,-,-,o,-⟩:=lks k
 have e:Hid (∀y:ae m,Calls Tryz.prog 111 #[.slice A n c,.func (Fn.func 154) #[] #[]] y.now fun r w'=>r= .returned (.bool false)∧Ext y.now w'):=fun y=>H.con ⟨y.now,j.trans y.ext⟩
 refine aa (by kernel_rfl) (by kernel_rfl) ?_
 repeat (go_big_quiet_step ((first|(go_at_call 153;exact au (aD _ _))|(go_at_call 111;exact am (e _)))))
 refine wpQuiet_nil ?_
 intro u b
 have a:=af b
 clear b l o e
 have i:=hid (j.trans a)
 have f:=k.ext a
 obtain⟨c0,c1,c2,-,c4,c5,c6,c7,-⟩:=cls f
 clear f a
 go_wp2_with fail
 go_ret
 exact⟨rfl,i⟩
theorem fc6c (op:Int) (vt:ByteArray) (ix vk vi:Int) (A:Option Addr) (n c:Nat) (w:World) (h:FC ⟨#[]⟩ ⟨#[]⟩ vt A n c w false) (s:(opN op !=(n:Int))=false) (q:(op==2)=false) (t:(op==1)=false) (m:(op==16)=false):
  Calls Tryz.prog 79 #[.agg #[.int .i64 op,.string ⟨#[]⟩,.string ⟨#[]⟩,.int .i64 ix,.int .i64 vk,.int .i64 vi,.string vt,.slice A n c]] w fun r w'=>r= .returned (.bool (vk==0&&vi==0&&vt.size==0))∧Ext w w':=by
 have H:=hid h
 clear h
 have j:=hid (Blk.of_new w 37 (eC op ⟨#[]⟩ ⟨#[]⟩ ix vk vi vt A n c))
 have k:=hid ((Ext.refl w).alloc (.cells #[.int .i64 op,.string ⟨#[]⟩,.string ⟨#[]⟩,.int .i64 ix,.int .i64 vk,.int .i64 vi,.string vt,.slice A n c] 37))
 go_enter Tryz.func79,Tryz.ntmps79
 go_wp2_with fail
 generalize w.alloc (.cells #[.int .i64 op,.string ⟨#[]⟩,.string ⟨#[]⟩,.int .i64 ix,.int .i64 vk,.int .i64 vi,.string vt,.slice A n c] 37)=o at*
 generalize w.heap.size=g at*
 obtain⟨l,-,-,-,-,-,-,p,-⟩:=lks j
 have f:Hid (∀y:ae o,Calls Tryz.prog 111 #[.slice A n c,.func (Fn.func 154) #[] #[]] y.now fun r w'=>r= .returned (.bool false)∧Ext y.now w'):=fun y=>H.con ⟨y.now,k.trans y.ext⟩
 refine aa (by kernel_rfl) (by kernel_rfl) ?_
 repeat (go_big_quiet_step ((first|(go_at_call 153;exact au (aD _ _))|(go_at_call 111;exact am (f _)))))
 refine wpQuiet_nil ?_
 intro u e
 have a:=af e
 clear e l p f
 have i:=hid (k.trans a)
 have b:=j.ext a
 obtain⟨c0,c1,c2,-,c4,c5,c6,c7,-⟩:=cls b
 clear b a
 go_wp2_with fail
 all_goals
  go_ret
  refine⟨ab ?_,i⟩
  rw[cO]
  simp[*]
theorem gT {w:World} {b o:Nat} {d:Nd} {ks:List Ex} {A:Option Addr} {n c:Nat} (h:bP w b o (.mk d ks) A n c):
  w.cell? ⟨b,o,none⟩=some (.int .i64 d.op)∧w.cell? ⟨b,o+1,none⟩=some (.string d.tb)∧w.cell? ⟨b,o+2,none⟩=some (.string d.nm)∧w.cell? ⟨b,o+3,none⟩=some (.int .i64 d.ix)∧
  w.cell? ⟨b,o+4,none⟩=some (.int .i64 d.vk)∧w.cell? ⟨b,o+5,none⟩=some (.int .i64 d.vi)∧w.cell? ⟨b,o+6,none⟩=some (.string d.vt)∧w.cell? ⟨b,o+7,none⟩=some (.slice A n c):=
 ⟨h.c0,h.c1,h.c2,h.c3,h.c4,h.c5,h.c6,h.c7⟩
theorem cP:∀(e:Ex) (A:Option Addr) (n c:Nat) (w:World),ExV w e A n c→Sh w→
  Calls Tryz.prog 79 #[e.d.val A n c] w fun r w'=>r= .returned (.bool e.formed)∧Ext w w':=by
 intro e
 induction e using Ex.ind with
 |h d ks ih=>
  intro A n c w hv hw
  obtain⟨J,h2,U,K⟩:=hv
  have J:ks.length=n:=J
  have K:KidsAt w A ks:=K
  have U:d.fit:=U
  have Y:=kz d ks
  rw[J]at Y
  obtain⟨B,hB⟩:∃B,(ks.any fun x=>!x.formed)=B:=⟨_,rfl⟩
  have a:FC d.tb d.nm d.vt A n c w B:=by
   refine⟨U.tb,U.nm,U.vt,hw,fun y=>?_⟩
   rw[←hB]
   refine im 154 ent101 _ ks A n c _ J h2 (K.ext y.ext) ?_
   intro x l X O Q W hW ac
   exact formed1 x X O Q W fun W' V=>ih x l X O Q W' (ac.ext V) (((hw.ext y.ext).ext hW).ext V)
  rw[hB]at Y
  have Z:ndB d (ks.map Ex.d)=if d.op=2 then nameB d.nm&& (d.tb.size==0||nameB d.tb) &&d.valZ
   else if d.op=1 then d.tb.size==0&&d.nm.size==0&&d.litB
   else if d.op=16∧(((ks.map Ex.d).getD 1 d).op≠1∨((ks.map Ex.d).getD 1 d).vk≠2)then false
   else d.tb.size==0&&d.nm.size==0&&d.valZ:=rfl
  have D:d.valZ=(d.vk==0&&d.vi==0&&d.vt.size==0):=rfl
  have R:∀A,(Ex.mk d ks).d.val A n c= .agg #[.int .i64 d.op,.string d.tb,.string d.nm,.int .i64 d.ix,.int .i64 d.vk,.int .i64 d.vi,.string d.vt,.slice A n c]:=fun _=>rfl
  rw[R,Y]
  by_cases q:opN d.op=(n:Int)
  ·have g:(opN d.op !=(n:Int))=false:=by rw[q];simp
   have H:(opN d.op==(n:Int))=true:=by rw[q];simp
   rw[H,Bool.true_and]
   cases B
   ·simp only[Bool.not_false,Bool.true_and]
    rw[Z]
    by_cases G:d.tb.size=0
    ·have I:=bu G
     by_cases F:d.nm.size=0
     ·have e2:=bu F
      by_cases m:d.op=2
      ·rw[if_pos m,gR F]
       exact fc3a _ _ _ _ _ _ _ _ _ _ _ a g (by rw[m];rfl) (gR F)
      ·rw[if_neg m]
       by_cases o:d.op=1
       ·rw[if_pos o,G,F]
        simp only[beq_self_eq_true,Bool.true_and]
        rw[I,e2]at a ⊢
        exact fc4a _ _ _ _ _ _ _ _ _ d rfl rfl rfl a g (by rw[o];rfl) (by rw[o];rfl)
       ·rw[if_neg o]
        by_cases f:d.op=16
        ·have P:n=2:=by
          rw[f]at q
          unfold opN at q
          simp at q
          omega
         obtain⟨x,l⟩:=bF (i:=1) J (by omega)
         obtain⟨b,j,X,O,Q,rfl,L⟩:=K.get l
         obtain⟨dx,kx⟩:=x
         rw[get1 d l]
         have u:=gT L
         have s:(d.op==2)=false:=by rw[f];rfl
         have t:(d.op==1)=false:=by rw[f];rfl
         have k:(d.op==16)=true:=by rw[f];rfl
         by_cases o1:dx.op=1
         ·by_cases p:dx.vk=2
          ·rw[if_neg (by rintro⟨_,h|h⟩;exact h o1;exact h p),G,F,D]
           simp only[beq_self_eq_true,Bool.true_and]
           rw[I,e2]at a ⊢
           exact fc5e _ _ _ _ _ _ _ _ b j _ _ _ _ _ _ _ _ _ _ u a g s t k (by omega) (by rw[o1];rfl) (by rw[p];rfl)
          ·rw[if_pos ⟨f,.inr p⟩]
           exact fc5b _ _ _ _ _ _ _ _ _ _ b j _ _ _ _ _ _ _ _ _ _ u a g s t k (by omega) (by rw[o1];rfl) (by simpa using p)
         ·rw[if_pos ⟨f,.inl o1⟩]
          exact fc5a _ _ _ _ _ _ _ _ _ _ b j _ _ _ _ _ _ _ _ _ _ u a g s t k (by omega) (by simpa using o1)
        ·rw[if_neg (fun h=>f h.1),G,F,D]
         simp only[beq_self_eq_true,Bool.true_and]
         rw[I,e2]at a ⊢
         exact fc6c _ _ _ _ _ _ _ _ _ a g (by simpa using m) (by simpa using o) (by simpa using f)
     ·have C:=bU F
      have E:=bI F
      by_cases m:d.op=2
      ·rw[if_pos m,G]
       cases l:nameB d.nm
       ·exact fc3a _ _ _ _ _ _ _ _ _ _ _ a g (by rw[m];rfl) l
       ·rw[D]
        simp only[beq_self_eq_true,Bool.true_and,Bool.true_or]
        rw[I]at a ⊢
        exact fc3b _ _ _ _ _ _ _ _ _ _ a g (by rw[m];rfl) l
      ·rw[if_neg m]
       have z:(d.nm.size==0)=false:=by simpa using F
       by_cases o:d.op=1
       ·rw[if_pos o,z]
        simp only[Bool.and_false,Bool.false_and]
        rw[I]at a ⊢
        exact fc4b _ _ _ _ _ _ _ _ _ _ a g (by rw[o];rfl) (by rw[o];rfl) C E
       ·rw[if_neg o]
        by_cases f:d.op=16
        ·have P:n=2:=by
          rw[f]at q
          unfold opN at q
          simp at q
          omega
         obtain⟨x,l⟩:=bF (i:=1) J (by omega)
         obtain⟨b,j,X,O,Q,rfl,L⟩:=K.get l
         obtain⟨dx,kx⟩:=x
         rw[get1 d l]
         have u:=gT L
         have s:(d.op==2)=false:=by rw[f];rfl
         have t:(d.op==1)=false:=by rw[f];rfl
         have k:(d.op==16)=true:=by rw[f];rfl
         by_cases o1:dx.op=1
         ·by_cases p:dx.vk=2
          ·rw[if_neg (by rintro⟨_,h|h⟩;exact h o1;exact h p),z]
           simp only[Bool.and_false,Bool.false_and]
           rw[I]at a ⊢
           exact fc5d _ _ _ _ _ _ _ _ _ b j _ _ _ _ _ _ _ _ _ _ u a g s t k (by omega) (by rw[o1];rfl) (by rw[p];rfl) C E
          ·rw[if_pos ⟨f,.inr p⟩]
           exact fc5b _ _ _ _ _ _ _ _ _ _ b j _ _ _ _ _ _ _ _ _ _ u a g s t k (by omega) (by rw[o1];rfl) (by simpa using p)
         ·rw[if_pos ⟨f,.inl o1⟩]
          exact fc5a _ _ _ _ _ _ _ _ _ _ b j _ _ _ _ _ _ _ _ _ _ u a g s t k (by omega) (by simpa using o1)
        ·rw[if_neg (fun h=>f h.1),z]
         simp only[Bool.and_false,Bool.false_and]
         rw[I]at a ⊢
         exact fc6b _ _ _ _ _ _ _ _ _ _ a g (by simpa using m) (by simpa using o) (by simpa using f) C E
    ·have C:=bU G
     have E:=bI G
     have z:(d.tb.size==0)=false:=by simpa using G
     by_cases m:d.op=2
     ·rw[if_pos m,z]
      cases l:nameB d.nm
      ·exact fc3a _ _ _ _ _ _ _ _ _ _ _ a g (by rw[m];rfl) l
      ·cases hy:nameB d.tb
       ·exact fc3c _ _ _ _ _ _ _ _ _ _ _ a g (by rw[m];rfl) l hy C E
       ·rw[D]
        simp only[Bool.true_and,Bool.or_true]
        exact fc3d _ _ _ _ _ _ _ _ _ _ _ a g (by rw[m];rfl) l hy C E
     ·rw[if_neg m]
      by_cases o:d.op=1
      ·rw[if_pos o,z]
       simp only[Bool.false_and]
       exact fc4c _ _ _ _ _ _ _ _ _ _ _ a g (by rw[o];rfl) (by rw[o];rfl) C E
      ·rw[if_neg o]
       by_cases f:d.op=16
       ·have P:n=2:=by
         rw[f]at q
         unfold opN at q
         simp at q
         omega
        obtain⟨x,l⟩:=bF (i:=1) J (by omega)
        obtain⟨b,j,X,O,Q,rfl,L⟩:=K.get l
        obtain⟨dx,kx⟩:=x
        rw[get1 d l]
        have u:=gT L
        have s:(d.op==2)=false:=by rw[f];rfl
        have t:(d.op==1)=false:=by rw[f];rfl
        have k:(d.op==16)=true:=by rw[f];rfl
        by_cases o1:dx.op=1
        ·by_cases p:dx.vk=2
         ·rw[if_neg (by rintro⟨_,h|h⟩;exact h o1;exact h p),z]
          simp only[Bool.false_and]
          exact fc5c _ _ _ _ _ _ _ _ _ _ b j _ _ _ _ _ _ _ _ _ _ u a g s t k (by omega) (by rw[o1];rfl) (by rw[p];rfl) C E
         ·rw[if_pos ⟨f,.inr p⟩]
          exact fc5b _ _ _ _ _ _ _ _ _ _ b j _ _ _ _ _ _ _ _ _ _ u a g s t k (by omega) (by rw[o1];rfl) (by simpa using p)
        ·rw[if_pos ⟨f,.inl o1⟩]
         exact fc5a _ _ _ _ _ _ _ _ _ _ b j _ _ _ _ _ _ _ _ _ _ u a g s t k (by omega) (by simpa using o1)
       ·rw[if_neg (fun h=>f h.1),z]
        simp only[Bool.false_and]
        exact fc6a _ _ _ _ _ _ _ _ _ _ _ a g (by simpa using m) (by simpa using o) (by simpa using f) C E
   ·simp only[Bool.not_true,Bool.false_and]
    exact fc2 _ _ _ _ _ _ _ _ _ _ _ a g
  ·have g:(opN d.op !=(n:Int))=true:=by simpa using q
   have H:(opN d.op==(n:Int))=false:=by simpa using q
   rw[H]
   simp only[Bool.false_and]
   exact fc1 _ _ _ _ _ _ _ _ _ _ _ B a g
end Go.Proofs.YtjigcpfjhfoheaaGreatDoor
