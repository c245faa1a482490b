/- Walks over the lexer: text; Walks over the lexer: names, the program's and the reference's; Walks over the lexer: literals, written and read, the program's and the reference's; Walks over the lexer: white space and comments, the p. -/
import Derived.Test.YtjigcpfjhfoheaaGreatDoorEab
import Derived.Test.YtjigcpfjhfoheaaGreatDoorShelf
import Derived.Test.YtjigcpfjhfoheaaGreatDoorEaa
import Derived.RegionTactic
namespace Go.Proofs.YtjigcpfjhfoheaaGreatDoor
open Go.RowKit
set_option maxHeartbeats 4000000
set_option maxRecDepth 100000
set_option linter.unusedVariables false
set_option linter.unusedSimpArgs false
namespace Lx
def TRes:TR→Value
 | .bad e=> .tuple #[.agg #[.int .i64 0,.string ⟨#[]⟩,.int .i64 0],.int .i64 0,.int .i64 e]
 | .tok k x n=> .tuple #[.agg #[.int .i64 k,.string ⟨x.toArray⟩,.int .i64 0],.int .i64 n,.int .i64 0]
def textR:Option (List UInt8×Nat)→TR
 |none=> .bad 2
 |some (X,i)=>if 16<X.length then .bad 3 else .tok 4 X i
theorem u8s_b8 (l:List UInt8):u8s (l.map UInt8.toNat)=b8 l:=by unfold u8s b8;rw[List.map_map];rfl
theorem S_list (l:List UInt8):S (l.map UInt8.toNat)=⟨l.toArray⟩:=by
 unfold S
 rw[List.map_map]
 congr 1
 simp[Function.comp_def]
theorem conv_own8 {P:Program} {w:World} (src dst e B n:Nat) (v:Value) (l:List UInt8) (hs:P.underlying src=some (.slice e)) (he:P.underlying e=some (.int .u8)) (hd:P.underlying dst=some .string)
  (hb:w.ownsRow B e 1 v n (b8 l)):(convert src dst v).run P w= .ok (.string ⟨l.toArray⟩) w:=by
 rw[←u8s_b8]at hb
 rw[conv_own src dst e B n v (l.map UInt8.toNat) hs he hd hb,S_list]
theorem own_shape {w:World} {B e n:Nat} {v:Value} {xs:List Value} (h:w.ownsRow B e 1 v n xs):∃A c,v= .slice A n c:=by
 rcases h.2 with ⟨rfl,h0⟩|⟨g,cap,cur,rfl,_⟩
 ·exact⟨none,0,by rw[h0]⟩
 ·exact⟨some ⟨g,0,none⟩,cap,rfl⟩
theorem info5:(Tryz.prog.info? 5).map (fun i=> (i.zero,i.size,i.bytes))=some (some (.int .u8 0),1,1):=by kernel_rfl
theorem info_parts {t:TypeId} {z:Value} {n b:Nat} (h:(Tryz.prog.info? t).map (fun i=> (i.zero,i.size,i.bytes))=some (some z,n,b)):∃i,Tryz.prog.info? t=some i∧i.zero=some z∧i.size=n∧i.bytes=b:=by
 cases hi:Tryz.prog.info? t with
 |none=>rw[hi]at h;cases h
 |some i=>
  rw[hi]at h
  simp only[Option.map_some,Option.some.injEq,Prod.mk.injEq]at h
  exact⟨i,rfl,h.1,h.2.1,h.2.2⟩
theorem b8_snoc (l:List UInt8) (c:UInt8):b8 (l++ [c])=b8 l++ [.int .u8 (c.toNat:Int)]:=by unfold b8;rw[List.map_append];rfl
theorem text_any (s:ByteArray) (w:World) (hs:s.size≤20000) (h0:0<s.size):Calls Tryz.prog 175 #[.string s] w fun e w'=>e= .returned (TRes (textL (s.data.toList.drop 1)))∧Ext w w':=by
 obtain⟨i0,hi,hz0,hz1,hz2⟩:=info_parts info5
 have HL:Hid (TRes (textL (s.data.toList.drop 1))=TRes (textR (litF (s.data.toList.drop 1) [] 1))):=rfl
 generalize TRes (textL (s.data.toList.drop 1))=V at*
 have HB0:=hid (Blk.of_new w 70 [.int .i64 0,.string ⟨#[]⟩,.int .i64 0])
 go_enter Tryz.func175,Tryz.ntmps175
 go_wp2_with fail
 go_loopw [5,6] (fun v i wr=> ∃(k:Nat) (X:List UInt8),i= .int .i64 k∧1≤k∧k≤s.size∧X.length≤k∧Ext w wr∧Blk wr w.heap.size 70 [.int .i64 0,.string ⟨#[]⟩,.int .i64 0]∧wr.ownsRow (w.heap.size+1) 5 1 v X.length (b8 X)∧V=TRes (textR (litF (s.data.toList.drop k) X k))) (fun _ i _=>s.size- (intOf i).toNat)
 case atStart=>exact⟨1,[],rfl,Nat.le_refl _,h0,Nat.zero_le _,(Ext.refl w).alloc _,HB0.out,World.ownsRow_nil _ _ _ _,HL.out⟩
 case round=>
  obtain⟨k,X,rfl,hk1,hk2,hXs,hxr,hb,hown,hv⟩:=hrel
  obtain⟨A,c,rfl⟩:=own_shape hown
  have HV:=hid hv
  have HB:=hid hb
  clear hv
  have hc0:=hb.cell 0
  have hc1:=hb.cell 1
  have hc2:=hb.cell 2
  obtain⟨hf0,hf1,hf2,-⟩:=frz hb
  clear hb
  have hcv:=conv_own8 (P:=Tryz.prog) 60 9 5 (w.heap.size+1) X.length _ X Tryz.underlying60 Tryz.underlying5 Tryz.underlying9 hown
  by_cases hlt:k<s.size
  ·have HD:=hid (drop1 s k hlt)
   by_cases hc:32≤s[k].toNat∧s[k].toNat≤126
   ·have HP:Hid (isPrint s[k]=true):=by unfold Hid isPrint;simpa using hc
    have HPn:Hid (¬isPrint s[k]=false):=by unfold Hid;rw[HP.out];decide
    obtain⟨hc1',hc2'⟩:=hc
    by_cases hq:s[k].toNat=39
    ·have b1:((s[k].toNat:Int)==39)=true:=by rw[hq];rfl
     have HQ:=hid hq
     clear hq
     by_cases hl:k+1<s.size
     ·have HD2:=hid (drop1 s (k+1) hl)
      have b0:((k:Int)+1==(s.size:Int))=false:=by rw[beq_eq_false_iff_ne];omega
      by_cases hq2:s[k+1].toNat=39
      ·have b2:((s[k+1].toNat:Int)==39)=true:=by rw[hq2];rfl
       have b3:((s[k+1].toNat:Int) !=39)=false:=by rw[hq2];rfl
       have HQ2:=hid hq2
       clear hq2 hcv
       go_wp2_with (at_builtin;refine wpList_app _ rfl _ _ 60 rfl (w.heap.size+1) 5 i0 (.int .u8 0) 1 Tryz.underlying60 hi hz0 hz1 hz2 rfl _ _ _ rfl (own_ext hown ((Ext.refl _).alloc _)) ⟨wr.heap.size,0,none⟩ 1 1 [Value.int .u8 (s[k+1].toNat:Int)] rfl rfl (news_new _ _ _) (by intro u hu;simp at hu;subst hu;rfl) (by unfold maxLen;omega) (by omega) (by have:=HB.out.lt;simp;omega) ?_;intro v' w2 hown' hg' hat' hold' _)
       go_roundw
       case rel=>
        refine⟨k+1+1,X++ [s[k+1]],by go_num,by omega,by omega,by rw[List.length_append];simp only[List.length_cons,List.length_nil];omega,Ext.grown (hxr.alloc _) hg' (fun g hg=>Nat.le_of_succ_le (own_ge hown hg)),(HB.out.ext ((Ext.refl _).alloc _)).grown hg' (fun e=>by have:=own_ge hown e.symm;omega),by rw[b8_snoc,List.length_append];exact hown',?_⟩
        rw[HV.out,HD.out,lit_cons,if_neg HPn.out,if_pos HQ.out,HD2.out]
        simp only
        rw[if_pos HQ2.out]
       case measure=>simp[intOf];omega
      ·have b2:((s[k+1].toNat:Int)==39)=false:=by rw[beq_eq_false_iff_ne];omega
       have b3:((s[k+1].toNat:Int) !=39)=true:=by rw[bne_iff_ne];omega
       have HQ2:Hid (¬s[k+1].toNat=39):=hq2
       clear hq2
       have HE:Hid (V=TRes (textR (some (X,k+1)))):=by
        unfold Hid
        rw[HV.out,HD.out,lit_cons,if_neg HPn.out,if_pos HQ.out,HD2.out]
        simp only
        rw[if_neg HQ2.out]
       by_cases hX:16<X.length
       ·go_wp2_with fail
        have s0:(wr.setCell ⟨w.heap.size,0,none⟩ (.int .i64 0)).cell? ⟨w.heap.size,0,none⟩=some (.int .i64 0):=(HB.out.set 0 _).cell 0
        have s1:((wr.setCell ⟨w.heap.size,0,none⟩ (.int .i64 0)).setCell ⟨w.heap.size,1,none⟩ (.string ⟨#[]⟩)).cell? ⟨w.heap.size,1,none⟩=some (.string ⟨#[]⟩):=((HB.out.set 0 _).set 1 _).cell 1
        have s2:(((wr.setCell ⟨w.heap.size,0,none⟩ (.int .i64 0)).setCell ⟨w.heap.size,1,none⟩ (.string ⟨#[]⟩)).setCell ⟨w.heap.size,2,none⟩ (.int .i64 0)).cell? ⟨w.heap.size,2,none⟩=some (.int .i64 0):=(((HB.out.set 0 _).set 1 _).set 2 _).cell 2
        exact bodyPost_ret (v:= .tuple #[.agg #[.int .i64 0,.string ⟨#[]⟩,.int .i64 0],.int .i64 (0),.int .i64 (3)]) (by simp[results,Tryz.results175,go_sem,s0,s1,s2]) rfl ⟨by rw[HE.out];unfold textR;simp only;rw[if_pos hX];rfl,((hxr.setCell (Nat.le_refl _) _).setCell (Nat.le_refl _) _).setCell (Nat.le_refl _) _⟩
       ·go_wp2_with fail
        have s0:(wr.setCell ⟨w.heap.size,0,none⟩ (.int .i64 4)).cell? ⟨w.heap.size,0,none⟩=some (.int .i64 4):=(HB.out.set 0 _).cell 0
        have s1:((wr.setCell ⟨w.heap.size,0,none⟩ (.int .i64 4)).setCell ⟨w.heap.size,1,none⟩ (.string ⟨X.toArray⟩)).cell? ⟨w.heap.size,1,none⟩=some (.string ⟨X.toArray⟩):=((HB.out.set 0 _).set 1 _).cell 1
        have s2:(((wr.setCell ⟨w.heap.size,0,none⟩ (.int .i64 4)).setCell ⟨w.heap.size,1,none⟩ (.string ⟨X.toArray⟩)).setCell ⟨w.heap.size,2,none⟩ (.int .i64 0)).cell? ⟨w.heap.size,2,none⟩=some (.int .i64 0):=(((HB.out.set 0 _).set 1 _).set 2 _).cell 2
        exact bodyPost_ret (v:= .tuple #[.agg #[.int .i64 4,.string ⟨X.toArray⟩,.int .i64 0],.int .i64 ((k:Int)+1),.int .i64 (0)]) (by simp[results,Tryz.results175,go_sem,s0,s1,s2]) rfl ⟨by rw[HE.out];unfold textR;simp only;rw[if_neg hX];rfl,((hxr.setCell (Nat.le_refl _) _).setCell (Nat.le_refl _) _).setCell (Nat.le_refl _) _⟩
     ·have b0:((k:Int)+1==(s.size:Int))=true:=by rw[beq_iff_eq];omega
      have HE:Hid (V=TRes (textR (some (X,k+1)))):=by
       unfold Hid
       rw[HV.out,HD.out,lit_cons,if_neg HPn.out,if_pos HQ.out]
       rw[List.drop_of_length_le (show s.data.toList.length≤k+1 by show s.size≤_;omega)]
      by_cases hX:16<X.length
      ·go_wp2_with fail
       have s0:(wr.setCell ⟨w.heap.size,0,none⟩ (.int .i64 0)).cell? ⟨w.heap.size,0,none⟩=some (.int .i64 0):=(HB.out.set 0 _).cell 0
       have s1:((wr.setCell ⟨w.heap.size,0,none⟩ (.int .i64 0)).setCell ⟨w.heap.size,1,none⟩ (.string ⟨#[]⟩)).cell? ⟨w.heap.size,1,none⟩=some (.string ⟨#[]⟩):=((HB.out.set 0 _).set 1 _).cell 1
       have s2:(((wr.setCell ⟨w.heap.size,0,none⟩ (.int .i64 0)).setCell ⟨w.heap.size,1,none⟩ (.string ⟨#[]⟩)).setCell ⟨w.heap.size,2,none⟩ (.int .i64 0)).cell? ⟨w.heap.size,2,none⟩=some (.int .i64 0):=(((HB.out.set 0 _).set 1 _).set 2 _).cell 2
       exact bodyPost_ret (v:= .tuple #[.agg #[.int .i64 0,.string ⟨#[]⟩,.int .i64 0],.int .i64 (0),.int .i64 (3)]) (by simp[results,Tryz.results175,go_sem,s0,s1,s2]) rfl ⟨by rw[HE.out];unfold textR;simp only;rw[if_pos hX];rfl,((hxr.setCell (Nat.le_refl _) _).setCell (Nat.le_refl _) _).setCell (Nat.le_refl _) _⟩
      ·go_wp2_with fail
       have s0:(wr.setCell ⟨w.heap.size,0,none⟩ (.int .i64 4)).cell? ⟨w.heap.size,0,none⟩=some (.int .i64 4):=(HB.out.set 0 _).cell 0
       have s1:((wr.setCell ⟨w.heap.size,0,none⟩ (.int .i64 4)).setCell ⟨w.heap.size,1,none⟩ (.string ⟨X.toArray⟩)).cell? ⟨w.heap.size,1,none⟩=some (.string ⟨X.toArray⟩):=((HB.out.set 0 _).set 1 _).cell 1
       have s2:(((wr.setCell ⟨w.heap.size,0,none⟩ (.int .i64 4)).setCell ⟨w.heap.size,1,none⟩ (.string ⟨X.toArray⟩)).setCell ⟨w.heap.size,2,none⟩ (.int .i64 0)).cell? ⟨w.heap.size,2,none⟩=some (.int .i64 0):=(((HB.out.set 0 _).set 1 _).set 2 _).cell 2
       exact bodyPost_ret (v:= .tuple #[.agg #[.int .i64 4,.string ⟨X.toArray⟩,.int .i64 0],.int .i64 ((k:Int)+1),.int .i64 (0)]) (by simp[results,Tryz.results175,go_sem,s0,s1,s2]) rfl ⟨by rw[HE.out];unfold textR;simp only;rw[if_neg hX];rfl,((hxr.setCell (Nat.le_refl _) _).setCell (Nat.le_refl _) _).setCell (Nat.le_refl _) _⟩
    ·have b1:((s[k].toNat:Int)==39)=false:=by rw[beq_eq_false_iff_ne];omega
     have HQ:Hid (¬s[k].toNat=39):=hq
     clear hq hcv
     go_wp2_with (at_builtin;refine wpList_app _ rfl _ _ 60 rfl (w.heap.size+1) 5 i0 (.int .u8 0) 1 Tryz.underlying60 hi hz0 hz1 hz2 rfl _ _ _ rfl (own_ext hown ((Ext.refl _).alloc _)) ⟨wr.heap.size,0,none⟩ 1 1 [Value.int .u8 (s[k].toNat:Int)] rfl rfl (news_new _ _ _) (by intro u hu;simp at hu;subst hu;rfl) (by unfold maxLen;omega) (by omega) (by have:=HB.out.lt;simp;omega) ?_;intro v' w2 hown' hg' hat' hold' _)
     go_roundw
     case rel=>
      refine⟨k+1,X++ [s[k]],by go_num,by omega,by omega,by rw[List.length_append];simp only[List.length_cons,List.length_nil];omega,Ext.grown (hxr.alloc _) hg' (fun g hg=>Nat.le_of_succ_le (own_ge hown hg)),(HB.out.ext ((Ext.refl _).alloc _)).grown hg' (fun e=>by have:=own_ge hown e.symm;omega),by rw[b8_snoc,List.length_append];exact hown',?_⟩
      rw[HV.out,HD.out,lit_cons,if_neg HPn.out,if_neg HQ.out]
     case measure=>simp[intOf];omega
   ·have HP:Hid (isPrint s[k]=false):=by
     unfold Hid isPrint
     rw[Bool.and_eq_false_iff]
     simp only[decide_eq_false_iff_not]
     omega
    clear hcv
    go_wp2_with fail
    all_goals
     have s0:(wr.setCell ⟨w.heap.size,0,none⟩ (.int .i64 0)).cell? ⟨w.heap.size,0,none⟩=some (.int .i64 0):=(HB.out.set 0 _).cell 0
     have s1:((wr.setCell ⟨w.heap.size,0,none⟩ (.int .i64 0)).setCell ⟨w.heap.size,1,none⟩ (.string ⟨#[]⟩)).cell? ⟨w.heap.size,1,none⟩=some (.string ⟨#[]⟩):=((HB.out.set 0 _).set 1 _).cell 1
     have s2:(((wr.setCell ⟨w.heap.size,0,none⟩ (.int .i64 0)).setCell ⟨w.heap.size,1,none⟩ (.string ⟨#[]⟩)).setCell ⟨w.heap.size,2,none⟩ (.int .i64 0)).cell? ⟨w.heap.size,2,none⟩=some (.int .i64 0):=(((HB.out.set 0 _).set 1 _).set 2 _).cell 2
     exact bodyPost_ret (v:= .tuple #[.agg #[.int .i64 0,.string ⟨#[]⟩,.int .i64 0],.int .i64 (0),.int .i64 (2)]) (by simp[results,Tryz.results175,go_sem,s0,s1,s2]) rfl ⟨by rw[HV.out,HD.out,lit_cons,if_pos HP.out];rfl,((hxr.setCell (Nat.le_refl _) _).setCell (Nat.le_refl _) _).setCell (Nat.le_refl _) _⟩
  ·clear hcv
   go_wp2_with fail
   have s0:(wr.setCell ⟨w.heap.size,0,none⟩ (.int .i64 0)).cell? ⟨w.heap.size,0,none⟩=some (.int .i64 0):=(HB.out.set 0 _).cell 0
   have s1:((wr.setCell ⟨w.heap.size,0,none⟩ (.int .i64 0)).setCell ⟨w.heap.size,1,none⟩ (.string ⟨#[]⟩)).cell? ⟨w.heap.size,1,none⟩=some (.string ⟨#[]⟩):=((HB.out.set 0 _).set 1 _).cell 1
   have s2:(((wr.setCell ⟨w.heap.size,0,none⟩ (.int .i64 0)).setCell ⟨w.heap.size,1,none⟩ (.string ⟨#[]⟩)).setCell ⟨w.heap.size,2,none⟩ (.int .i64 0)).cell? ⟨w.heap.size,2,none⟩=some (.int .i64 0):=(((HB.out.set 0 _).set 1 _).set 2 _).cell 2
   exact bodyPost_ret (v:= .tuple #[.agg #[.int .i64 0,.string ⟨#[]⟩,.int .i64 0],.int .i64 (0),.int .i64 (2)]) (by simp[results,Tryz.results175,go_sem,s0,s1,s2]) rfl ⟨by rw[HV.out,List.drop_of_length_le (show s.data.toList.length≤k by show s.size≤_;omega),litF];rfl,((hxr.setCell (Nat.le_refl _) _).setCell (Nat.le_refl _) _).setCell (Nat.le_refl _) _⟩
end Lx
namespace Lx
theorem name_long (l:List UInt8) (h:24<l.length):nameP l=false:=by
 cases l with
 |nil=>rfl
 |cons c r=>unfold nameP;simp only;rw[decide_eq_false (by omega)];rfl
theorem lst_cons (s:ByteArray) (h:0<s.size):s.data.toList=s[0]::s.data.toList.drop 1:=by
 have:=drop1 s 0 h
 rw[List.drop_zero]at this
 exact this
theorem lst_len (s:ByteArray):s.data.toList.length=s.size:=rfl
end Lx
namespace Lx
def Sh (w:World):Prop:=∃m:Int,w.cell? ⟨1,0,none⟩=some (.int .i64 m)
theorem Sh.ext {w w':World} (h:Sh w) (hx:Ext w w'):Sh w':=by
 obtain⟨m,h⟩:=h
 exact⟨m,hx.keep h⟩
theorem countB_le (t:ByteArray):Lib.countB t ⟨#[39]⟩≤t.size+1:=Lib.count_le t.data.toList [39]
theorem flat_len:∀l:List UInt8,(flat l).length≤2*l.length
 | []=>Nat.le_refl _
 |c::r=>by
  have:=flat_len r
  rw[flat]
  split<;>simp only[List.length_cons] <;>omega
theorem by_list {a b:ByteArray} (h:a.data.toList=b.data.toList):a=b:=by
 obtain⟨⟨a⟩⟩:=a
 obtain⟨⟨b⟩⟩:=b
 simpa using h
end Lx
namespace Lx
theorem from_list (s:ByteArray) (k:Nat):(s.extract k s.size).data.toList=s.data.toList.drop k:=by
 rw[Lib.extract_data]
 rw[List.take_of_length_le]
 rw[List.length_drop,lst_len]
 exact Nat.le_refl _
theorem idx_skip:∀l:List UInt8,(Lib.indexByte l 10= -1→skipN true l=l.length)∧∀i:Nat,Lib.indexByte l 10=(i:Int)→i<l.length∧skipN true l=i+skipN false (l.drop i)
 | []=>by
  constructor
  ·intro _;rfl
  ·intro i h
   unfold Lib.indexByte at h
   omega
 |b::l=>by
  have ih:=idx_skip l
  have hg:=Lib.indexByte_ge l 10
  rw[Lib.indexByte]
  by_cases hb:b=10
  ·subst hb
   constructor
   ·intro h;simp at h
   ·intro i h
    simp at h
    obtain rfl:i=0:=by omega
    refine⟨by simp,?_⟩
    rw[List.drop_zero,skipN,if_pos (by decide),skipN,if_pos (.inr (.inr (by decide)))]
    omega
  ·have e:(b==10)=false:=by simpa using hb
   have hb':¬b.toNat=10:=fun h=>hb (num_ext b 10 h)
   rw[e]
   simp only[Bool.false_eq_true,if_false]
   rw[skipN,if_neg hb']
   by_cases hl:Lib.indexByte l 10= -1
   ·have h1:=ih.1 hl
    rw[hl,h1]
    constructor
    ·intro _;rw[List.length_cons]
    ·intro i h;simp at h;try omega
   ·have e2:(Lib.indexByte l 10== -1)=false:=by simpa using hl
    rw[e2]
    simp only[Bool.false_eq_true,if_false]
    constructor
    ·intro h;omega
    ·intro i h
     obtain⟨j,rfl⟩:∃j,i=j+1:=⟨i-1,by omega⟩
     obtain⟨h1,h2⟩:=ih.2 j (by omega)
     rw[List.length_cons,List.drop_succ_cons,h2]
     omega
theorem dash_skip (r:List UInt8) (h:r.head? =some 45):skipN false (45::r)=skipN true (45::r):=by
 have e1:skipN true (45::r)=skipN true r+1:=by rw[skipN];rfl
 rw[e1,skipN.eq_def]
 simp only
 rw[if_neg (by decide),if_pos ⟨by decide,h⟩]
theorem other_skip (c:UInt8) (r:List UInt8) (h1:¬(c.toNat=32∨c.toNat=9∨c.toNat=10)) (h2:¬(c.toNat=45∧r.head? =some 45)):skipN false (c::r)=0:=by
 rw[skipN,if_neg h1,if_neg h2]
theorem space_skip (c:UInt8) (r:List UInt8) (h1:c.toNat=32∨c.toNat=9∨c.toNat=10):skipN false (c::r)=skipN false r+1:=by
 rw[skipN,if_pos h1]
theorem prefix_dash (c:UInt8) (r:List UInt8): [45,45].isPrefixOf (c::r)=decide (c.toNat=45∧r.head? =some 45):=by
 rw[Bool.eq_iff_iff,decide_eq_true_eq]
 cases r with
 |nil=>simp[List.isPrefixOf]
 |cons d q=>
  simp only[List.isPrefixOf,Bool.and_true,Bool.and_eq_true,beq_iff_eq,List.head?_cons,Option.some.injEq]
  constructor
  ·rintro⟨h1,h2⟩;exact⟨by rw[←h1];rfl,h2.symm⟩
  ·rintro⟨h1,h2⟩;exact⟨(num_ext c 45 h1).symm,h2.symm⟩
theorem skip_any (s:ByteArray) (a:Nat) (w:World) (hs:s.size≤20000) (ha:a≤s.size):Calls Tryz.prog 96 #[.string s,.int .i64 a] w fun e w'=>e= .returned (.int .i64 ((a+skipN false (s.data.toList.drop a):Nat):Int))∧w'=w:=by
 generalize hV:a+skipN false (s.data.toList.drop a)=V
 have HV:=hid hV
 clear hV
 go_enter Tryz.func96,Tryz.ntmps96
 go_wp2_with fail
 go_loop [1] (fun i=> ∃k:Nat,k≤s.size∧i= .int .i64 k∧k+skipN false (s.data.toList.drop k)=V) (fun i=>s.size- (intOf i).toNat)
 case atStart=>exact⟨a,ha,rfl,HV.out⟩
 case round=>
  obtain⟨k,hk,rfl,hv⟩:=hrel
  have HV:=hid hv
  clear hv
  by_cases hlt:k<s.size
  ·have HD:=hid (drop1 s k hlt)
   by_cases hsp:s[k].toNat=32∨s[k].toNat=9∨s[k].toNat=10
   ·have HE:Hid (k+1+skipN false (s.data.toList.drop (k+1))=V):=by
     have h:=HV.out
     rw[HD.out,space_skip _ _ hsp]at h
     unfold Hid
     omega
    clear HV HD
    rcases hsp with h|h|h
    ·have b1:((s[k].toNat:Int)==32)=true:=by rw[h];rfl
     clear h
     go_wp2_with fail
     go_round
     case rel=>exact⟨k+1,by omega,by go_num,HE.out⟩
     case measure=>simp[intOf];omega
    ·have b1:((s[k].toNat:Int)==32)=false:=by rw[h];rfl
     have b2:((s[k].toNat:Int)==9)=true:=by rw[h];rfl
     clear h
     go_wp2_with fail
     go_round
     case rel=>exact⟨k+1,by omega,by go_num,HE.out⟩
     case measure=>simp[intOf];omega
    ·have b1:((s[k].toNat:Int)==32)=false:=by rw[h];rfl
     have b2:((s[k].toNat:Int)==9)=false:=by rw[h];rfl
     have b3:((s[k].toNat:Int)==10)=true:=by rw[h];rfl
     clear h
     go_wp2_with fail
     go_round
     case rel=>exact⟨k+1,by omega,by go_num,HE.out⟩
     case measure=>simp[intOf];omega
   ·have b1:((s[k].toNat:Int)==32)=false:=by rw[beq_eq_false_iff_ne];omega
    have b2:((s[k].toNat:Int)==9)=false:=by rw[beq_eq_false_iff_ne];omega
    have b3:((s[k].toNat:Int)==10)=false:=by rw[beq_eq_false_iff_ne];omega
    have HSP:Hid (¬(s[k].toNat=32∨s[k].toNat=9∨s[k].toNat=10)):=hsp
    clear hsp
    have hpre:Lib.hasPrefix (s.extract k s.size).data.toList (ByteArray.mk #[45,45]).data.toList=decide (s[k].toNat=45∧(s.data.toList.drop (k+1)).head? =some 45):=by
     rw[from_list,drop1 s k hlt]
     exact prefix_dash _ _
    have HP:Hid (∀W,Calls Tryz.prog 169 #[.string (s.extract k s.size),.string ⟨#[45,45]⟩] W fun e w'=>e= .returned (.bool (decide (s[k].toNat=45∧(s.data.toList.drop (k+1)).head? =some 45)))∧w'=W):=by
     intro W
     rw[←hpre]
     exact Tryz.strings_HasPrefix (s.extract k s.size) ⟨#[45,45]⟩ W
    clear hpre
    by_cases hc:s[k].toNat=45∧(s.data.toList.drop (k+1)).head? =some 45
    ·rw[decide_eq_true hc]at HP
     have hix:((10:Int)).toNat.toUInt8=10:=rfl
     have HI:Hid (∀W,Calls Tryz.prog 170 #[.string (s.extract k s.size),.int .u8 10] W fun e w'=>e= .returned (.int .i64 (Lib.indexByte (s.data.toList.drop k) 10))∧w'=W):=by
      intro W
      have:=Tryz.strings_IndexByte (s.extract k s.size) 10 W
      rw[from_list,hix]at this
      exact this
     have HK:Hid (k+skipN true (s.data.toList.drop k)=V):=by
      have h:=HV.out
      rw[HD.out]at h ⊢
      rw[num_ext s[k] 45 hc.1]at h ⊢
      rw[dash_skip _ hc.2]at h
      exact h
     have hdl:(s.data.toList.drop k).length=s.size-k:=by rw[List.length_drop,lst_len]
     have hge:=Lib.indexByte_ge (s.data.toList.drop k) 10
     by_cases hn:Lib.indexByte (s.data.toList.drop k) 10= -1
     ·have HE:Hid ((V:Int)=s.size):=by
       have h1:=(idx_skip _).1 hn
       have h:=HK.out
       rw[h1]at h
       unfold Hid
       omega
      rw[hn]at HI
      clear hc hge hdl hn
      go_wp2_with (first|(go_at_call 169;refine(HP.out _).mono ?_;rintro e w1 ⟨rfl,rfl⟩)|(go_at_call 170;refine(HI.out _).mono ?_;rintro e w1 ⟨rfl,rfl⟩))
      go_ret
      exact⟨ret_int HE.out.symm,rfl⟩
     ·obtain⟨m,hm⟩:∃m:Nat,Lib.indexByte (s.data.toList.drop k) 10=m:=⟨(Lib.indexByte (s.data.toList.drop k) 10).toNat,by omega⟩
      obtain⟨h1,h2⟩:=(idx_skip _).2 m hm
      have HE:Hid (k+m+skipN false (s.data.toList.drop (k+m))=V):=by
       have h:=HK.out
       rw[h2,List.drop_drop]at h
       unfold Hid
       omega
      have hm0:0<m:=by
       rcases Nat.eq_zero_or_pos m with h0|h0
       ·exfalso
        subst h0
        rw[drop1 s k hlt,Lib.indexByte]at hm
        rw[num_ext s[k] 45 hc.1]at hm
        have:((45:UInt8)==10)=false:=rfl
        rw[this]at hm
        simp only[Bool.false_eq_true,if_false]at hm
        have hg2:=Lib.indexByte_ge (s.data.toList.drop (k+1)) 10
        split at hm
        ·omega
        ·rename_i hx
         have:Lib.indexByte (s.data.toList.drop (k+1)) 10≠ -1:=fun e=>hx (by rw[e];rfl)
         omega
       ·exact h0
      rw[hdl]at h1
      rw[hm]at HI
      clear hc hge hdl hn h2 hm HK
      go_wp2_with (first|(go_at_call 169;refine(HP.out _).mono ?_;rintro e w1 ⟨rfl,rfl⟩)|(go_at_call 170;refine(HI.out _).mono ?_;rintro e w1 ⟨rfl,rfl⟩))
      go_round
      case rel=>exact⟨k+m,by omega,by go_num,HE.out⟩
      case measure=>simp[intOf];omega
    ·rw[decide_eq_false hc]at HP
     have HE:Hid (k=V):=by
      have h:=HV.out
      rw[HD.out,other_skip _ _ HSP.out hc]at h
      exact h
     clear hc
     go_wp2_with (go_at_call 169;refine(HP.out _).mono ?_;rintro e w1 ⟨rfl,rfl⟩)
     go_ret
     exact⟨ret_int (by rw[HE.out]),rfl⟩
  ·go_wp2_with fail
   go_ret
   obtain rfl:k=s.size:=by omega
   have h:=HV.out
   rw[List.drop_of_length_le (Nat.le_of_eq (lst_len s))]at h
   exact⟨ret_int (by rw[←h];rfl),rfl⟩
theorem rskip_any (s:ByteArray) (a:Nat) (w:World) (hs:s.size≤20000) (ha:a≤s.size):Calls Tryz.prog 94 #[.string s,.int .i64 a] w fun e w'=>e= .returned (.int .i64 ((a+skipN false (s.data.toList.drop a):Nat):Int))∧w'=w:=by
 generalize hV:a+skipN false (s.data.toList.drop a)=V
 have HV:=hid hV
 clear hV
 go_enter Tryz.func94,Tryz.ntmps94
 go_wp2_with fail
 go_loop [1] (fun i=> ∃k:Nat,k≤s.size∧i= .int .i64 k∧k+skipN false (s.data.toList.drop k)=V) (fun i=>s.size- (intOf i).toNat)
 case atStart=>exact⟨a,ha,rfl,HV.out⟩
 case round=>
  obtain⟨k,hk,rfl,hv⟩:=hrel
  have HV:=hid hv
  clear hv
  by_cases hlt:k<s.size
  ·have HD:=hid (drop1 s k hlt)
   have HSC:=hid (fun W=>rspace_any s[k] W)
   by_cases hsp:s[k].toNat=32∨s[k].toNat=9∨s[k].toNat=10
   ·have HE:Hid (k+1+skipN false (s.data.toList.drop (k+1))=V):=by
     have h:=HV.out
     rw[HD.out,space_skip _ _ hsp]at h
     unfold Hid
     omega
    have hb:isSpace s[k]=true:=by unfold isSpace;grind
    rw[hb]at HSC
    clear HV HD hsp
    go_wp2_with (go_at_call 161;refine(HSC.out _).mono ?_;rintro e w1 ⟨rfl,rfl⟩)
    go_round
    case rel=>exact⟨k+1,by omega,by go_num,HE.out⟩
    case measure=>simp[intOf];omega
   ·have hb:isSpace s[k]=false:=by unfold isSpace;grind
    rw[hb]at HSC
    have HSP:Hid (¬(s[k].toNat=32∨s[k].toNat=9∨s[k].toNat=10)):=hsp
    clear hsp
    by_cases hl:k+1<s.size
    ·have HD2:=hid (drop1 s (k+1) hl)
     by_cases h1:s[k].toNat=45
     ·have b1:((s[k].toNat:Int)==45)=true:=by rw[h1];rfl
      have b0:((s[k].toNat:Int) !=10)=true:=by rw[h1];rfl
      have H1:=hid h1
      clear h1
      by_cases h2:s[k+1].toNat=45
      ·have b2:((s[k+1].toNat:Int)==45)=true:=by rw[h2];rfl
       have HK:Hid (k+skipN true (s.data.toList.drop k)=V):=by
        have h:=HV.out
        rw[HD.out]at h ⊢
        rw[num_ext s[k] 45 H1.out]at h ⊢
        rw[dash_skip _ (by rw[HD2.out,List.head?_cons,num_ext s[k+1] 45 h2])]at h
        exact h
       clear h2
       go_wp2_with (go_at_call 161;refine(HSC.out _).mono ?_;rintro e w1 ⟨rfl,rfl⟩)
       clear HV HD HD2
       go_loop [1] (fun i=> ∃j:Nat,k≤j∧j≤s.size∧i= .int .i64 j∧j+skipN true (s.data.toList.drop j)=V) (fun i=>s.size- (intOf i).toNat)
       case atStart=>exact⟨k,Nat.le_refl _,hk,rfl,HK.out⟩
       case round=>
        obtain⟨j,hkj,hj,rfl,hv⟩:=hrel
        have HV:=hid hv
        clear hv
        by_cases hjl:j<s.size
        ·have HD:=hid (drop1 s j hjl)
         by_cases h10:s[j].toNat=10
         ·have b3:((s[j].toNat:Int) !=10)=false:=by rw[h10];rfl
          have HE:Hid (j+skipN false (s.data.toList.drop j)=V):=by
           have h:=HV.out
           rw[HD.out]at h ⊢
           rw[skipN,if_pos h10]at h
           rw[space_skip _ _ (.inr (.inr h10))]
           exact h
          have hne:k<j:=by
           rcases Nat.lt_or_ge k j with h|h
           ·exact h
           ·exfalso
            obtain rfl:k=j:=by omega
            have:=H1.out
            omega
          clear h10
          go_wp2_with fail
          go_round
          case rel=>exact⟨j,hj,rfl,HE.out⟩
          case measure=>simp[intOf];omega
         ·have b3:((s[j].toNat:Int) !=10)=true:=by rw[bne_iff_ne];omega
          have HE:Hid (j+1+skipN true (s.data.toList.drop (j+1))=V):=by
           have h:=HV.out
           rw[HD.out,skipN,if_neg h10]at h
           unfold Hid
           omega
          clear h10
          go_wp2_with fail
          go_round
          case rel=>exact⟨j+1,by omega,by omega,by go_num,HE.out⟩
          case measure=>simp[intOf];omega
        ·have HE:Hid (j+skipN false (s.data.toList.drop j)=V):=by
          have h:=HV.out
          have e:s.data.toList.drop j= []:=List.drop_of_length_le (by rw[lst_len];omega)
          rw[e]at h ⊢
          exact h
         go_wp2_with fail
         go_round
         case rel=>exact⟨j,hj,rfl,HE.out⟩
         case measure=>simp[intOf];omega
      ·have b2:((s[k+1].toNat:Int)==45)=false:=by rw[beq_eq_false_iff_ne];omega
       have HE:Hid (k=V):=by
        have h:=HV.out
        rw[HD.out,other_skip _ _ HSP.out (by
         rw[HD2.out,List.head?_cons]
         rintro⟨_,h⟩
         injection h with h
         rw[h]at h2
         exact h2 rfl)]at h
        exact h
       clear h2
       go_wp2_with (go_at_call 161;refine(HSC.out _).mono ?_;rintro e w1 ⟨rfl,rfl⟩)
       go_ret
       exact⟨ret_int (by rw[HE.out]),rfl⟩
     ·have b1:((s[k].toNat:Int)==45)=false:=by rw[beq_eq_false_iff_ne];omega
      have HE:Hid (k=V):=by
       have h:=HV.out
       rw[HD.out,other_skip _ _ HSP.out (fun h=>h1 h.1)]at h
       exact h
      clear h1
      go_wp2_with (go_at_call 161;refine(HSC.out _).mono ?_;rintro e w1 ⟨rfl,rfl⟩)
      go_ret
      exact⟨ret_int (by rw[HE.out]),rfl⟩
    ·have HE:Hid (k=V):=by
      have h:=HV.out
      rw[HD.out,other_skip _ _ HSP.out (by
       rw[List.drop_of_length_le (show s.data.toList.length≤k+1 by rw[lst_len];omega)]
       rintro⟨_,h⟩
       cases h)]at h
      exact h
     go_wp2_with (go_at_call 161;refine(HSC.out _).mono ?_;rintro e w1 ⟨rfl,rfl⟩)
     go_ret
     exact⟨ret_int (by rw[HE.out]),rfl⟩
  ·go_wp2_with fail
   go_ret
   obtain rfl:k=s.size:=by omega
   have h:=HV.out
   rw[List.drop_of_length_le (Nat.le_of_eq (lst_len s))]at h
   exact⟨ret_int (by rw[←h];rfl),rfl⟩
end Lx
namespace Lx
theorem front_list (s:ByteArray) (k:Nat):(s.extract 0 k).data.toList=s.data.toList.take k:=by
 rw[Lib.extract_data,List.drop_zero,Nat.sub_zero]
theorem piece_size (s:ByteArray) (a k:Nat):(s.extract a k).size≤s.size:=by
 rw[ByteArray.size_extract];omega
theorem word_any (s:ByteArray) (w:World) (hs:s.size≤20000) (hk:KwAt w):Calls Tryz.prog 172 #[.string s] w fun e w'=>e= .returned (TRes (wordL s.data.toList))∧Ext w w':=by
 have hle:spanN inWord s.data.toList≤s.size:=span_le inWord s.data.toList
 have HS:=hid (fun W=>span_word s W (by unfold maxLen;omega))
 have HW:Hid (wordL s.data.toList=if isKw (s.data.toList.take (spanN inWord s.data.toList))=true then .tok 2 ((s.data.toList.take (spanN inWord s.data.toList)).map upC) (spanN inWord s.data.toList)
   else if 24<spanN inWord s.data.toList then .bad 3
   else .tok 1 ((s.data.toList.take (spanN inWord s.data.toList)).map loC) (spanN inWord s.data.toList)):=rfl
 generalize spanN inWord s.data.toList=n at*
 have hps:(s.extract 0 n).size≤20000:=Nat.le_trans (piece_size s 0 n) hs
 have HU:Hid (∀W,Calls Tryz.prog 230 #[.string (s.extract 0 n)] W fun e w'=>e= .returned (.string ⟨((s.data.toList.take n).map upC).toArray⟩)∧Ext W w'):=by
  intro W
  have:=upper_any (s.extract 0 n) W hps
  rw[front_list]at this
  exact this
 have HO:Hid (∀W,Calls Tryz.prog 231 #[.string (s.extract 0 n)] W fun e w'=>e= .returned (.string ⟨((s.data.toList.take n).map loC).toArray⟩)∧Ext W w'):=by
  intro W
  have:=lower_any (s.extract 0 n) W hps
  rw[front_list]at this
  exact this
 have HK:Hid (∀W,Ext w W→Calls Tryz.prog 229 #[.string (s.extract 0 n)] W fun e w'=>e= .returned (.bool (isKw (s.data.toList.take n)))∧Ext W w'):=by
  intro W hW
  have:=keyword_any (s.extract 0 n) W hps (hk.ext hW)
  rw[front_list]at this
  exact this
 have HB0:=hid (Blk.of_new w 70 [.int .i64 0,.string ⟨#[]⟩,.int .i64 0])
 clear hps
 cases hkw:isKw (s.data.toList.take n)
 ·by_cases h24:24<n
  ·have HE:Hid (wordL s.data.toList= .bad 3):=by unfold Hid;rw[HW.out,hkw,if_neg (by decide),if_pos h24]
   go_enter Tryz.func172,Tryz.ntmps172
   go_wp2_with (first|(go_at_call 227;refine(HS.out _).mono ?_;rintro e w1 ⟨rfl,rfl⟩)|(go_at_call 229;refine(HK.out _ ((Ext.refl w).alloc _)).mono ?_;rintro e w1 ⟨rfl,hx1⟩;rw[hkw];have HB:=hid (HB0.out.ext hx1);have hc0:=HB.out.cell 0;have hc1:=HB.out.cell 1;have hc2:=HB.out.cell 2;obtain⟨hf0,hf1,hf2,-⟩:=frz HB.out))
   have s0:(w1.setCell ⟨w.heap.size,0,none⟩ (.int .i64 0)).cell? ⟨w.heap.size,0,none⟩=some (.int .i64 0):=(HB.out.set 0 _).cell 0
   have s1:((w1.setCell ⟨w.heap.size,0,none⟩ (.int .i64 0)).setCell ⟨w.heap.size,1,none⟩ (.string ⟨#[]⟩)).cell? ⟨w.heap.size,1,none⟩=some (.string ⟨#[]⟩):=((HB.out.set 0 _).set 1 _).cell 1
   have s2:(((w1.setCell ⟨w.heap.size,0,none⟩ (.int .i64 0)).setCell ⟨w.heap.size,1,none⟩ (.string ⟨#[]⟩)).setCell ⟨w.heap.size,2,none⟩ (.int .i64 0)).cell? ⟨w.heap.size,2,none⟩=some (.int .i64 0):=(((HB.out.set 0 _).set 1 _).set 2 _).cell 2
   exact bodyPost_ret (v:= .tuple #[.agg #[.int .i64 0,.string ⟨#[]⟩,.int .i64 0],.int .i64 (0),.int .i64 (3)]) (by simp[results,Tryz.results172,go_sem,s0,s1,s2]) rfl ⟨by rw[HE.out];rfl,(((((Ext.refl w).alloc _).trans hx1).setCell (Nat.le_refl _) _).setCell (Nat.le_refl _) _).setCell (Nat.le_refl _) _⟩
  ·have HE:Hid (wordL s.data.toList= .tok 1 ((s.data.toList.take n).map loC) n):=by unfold Hid;rw[HW.out,hkw,if_neg (by decide),if_neg h24]
   generalize (s.data.toList.take n).map loC=L at*
   go_enter Tryz.func172,Tryz.ntmps172
   go_wp2_with (first|(go_at_call 227;refine(HS.out _).mono ?_;rintro e w1 ⟨rfl,rfl⟩)|(go_at_call 229;refine(HK.out _ ((Ext.refl w).alloc _)).mono ?_;rintro e w1 ⟨rfl,hx1⟩;rw[hkw])|(go_at_call 231;refine(HO.out _).mono ?_;rintro e w2 ⟨rfl,hx2⟩;have HB:=hid ((HB0.out.ext hx1).ext hx2);have hc0:=HB.out.cell 0;have hc1:=HB.out.cell 1;have hc2:=HB.out.cell 2;obtain⟨hf0,hf1,hf2,-⟩:=frz HB.out))
   have s0:(w2.setCell ⟨w.heap.size,0,none⟩ (.int .i64 1)).cell? ⟨w.heap.size,0,none⟩=some (.int .i64 1):=(HB.out.set 0 _).cell 0
   have s1:((w2.setCell ⟨w.heap.size,0,none⟩ (.int .i64 1)).setCell ⟨w.heap.size,1,none⟩ (.string ⟨L.toArray⟩)).cell? ⟨w.heap.size,1,none⟩=some (.string ⟨L.toArray⟩):=((HB.out.set 0 _).set 1 _).cell 1
   have s2:(((w2.setCell ⟨w.heap.size,0,none⟩ (.int .i64 1)).setCell ⟨w.heap.size,1,none⟩ (.string ⟨L.toArray⟩)).setCell ⟨w.heap.size,2,none⟩ (.int .i64 0)).cell? ⟨w.heap.size,2,none⟩=some (.int .i64 0):=(((HB.out.set 0 _).set 1 _).set 2 _).cell 2
   exact bodyPost_ret (v:= .tuple #[.agg #[.int .i64 1,.string ⟨L.toArray⟩,.int .i64 0],.int .i64 (n),.int .i64 (0)]) (by simp[results,Tryz.results172,go_sem,s0,s1,s2]) rfl ⟨by rw[HE.out];rfl,((((((Ext.refl w).alloc _).trans hx1).trans hx2).setCell (Nat.le_refl _) _).setCell (Nat.le_refl _) _).setCell (Nat.le_refl _) _⟩
 ·have HE:Hid (wordL s.data.toList= .tok 2 ((s.data.toList.take n).map upC) n):=by unfold Hid;rw[HW.out,hkw,if_pos rfl]
  generalize (s.data.toList.take n).map upC=L at*
  go_enter Tryz.func172,Tryz.ntmps172
  go_wp2_with (first|(go_at_call 227;refine(HS.out _).mono ?_;rintro e w1 ⟨rfl,rfl⟩)|(go_at_call 229;refine(HK.out _ ((Ext.refl w).alloc _)).mono ?_;rintro e w1 ⟨rfl,hx1⟩;rw[hkw])|(go_at_call 230;refine(HU.out _).mono ?_;rintro e w2 ⟨rfl,hx2⟩;have HB:=hid ((HB0.out.ext hx1).ext hx2);have hc0:=HB.out.cell 0;have hc1:=HB.out.cell 1;have hc2:=HB.out.cell 2;obtain⟨hf0,hf1,hf2,-⟩:=frz HB.out))
  have s0:(w2.setCell ⟨w.heap.size,0,none⟩ (.int .i64 2)).cell? ⟨w.heap.size,0,none⟩=some (.int .i64 2):=(HB.out.set 0 _).cell 0
  have s1:((w2.setCell ⟨w.heap.size,0,none⟩ (.int .i64 2)).setCell ⟨w.heap.size,1,none⟩ (.string ⟨L.toArray⟩)).cell? ⟨w.heap.size,1,none⟩=some (.string ⟨L.toArray⟩):=((HB.out.set 0 _).set 1 _).cell 1
  have s2:(((w2.setCell ⟨w.heap.size,0,none⟩ (.int .i64 2)).setCell ⟨w.heap.size,1,none⟩ (.string ⟨L.toArray⟩)).setCell ⟨w.heap.size,2,none⟩ (.int .i64 0)).cell? ⟨w.heap.size,2,none⟩=some (.int .i64 0):=(((HB.out.set 0 _).set 1 _).set 2 _).cell 2
  exact bodyPost_ret (v:= .tuple #[.agg #[.int .i64 2,.string ⟨L.toArray⟩,.int .i64 0],.int .i64 (n),.int .i64 (0)]) (by simp[results,Tryz.results172,go_sem,s0,s1,s2]) rfl ⟨by rw[HE.out];rfl,((((((Ext.refl w).alloc _).trans hx1).trans hx2).setCell (Nat.le_refl _) _).setCell (Nat.le_refl _) _).setCell (Nat.le_refl _) _⟩
theorem dv_snoc (l:List UInt8) (c:UInt8):digVal (l++ [c])=10*digVal l+(c.toNat-48):=by
 unfold digVal
 rw[List.foldl_append]
 rfl
theorem dv_mono (a b:List UInt8):digVal a≤digVal (a++b):=by
 have:digVal (a++b)=digVal a*10^b.length+digVal b:=by
  rw[←dv_from]
  unfold digVal
  rw[List.foldl_append]
 rw[this]
 have h1:digVal a*1≤digVal a*10^b.length:=Nat.mul_le_mul_left _ (Nat.pow_pos (by decide))
 omega
theorem dv_take (l:List UInt8) (i j:Nat) (h:i≤j):digVal (l.take i)≤digVal (l.take j):=by
 have:l.take j=l.take i++(l.take j).drop i:=by
  conv=>lhs;rw[←List.take_append_drop i (l.take j)]
  rw[List.take_take,Nat.min_eq_left h]
 rw[this]
 exact dv_mono _ _
theorem headW_at (s:ByteArray) (n:Nat):headW (s.data.toList.drop n)=if h:n<s.size then inWord s[n]else false:=by
 split
 ·rename_i h
  rw[drop1 s n h];rfl
 ·rw[List.drop_of_length_le (by rw[lst_len];omega)];rfl
theorem number_any (s:ByteArray) (w:World) (hs:s.size≤20000) (h0:0<s.size):Calls Tryz.prog 174 #[.string s] w fun e w'=>e= .returned (TRes (numL s.data.toList))∧Ext w w':=by
 have hle:spanN isDigit s.data.toList≤s.size:=span_le isDigit s.data.toList
 have HS:=hid (fun W=>span_digit s W (by unfold maxLen;omega))
 have HDG:=hid (span_all isDigit s.data.toList)
 have HN:Hid (numL s.data.toList=if (1<spanN isDigit s.data.toList∧s.data.toList.head? =some 48)∨headW (s.data.toList.drop (spanN isDigit s.data.toList))=true then .bad 2
   else if 2147483648<digVal (s.data.toList.take (spanN isDigit s.data.toList))then .bad 3
   else .tok 3 (s.data.toList.take (spanN isDigit s.data.toList)) (spanN isDigit s.data.toList)):=rfl
 have HH:Hid (s.data.toList.head? =some s[0]):=by unfold Hid;rw[lst_cons s h0];rfl
 generalize spanN isDigit s.data.toList=n at*
 have HW:=hid (headW_at s n)
 have HB0:=hid (Blk.of_new w 70 [.int .i64 0,.string ⟨#[]⟩,.int .i64 0])
 have hc0:=HB0.out.cell 0
 have hc1:=HB0.out.cell 1
 have hc2:=HB0.out.cell 2
 obtain⟨hf0,hf1,hf2,-⟩:=frz HB0.out
 by_cases hz:1<n∧s[0].toNat=48
 ·have HE:Hid (numL s.data.toList= .bad 2):=by unfold Hid;rw[HN.out,if_pos (.inl ⟨hz.1,by rw[HH.out,num_ext s[0] 48 hz.2]⟩)]
  have b1:((s[0].toNat:Int)==48)=true:=by rw[hz.2];rfl
  obtain⟨hz1,_⟩:=hz
  go_enter Tryz.func174,Tryz.ntmps174
  go_wp2_with (go_at_call 227;refine(HS.out _).mono ?_;rintro e w1 ⟨rfl,rfl⟩)
  exact bodyPost_ret (v:= .tuple #[.agg #[.int .i64 0,.string ⟨#[]⟩,.int .i64 0],.int .i64 0,.int .i64 2]) (by simp[results,Tryz.results174,go_sem,hc0,hc1,hc2]) rfl ⟨by rw[HE.out];rfl,(Ext.refl w).alloc _⟩
 ·have HZ:Hid (¬(1<n∧s.data.toList.head? =some 48)):=by
   unfold Hid
   rw[HH.out]
   rintro⟨h1,h2⟩
   injection h2 with h2
   exact hz ⟨h1,by rw[h2];rfl⟩
  have hcase:n≤1∨(1<n∧((s[0].toNat:Int)==48)=false):=by
   rcases Nat.lt_or_ge 1 n with h|h
   ·right;exact⟨h,by rw[beq_eq_false_iff_ne];intro e;exact hz ⟨h,by omega⟩⟩
   ·left;omega
  clear hz
  by_cases hw:∃h:n<s.size,inWord s[n]=true
  ·obtain⟨hn,hw⟩:=hw
   have HE:Hid (numL s.data.toList= .bad 2):=by unfold Hid;rw[HN.out,if_pos (.inr (by rw[HW.out,dif_pos hn];exact hw))]
   have HI:=hid (fun W=>inword_any s[n] W)
   rw[hw]at HI
   rcases hcase with h1|⟨h1,b1⟩
   all_goals
    go_enter Tryz.func174,Tryz.ntmps174
    go_wp2_with (first|(go_at_call 227;refine(HS.out _).mono ?_;rintro e w1 ⟨rfl,rfl⟩)|(go_at_call 228;refine(HI.out _).mono ?_;rintro e w1 ⟨rfl,rfl⟩))
    exact bodyPost_ret (v:= .tuple #[.agg #[.int .i64 0,.string ⟨#[]⟩,.int .i64 0],.int .i64 0,.int .i64 2]) (by simp[results,Tryz.results174,go_sem,hc0,hc1,hc2]) rfl ⟨by rw[HE.out];rfl,(Ext.refl w).alloc _⟩
  ·have HF:Hid (headW (s.data.toList.drop n)=false):=by
    unfold Hid
    rw[HW.out]
    split
    ·rename_i h
     cases hx:inWord s[n]
     ·rfl
     ·exact absurd ⟨h,hx⟩ hw
    ·rfl
   have HE:Hid (numL s.data.toList=if 2147483648<digVal (s.data.toList.take n)then .bad 3 else .tok 3 (s.data.toList.take n) n):=by
    unfold Hid
    rw[HN.out,if_neg]
    rintro(h|h)
    ·exact HZ.out h
    ·rw[HF.out]at h;cases h
   have hcase2:(∃h:n<s.size,∀W,Calls Tryz.prog 228 #[.int .u8 s[n].toNat] W fun e w'=>e= .returned (.bool false)∧w'=W)∨¬n<s.size:=by
    rcases Nat.lt_or_ge n s.size with h|h
    ·left
     refine⟨h,fun W=>?_⟩
     have:=inword_any s[n] W
     cases hx:inWord s[n]
     ·rw[hx]at this;exact this
     ·exact absurd ⟨h,hx⟩ hw
    ·right;omega
   clear hw
   have hpl:(s.extract 0 n).size=n:=by rw[ByteArray.size_extract];omega
   have HPL:=hid hpl
   obtain⟨cap,w2,rest,hcv,hx2,hz2,hb2⟩:=conv_blk (P:=Tryz.prog) (w.alloc (.cells #[.int .i64 0,.string ⟨#[]⟩,.int .i64 0] 70)) 9 60 5 (s.extract 0 n) Tryz.underlying9 Tryz.underlying60 Tryz.underlying5
   rw[hpl]at hcv
   rw[front_list]at hb2
   have HB:=hid (HB0.out.ext hx2)
   have HX:=hid (((Ext.refl w).alloc (.cells #[.int .i64 0,.string ⟨#[]⟩,.int .i64 0] 70)).trans hx2)
   have HBM:=hid hb2
   simp only[World.size_alloc]at hcv
   have HSZ:Hid ((w.alloc (.cells #[.int .i64 0,.string ⟨#[]⟩,.int .i64 0] 70)).heap.size=w.heap.size+1):=by unfold Hid;rw[World.size_alloc]
   clear hb2 hz2 hx2 hpl hc0 hc1 hc2 hf0 hf1 hf2
   rcases hcase with h1|⟨h1,b1⟩
   all_goals
    rcases hcase2 with ⟨hn,hI⟩|hn
    all_goals
     go_enter Tryz.func174,Tryz.ntmps174
     go_wp2_with (first|(go_at_call 227;refine(HS.out _).mono ?_;rintro e w1 ⟨rfl,rfl⟩)|(go_at_call 228;refine(hI _).mono ?_;rintro e w1 ⟨rfl,rfl⟩))
     have hc0:=HB.out.cell 0
     have hc1:=HB.out.cell 1
     have hc2:=HB.out.cell 2
     obtain⟨hf0,hf1,hf2,-⟩:=frz HB.out
     clear hcv
     go_loop [6,36] (fun v i=> ∃(k V:Nat),k≤n∧i= .int .i64 k∧v= .int .i64 V∧V=digVal (s.data.toList.take k)∧V≤2147483648) (fun _ i=>n- (intOf i).toNat)
     case atStart=>exact⟨0,0,Nat.zero_le _,rfl,rfl,rfl,Nat.zero_le _⟩
     case round=>
      obtain⟨k,V,hk,rfl,rfl,hv,hV⟩:=hrel
      have HV:=hid hv
      clear hv
      by_cases hlt:k<n
      ·have hlt2:k<s.size:=by omega
       have hlt3:k<(s.data.toList.take n).length:=by rw[List.length_take,lst_len];omega
       have hck:=HBM.out.cell (b8_get' _ rest k hlt3)
       rw[List.getElem_take]at hck
       have hge:(s.data.toList[k]'hlt2)=s[k]:=rfl
       rw[hge,HSZ.out]at hck
       have hdg:isDigit s[k]=true:=HDG.out s[k] (by
        have:=List.getElem_mem hlt3
        rw[List.getElem_take]at this
        exact this)
       have hd:48≤s[k].toNat∧s[k].toNat≤57:=by unfold isDigit at hdg;grind
       obtain⟨hd1,hd2⟩:=hd
       clear hdg hge hlt3
       have HT:Hid (digVal (s.data.toList.take (k+1))=10*V+(s[k].toNat-48)):=by
        unfold Hid
        rw[take1 s k hlt2,dv_snoc,←HV.out]
       by_cases hbig:2147483648<10*V+(s[k].toNat-48)
       ·have HR:Hid (numL s.data.toList= .bad 3):=by
         unfold Hid
         rw[HE.out,if_pos]
         have:=dv_take s.data.toList (k+1) n (by omega)
         rw[HT.out]at this
         omega
        go_wp2_with fail
        have s0:(w2.setCell ⟨w.heap.size,0,none⟩ (.int .i64 0)).cell? ⟨w.heap.size,0,none⟩=some (.int .i64 0):=(HB.out.set 0 _).cell 0
        have s1:((w2.setCell ⟨w.heap.size,0,none⟩ (.int .i64 0)).setCell ⟨w.heap.size,1,none⟩ (.string ⟨#[]⟩)).cell? ⟨w.heap.size,1,none⟩=some (.string ⟨#[]⟩):=((HB.out.set 0 _).set 1 _).cell 1
        have s2:(((w2.setCell ⟨w.heap.size,0,none⟩ (.int .i64 0)).setCell ⟨w.heap.size,1,none⟩ (.string ⟨#[]⟩)).setCell ⟨w.heap.size,2,none⟩ (.int .i64 0)).cell? ⟨w.heap.size,2,none⟩=some (.int .i64 0):=(((HB.out.set 0 _).set 1 _).set 2 _).cell 2
        exact bodyPost_ret (v:= .tuple #[.agg #[.int .i64 0,.string ⟨#[]⟩,.int .i64 0],.int .i64 (0),.int .i64 (3)]) (by simp[results,Tryz.results174,go_sem,s0,s1,s2]) rfl ⟨by rw[HR.out];rfl,((HX.out.setCell (Nat.le_refl _) _).setCell (Nat.le_refl _) _).setCell (Nat.le_refl _) _⟩
       ·go_wp2_with fail
        go_round
        case rel=>exact⟨k+1,10*V+(s[k].toNat-48),by omega,by go_num,by go_num,HT.out.symm,by omega⟩
        case measure=>simp[intOf];omega
      ·obtain rfl:k=n:=by omega
       have HR:Hid (numL s.data.toList= .tok 3 (s.data.toList.take k) k):=by
        unfold Hid
        rw[HE.out,if_neg]
        rw[←HV.out]
        omega
       have HXT:Hid (s.extract 0 k=⟨(s.data.toList.take k).toArray⟩):=by_list (by rw[front_list])
       go_wp2_with fail
       have s0:(w2.setCell ⟨w.heap.size,0,none⟩ (.int .i64 3)).cell? ⟨w.heap.size,0,none⟩=some (.int .i64 3):=(HB.out.set 0 _).cell 0
       have s1:((w2.setCell ⟨w.heap.size,0,none⟩ (.int .i64 3)).setCell ⟨w.heap.size,1,none⟩ (.string (s.extract 0 k))).cell? ⟨w.heap.size,1,none⟩=some (.string (s.extract 0 k)):=((HB.out.set 0 _).set 1 _).cell 1
       have s2:(((w2.setCell ⟨w.heap.size,0,none⟩ (.int .i64 3)).setCell ⟨w.heap.size,1,none⟩ (.string (s.extract 0 k))).setCell ⟨w.heap.size,2,none⟩ (.int .i64 0)).cell? ⟨w.heap.size,2,none⟩=some (.int .i64 0):=(((HB.out.set 0 _).set 1 _).set 2 _).cell 2
       exact bodyPost_ret (v:= .tuple #[.agg #[.int .i64 3,.string (s.extract 0 k),.int .i64 0],.int .i64 (k),.int .i64 (0)]) (by simp[results,Tryz.results174,go_sem,s0,s1,s2]) rfl ⟨by rw[HR.out,HXT.out];rfl,((HX.out.setCell (Nat.le_refl _) _).setCell (Nat.le_refl _) _).setCell (Nat.le_refl _) _⟩
end Lx
namespace Lx
theorem two_list (s:ByteArray) (a:Nat) (h:a+1<s.size):(s.extract a (a+2)).toList= [s[a],s[a+1]]:=by
 rw[ByteArray.toList_eq,Lib.extract_data,drop1 s a (by omega),drop1 s (a+1) h,show a+2-a=2 by omega]
 rfl
def two (c d:UInt8):Prop:=(c=60∧d=62)∨(c=60∧d=61)∨(c=62∧d=61)
theorem sym_two (c d:UInt8) (r:List UInt8) (h:two c d):symN (c::d::r)=2:=by rw[symN];exact if_pos h
theorem sym_one (c:UInt8) (r:List UInt8) (h:∀d q,r=d::q→¬two c d):symN (c::r)=if c∈syms then 1 else 0:=by
 cases r with
 |nil=>rw[symN]
 |cons d q=>rw[symN];exact if_neg (h d q rfl)
def symB:ByteArray:=⟨#[40,41,44,59,46,42,43,45,47,37,61,60,62]⟩
theorem symB_at (k:Nat) (h:k<13):symB[k]'h∈syms:=List.getElem_mem (show k<syms.length from h)
theorem syms_idx (c:UInt8) (h:∀k (hk:k<13),symB[k]'hk≠c):c∉syms:=by
 intro hm
 obtain⟨k,hk,e⟩:=List.getElem_of_mem hm
 exact h k hk e
theorem symbol_any (s:ByteArray) (a:Nat) (w:World) (hs:s.size≤20000) (ha:a<s.size):Calls Tryz.prog 168 #[.string s,.int .i64 a] w fun e w'=>e= .returned (.int .i64 ((symN (s.data.toList.drop a):Nat):Int))∧Ext w w':=by
 have HD:=hid (drop1 s a ha)
 by_cases h1:a+1<s.size
 ·have HD2:=hid (drop1 s (a+1) h1)
  have HT:=hid (two_list s a h1)
  by_cases h2:two s[a] s[a+1]
  ·have HR:Hid (symN (s.data.toList.drop a)=2):=by unfold Hid;rw[HD.out,HD2.out];exact sym_two _ _ _ h2
   rcases h2 with ⟨e1,e2⟩|⟨e1,e2⟩|⟨e1,e2⟩
   ·have t1:((s.extract a (a+2)).toList== [60,62])=true:=by rw[HT.out,e1,e2];rfl
    clear e1 e2
    go_enter Tryz.func168,Tryz.ntmps168
    go_wp2_with fail
    go_ret
    exact⟨ret_int (by rw[HR.out];rfl),Ext.refl _⟩
   ·have t1:((s.extract a (a+2)).toList== [60,62])=false:=by rw[HT.out,e1,e2];rfl
    have t2:((s.extract a (a+2)).toList== [60,61])=true:=by rw[HT.out,e1,e2];rfl
    clear e1 e2
    go_enter Tryz.func168,Tryz.ntmps168
    go_wp2_with fail
    go_ret
    exact⟨ret_int (by rw[HR.out];rfl),Ext.refl _⟩
   ·have t1:((s.extract a (a+2)).toList== [60,62])=false:=by rw[HT.out,e1,e2];rfl
    have t2:((s.extract a (a+2)).toList== [60,61])=false:=by rw[HT.out,e1,e2];rfl
    have t3:((s.extract a (a+2)).toList== [62,61])=true:=by rw[HT.out,e1,e2];rfl
    clear e1 e2
    go_enter Tryz.func168,Tryz.ntmps168
    go_wp2_with fail
    go_ret
    exact⟨ret_int (by rw[HR.out];rfl),Ext.refl _⟩
  ·have HS1:Hid (symN (s.data.toList.drop a)=if s[a]∈syms then 1 else 0):=by
    unfold Hid
    rw[HD.out]
    refine sym_one _ _ fun d q e=>?_
    rw[HD2.out]at e
    injection e with e _
    rw[←e]
    exact h2
   have t1:((s.extract a (a+2)).toList== [60,62])=false:=by
    rw[HT.out,beq_eq_false_iff_ne];intro h;injection h with h h';injection h' with h' _;exact h2 (.inl ⟨h,h'⟩)
   have t2:((s.extract a (a+2)).toList== [60,61])=false:=by
    rw[HT.out,beq_eq_false_iff_ne];intro h;injection h with h h';injection h' with h' _;exact h2 (.inr (.inl ⟨h,h'⟩))
   have t3:((s.extract a (a+2)).toList== [62,61])=false:=by
    rw[HT.out,beq_eq_false_iff_ne];intro h;injection h with h h';injection h' with h' _;exact h2 (.inr (.inr ⟨h,h'⟩))
   clear h2
   go_enter Tryz.func168,Tryz.ntmps168
   go_wp2_with fail
   go_loopw [7] (fun i wr=> ∃k:Nat,k≤13∧i= .int .i64 k∧(∀j (hj:j<13),j<k→symB[j]'hj≠s[a])∧Ext w wr) (fun i _=>13- (intOf i).toNat)
   case atStart=>exact⟨0,Nat.zero_le _,rfl,fun j _ hj=>absurd hj (Nat.not_lt_zero _),Ext.refl _⟩
   case round=>
    obtain⟨k,hk,rfl,hno,hxr⟩:=hrel
    have HNO:=hid hno
    clear hno
    by_cases hlt:k<13
    ·go_wp2_with fail
     go_region
     go_wp2_with fail
     ·rename_i hbt
      have e:symB[k]'hlt=s[a]:=num_ext _ _ (by have:=eq_of_beq hbt;exact Int.ofNat.inj this)
      go_ret
      exact⟨ret_int (by rw[HS1.out,if_pos (by rw[←e];exact symB_at k hlt)];rfl),hxr.drew⟩
     ·rename_i hbt
      have e:symB[k]'hlt≠s[a]:=fun e=>by
       have h2:((((symB[k]'hlt).toNat:Nat):Int)==(s[a].toNat:Int))=false:=hbt
       rw[e]at h2
       simp at h2
      go_roundw
      case rel=>
       refine⟨k+1,by omega,by go_num,fun j hj hjk=>?_,hxr.drew⟩
       rcases Nat.lt_or_ge j k with h|h
       ·exact HNO.out j hj h
       ·obtain rfl:j=k:=by omega
        exact e
      case measure=>simp[intOf];omega
    ·go_wp2_with fail
     go_ret
     obtain rfl:k=13:=by omega
     exact⟨ret_int (by rw[HS1.out,if_neg (syms_idx _ fun j hj=>HNO.out j hj hj)];rfl),hxr⟩
 ·have HS1:Hid (symN (s.data.toList.drop a)=if s[a]∈syms then 1 else 0):=by
   unfold Hid
   rw[HD.out]
   refine sym_one _ _ fun d q e=>?_
   rw[List.drop_of_length_le (by rw[lst_len];omega)]at e
   cases e
  go_enter Tryz.func168,Tryz.ntmps168
  go_wp2_with fail
  go_loopw [7] (fun i wr=> ∃k:Nat,k≤13∧i= .int .i64 k∧(∀j (hj:j<13),j<k→symB[j]'hj≠s[a])∧Ext w wr) (fun i _=>13- (intOf i).toNat)
  case atStart=>exact⟨0,Nat.zero_le _,rfl,fun j _ hj=>absurd hj (Nat.not_lt_zero _),Ext.refl _⟩
  case round=>
   obtain⟨k,hk,rfl,hno,hxr⟩:=hrel
   have HNO:=hid hno
   clear hno
   by_cases hlt:k<13
   ·go_wp2_with fail
    go_region
    go_wp2_with fail
    ·rename_i hbt
     have e:symB[k]'hlt=s[a]:=num_ext _ _ (by have:=eq_of_beq hbt;exact Int.ofNat.inj this)
     go_ret
     exact⟨ret_int (by rw[HS1.out,if_pos (by rw[←e];exact symB_at k hlt)];rfl),hxr.drew⟩
    ·rename_i hbt
     have e:symB[k]'hlt≠s[a]:=fun e=>by
      have h2:((((symB[k]'hlt).toNat:Nat):Int)==(s[a].toNat:Int))=false:=hbt
      rw[e]at h2
      simp at h2
     go_roundw
     case rel=>
      refine⟨k+1,by omega,by go_num,fun j hj hjk=>?_,hxr.drew⟩
      rcases Nat.lt_or_ge j k with h|h
      ·exact HNO.out j hj h
      ·obtain rfl:j=k:=by omega
       exact e
     case measure=>simp[intOf];omega
   ·go_wp2_with fail
    go_ret
    obtain rfl:k=13:=by omega
    exact⟨ret_int (by rw[HS1.out,if_neg (syms_idx _ fun j hj=>HNO.out j hj hj)];rfl),hxr⟩
end Lx
end Go.Proofs.YtjigcpfjhfoheaaGreatDoor
