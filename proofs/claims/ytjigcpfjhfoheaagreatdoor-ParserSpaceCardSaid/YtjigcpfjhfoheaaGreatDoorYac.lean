/- Walks over the lexer: text; Walks over the lexer: names, the program's and the reference's; Walks over the lexer: literals, written and read, the program's and the reference's; Walks over the lexer: white space and comments, the p. -/
import Derived.Test.YtjigcpfjhfoheaaGreatDoorYab
import Derived.Test.YtjigcpfjhfoheaaGreatDoorShelf
import Derived.Test.YtjigcpfjhfoheaaGreatDoorYaa
import Derived.RegionTactic
namespace Go.Proofs.YtjigcpfjhfoheaaGreatDoor
open Go.RowKit
set_option maxHeartbeats 4000000
set_option maxRecDepth 100000
set_option linter.unusedVariables false
set_option linter.unusedSimpArgs false
namespace Lx
def TRes:TR→Value
 | .bad e=> .tuple #[.agg #[.int .i64 0,.string ⟨#[]⟩,.int .i64 0],.int .i64 0,.int .i64 e]
 | .tok k x n=> .tuple #[.agg #[.int .i64 k,.string ⟨x.toArray⟩,.int .i64 0],.int .i64 n,.int .i64 0]
def ii:Option (List UInt8×Nat)→TR
 |none=> .bad 2
 |some (X,i)=>if 16<X.length then .bad 3 else .tok 4 X i
theorem u8s_b8 (l:List UInt8):u8s (l.map UInt8.toNat)=b8 l:=by unfold u8s b8;rw[List.map_map];rfl
theorem S_list (l:List UInt8):S (l.map UInt8.toNat)=⟨l.toArray⟩:=by
 unfold S
 rw[List.map_map]
 congr 1
 simp[Function.comp_def]
theorem conv_own8 {P:Program} {w:World} (a b e B n:Nat) (v:Value) (l:List UInt8) (hs:P.underlying a=some (.slice e)) (g:P.underlying e=some (.int .u8)) (hd:P.underlying b=some .string)
  (f:w.ownsRow B e 1 v n (b8 l)):(convert a b v).run P w= .ok (.string ⟨l.toArray⟩) w:=by
 rw[←u8s_b8]at f
 rw[conv_own a b e B n v (l.map UInt8.toNat) hs g hd f,S_list]
theorem own_shape {w:World} {B e n:Nat} {v:Value} {a:List Value} (h:w.ownsRow B e 1 v n a):∃A c,v= .slice A n c:=by
 rcases h.2 with ⟨rfl,h0⟩|⟨g,cap,cur,rfl,_⟩
 ·exact⟨none,0,by rw[h0]⟩
 ·exact⟨some ⟨g,0,none⟩,cap,rfl⟩
theorem info5:(Tryz.prog.info? 5).map (fun i=> (i.zero,i.size,i.bytes))=some (some (.int .u8 0),1,1):=by kernel_rfl
theorem info_parts {t:TypeId} {z:Value} {n b:Nat} (h:(Tryz.prog.info? t).map (fun i=> (i.zero,i.size,i.bytes))=some (some z,n,b)):∃i,Tryz.prog.info? t=some i∧i.zero=some z∧i.size=n∧i.bytes=b:=by
 cases hi:Tryz.prog.info? t with
 |none=>rw[hi]at h;cases h
 |some i=>
  rw[hi]at h
  simp only[Option.map_some,Option.some.injEq,Prod.mk.injEq]at h
  exact⟨i,rfl,h.1,h.2.1,h.2.2⟩
theorem b8_snoc (l:List UInt8) (c:UInt8):b8 (l++ [c])=b8 l++ [.int .u8 (c.toNat:Int)]:=by unfold b8;rw[List.map_append];rfl
theorem text_any (s:ByteArray) (w:World) (hs:s.size≤20000) (h0:0<s.size):Calls Tryz.prog 175 #[.string s] w fun e w'=>e= .returned (TRes (textL (s.data.toList.drop 1)))∧Ext w w':=by
 obtain⟨U,hi,H,K,G⟩:=info_parts info5
 have HL:Hid (TRes (textL (s.data.toList.drop 1))=TRes (ii (litF (s.data.toList.drop 1) [] 1))):=rfl
 generalize TRes (textL (s.data.toList.drop 1))=V at*
 have L:=hid (Blk.of_new w 70 [.int .i64 0,.string ⟨#[]⟩,.int .i64 0])
 go_enter Tryz.func175,Tryz.ntmps175
 go_wp2_with fail
 go_loopw [5,6] (fun v i wr=> ∃(k:Nat) (X:List UInt8),i= .int .i64 k∧1≤k∧k≤s.size∧X.length≤k∧Ext w wr∧Blk wr w.heap.size 70 [.int .i64 0,.string ⟨#[]⟩,.int .i64 0]∧wr.ownsRow (w.heap.size+1) 5 1 v X.length (b8 X)∧V=TRes (ii (litF (s.data.toList.drop k) X k))) (fun _ i _=>s.size- (intOf i).toNat)
 case atStart=>exact⟨1,[],rfl,Nat.le_refl _,h0,Nat.zero_le _,(Ext.refl w).alloc _,L,World.ownsRow_nil _ _ _ _,HL⟩
 case round=>
  obtain⟨k,X,rfl,ad,a0,a2,f,y,a,hv⟩:=hrel
  obtain⟨A,c,rfl⟩:=own_shape a
  have x:=hid hv
  have b:=hid y
  clear hv
  have ax:=y.cell 0
  have a1:=y.cell 1
  have a3:=y.cell 2
  obtain⟨an,ac,ag,-⟩:=frz y
  clear y
  have p:=conv_own8 (P:=Tryz.prog) 60 9 5 (w.heap.size+1) X.length _ X Tryz.underlying60 Tryz.underlying5 Tryz.underlying9 a
  by_cases R:k<s.size
  ·have E:=hid (drop1 s k R)
   by_cases Y:32≤s[k].toNat∧s[k].toNat≤126
   ·have Q:Hid (isPrint s[k]=true):=by unfold Hid isPrint;simpa using Y
    have q:Hid (¬isPrint s[k]=false):=by unfold Hid;rw[Q.out];decide
    obtain⟨Z,W⟩:=Y
    by_cases F:s[k].toNat=39
    ·have b1:((s[k].toNat:Int)==39)=true:=by rw[F];rfl
     have I:=hid F
     clear F
     by_cases hl:k+1<s.size
     ·have B:=hid (drop1 s (k+1) hl)
      have b0:((k:Int)+1==(s.size:Int))=false:=by rw[beq_eq_false_iff_ne];omega
      by_cases j:s[k+1].toNat=39
      ·have b2:((s[k+1].toNat:Int)==39)=true:=by rw[j];rfl
       have b3:((s[k+1].toNat:Int) !=39)=false:=by rw[j];rfl
       have r:=hid j
       clear j p
       go_wp2_with (at_builtin;refine iZ _ rfl _ _ 60 rfl (w.heap.size+1) 5 U (.int .u8 0) 1 Tryz.underlying60 hi H K G rfl _ _ _ rfl (own_ext a ((Ext.refl _).alloc _)) ⟨wr.heap.size,0,none⟩ 1 1 [Value.int .u8 (s[k+1].toNat:Int)] rfl rfl (fV _ _ _) (by intro u D;simp at D;subst D;rfl) (by unfold maxLen;omega) (by omega) (by have:=b.lt;simp;omega) ?_;intro v' w2 h l J t _)
       go_roundw
       case rel=>
        refine⟨k+1+1,X++ [s[k+1]],by go_num,by omega,by omega,by rw[List.length_append];simp only[List.length_cons,List.length_nil];omega,Ext.grown (f.alloc _) l (fun g O=>Nat.le_of_succ_le (gG a O)),(b.ext ((Ext.refl _).alloc _)).grown l (fun e=>by have:=gG a e.symm;omega),by rw[b8_snoc,List.length_append];exact h,?_⟩
        rw[x.out,E.out,lit_cons,if_neg q.out,if_pos I.out,B.out]
        simp only
        rw[if_pos r.out]
       case measure=>simp[intOf];omega
      ·have b2:((s[k+1].toNat:Int)==39)=false:=by rw[beq_eq_false_iff_ne];omega
       have b3:((s[k+1].toNat:Int) !=39)=true:=by rw[bne_iff_ne];omega
       have r:Hid (¬s[k+1].toNat=39):=j
       clear j
       have C:Hid (V=TRes (ii (some (X,k+1)))):=by
        unfold Hid
        rw[x.out,E.out,lit_cons,if_neg q.out,if_pos I.out,B.out]
        simp only
        rw[if_neg r.out]
       by_cases z:16<X.length
       ·go_wp2_with fail
        have m:(wr.setCell ⟨w.heap.size,0,none⟩ (.int .i64 0)).cell? ⟨w.heap.size,0,none⟩=some (.int .i64 0):=(b.set 0 _).cell 0
        have o:((wr.setCell ⟨w.heap.size,0,none⟩ (.int .i64 0)).setCell ⟨w.heap.size,1,none⟩ (.string ⟨#[]⟩)).cell? ⟨w.heap.size,1,none⟩=some (.string ⟨#[]⟩):=((b.set 0 _).set 1 _).cell 1
        have n:(((wr.setCell ⟨w.heap.size,0,none⟩ (.int .i64 0)).setCell ⟨w.heap.size,1,none⟩ (.string ⟨#[]⟩)).setCell ⟨w.heap.size,2,none⟩ (.int .i64 0)).cell? ⟨w.heap.size,2,none⟩=some (.int .i64 0):=(((b.set 0 _).set 1 _).set 2 _).cell 2
        exact bodyPost_ret (v:= .tuple #[.agg #[.int .i64 0,.string ⟨#[]⟩,.int .i64 0],.int .i64 (0),.int .i64 (3)]) (by simp[results,Tryz.results175,go_sem,m,o,n]) rfl ⟨by rw[C.out];unfold ii;simp only;rw[if_pos z];rfl,((f.setCell (Nat.le_refl _) _).setCell (Nat.le_refl _) _).setCell (Nat.le_refl _) _⟩
       ·go_wp2_with fail
        have m:(wr.setCell ⟨w.heap.size,0,none⟩ (.int .i64 4)).cell? ⟨w.heap.size,0,none⟩=some (.int .i64 4):=(b.set 0 _).cell 0
        have o:((wr.setCell ⟨w.heap.size,0,none⟩ (.int .i64 4)).setCell ⟨w.heap.size,1,none⟩ (.string ⟨X.toArray⟩)).cell? ⟨w.heap.size,1,none⟩=some (.string ⟨X.toArray⟩):=((b.set 0 _).set 1 _).cell 1
        have n:(((wr.setCell ⟨w.heap.size,0,none⟩ (.int .i64 4)).setCell ⟨w.heap.size,1,none⟩ (.string ⟨X.toArray⟩)).setCell ⟨w.heap.size,2,none⟩ (.int .i64 0)).cell? ⟨w.heap.size,2,none⟩=some (.int .i64 0):=(((b.set 0 _).set 1 _).set 2 _).cell 2
        exact bodyPost_ret (v:= .tuple #[.agg #[.int .i64 4,.string ⟨X.toArray⟩,.int .i64 0],.int .i64 ((k:Int)+1),.int .i64 (0)]) (by simp[results,Tryz.results175,go_sem,m,o,n]) rfl ⟨by rw[C.out];unfold ii;simp only;rw[if_neg z];rfl,((f.setCell (Nat.le_refl _) _).setCell (Nat.le_refl _) _).setCell (Nat.le_refl _) _⟩
     ·have b0:((k:Int)+1==(s.size:Int))=true:=by rw[beq_iff_eq];omega
      have C:Hid (V=TRes (ii (some (X,k+1)))):=by
       unfold Hid
       rw[x.out,E.out,lit_cons,if_neg q.out,if_pos I.out]
       rw[List.drop_of_length_le (show s.data.toList.length≤k+1 by show s.size≤_;omega)]
      by_cases z:16<X.length
      ·go_wp2_with fail
       have m:(wr.setCell ⟨w.heap.size,0,none⟩ (.int .i64 0)).cell? ⟨w.heap.size,0,none⟩=some (.int .i64 0):=(b.set 0 _).cell 0
       have o:((wr.setCell ⟨w.heap.size,0,none⟩ (.int .i64 0)).setCell ⟨w.heap.size,1,none⟩ (.string ⟨#[]⟩)).cell? ⟨w.heap.size,1,none⟩=some (.string ⟨#[]⟩):=((b.set 0 _).set 1 _).cell 1
       have n:(((wr.setCell ⟨w.heap.size,0,none⟩ (.int .i64 0)).setCell ⟨w.heap.size,1,none⟩ (.string ⟨#[]⟩)).setCell ⟨w.heap.size,2,none⟩ (.int .i64 0)).cell? ⟨w.heap.size,2,none⟩=some (.int .i64 0):=(((b.set 0 _).set 1 _).set 2 _).cell 2
       exact bodyPost_ret (v:= .tuple #[.agg #[.int .i64 0,.string ⟨#[]⟩,.int .i64 0],.int .i64 (0),.int .i64 (3)]) (by simp[results,Tryz.results175,go_sem,m,o,n]) rfl ⟨by rw[C.out];unfold ii;simp only;rw[if_pos z];rfl,((f.setCell (Nat.le_refl _) _).setCell (Nat.le_refl _) _).setCell (Nat.le_refl _) _⟩
      ·go_wp2_with fail
       have m:(wr.setCell ⟨w.heap.size,0,none⟩ (.int .i64 4)).cell? ⟨w.heap.size,0,none⟩=some (.int .i64 4):=(b.set 0 _).cell 0
       have o:((wr.setCell ⟨w.heap.size,0,none⟩ (.int .i64 4)).setCell ⟨w.heap.size,1,none⟩ (.string ⟨X.toArray⟩)).cell? ⟨w.heap.size,1,none⟩=some (.string ⟨X.toArray⟩):=((b.set 0 _).set 1 _).cell 1
       have n:(((wr.setCell ⟨w.heap.size,0,none⟩ (.int .i64 4)).setCell ⟨w.heap.size,1,none⟩ (.string ⟨X.toArray⟩)).setCell ⟨w.heap.size,2,none⟩ (.int .i64 0)).cell? ⟨w.heap.size,2,none⟩=some (.int .i64 0):=(((b.set 0 _).set 1 _).set 2 _).cell 2
       exact bodyPost_ret (v:= .tuple #[.agg #[.int .i64 4,.string ⟨X.toArray⟩,.int .i64 0],.int .i64 ((k:Int)+1),.int .i64 (0)]) (by simp[results,Tryz.results175,go_sem,m,o,n]) rfl ⟨by rw[C.out];unfold ii;simp only;rw[if_neg z];rfl,((f.setCell (Nat.le_refl _) _).setCell (Nat.le_refl _) _).setCell (Nat.le_refl _) _⟩
    ·have b1:((s[k].toNat:Int)==39)=false:=by rw[beq_eq_false_iff_ne];omega
     have I:Hid (¬s[k].toNat=39):=F
     clear F p
     go_wp2_with (at_builtin;refine iZ _ rfl _ _ 60 rfl (w.heap.size+1) 5 U (.int .u8 0) 1 Tryz.underlying60 hi H K G rfl _ _ _ rfl (own_ext a ((Ext.refl _).alloc _)) ⟨wr.heap.size,0,none⟩ 1 1 [Value.int .u8 (s[k].toNat:Int)] rfl rfl (fV _ _ _) (by intro u D;simp at D;subst D;rfl) (by unfold maxLen;omega) (by omega) (by have:=b.lt;simp;omega) ?_;intro v' w2 h l J t _)
     go_roundw
     case rel=>
      refine⟨k+1,X++ [s[k]],by go_num,by omega,by omega,by rw[List.length_append];simp only[List.length_cons,List.length_nil];omega,Ext.grown (f.alloc _) l (fun g O=>Nat.le_of_succ_le (gG a O)),(b.ext ((Ext.refl _).alloc _)).grown l (fun e=>by have:=gG a e.symm;omega),by rw[b8_snoc,List.length_append];exact h,?_⟩
      rw[x.out,E.out,lit_cons,if_neg q.out,if_neg I.out]
     case measure=>simp[intOf];omega
   ·have Q:Hid (isPrint s[k]=false):=by
     unfold Hid isPrint
     rw[Bool.and_eq_false_iff]
     simp only[decide_eq_false_iff_not]
     omega
    clear p
    go_wp2_with fail
    all_goals
     have m:(wr.setCell ⟨w.heap.size,0,none⟩ (.int .i64 0)).cell? ⟨w.heap.size,0,none⟩=some (.int .i64 0):=(b.set 0 _).cell 0
     have o:((wr.setCell ⟨w.heap.size,0,none⟩ (.int .i64 0)).setCell ⟨w.heap.size,1,none⟩ (.string ⟨#[]⟩)).cell? ⟨w.heap.size,1,none⟩=some (.string ⟨#[]⟩):=((b.set 0 _).set 1 _).cell 1
     have n:(((wr.setCell ⟨w.heap.size,0,none⟩ (.int .i64 0)).setCell ⟨w.heap.size,1,none⟩ (.string ⟨#[]⟩)).setCell ⟨w.heap.size,2,none⟩ (.int .i64 0)).cell? ⟨w.heap.size,2,none⟩=some (.int .i64 0):=(((b.set 0 _).set 1 _).set 2 _).cell 2
     exact bodyPost_ret (v:= .tuple #[.agg #[.int .i64 0,.string ⟨#[]⟩,.int .i64 0],.int .i64 (0),.int .i64 (2)]) (by simp[results,Tryz.results175,go_sem,m,o,n]) rfl ⟨by rw[x.out,E.out,lit_cons,if_pos Q.out];rfl,((f.setCell (Nat.le_refl _) _).setCell (Nat.le_refl _) _).setCell (Nat.le_refl _) _⟩
  ·clear p
   go_wp2_with fail
   have m:(wr.setCell ⟨w.heap.size,0,none⟩ (.int .i64 0)).cell? ⟨w.heap.size,0,none⟩=some (.int .i64 0):=(b.set 0 _).cell 0
   have o:((wr.setCell ⟨w.heap.size,0,none⟩ (.int .i64 0)).setCell ⟨w.heap.size,1,none⟩ (.string ⟨#[]⟩)).cell? ⟨w.heap.size,1,none⟩=some (.string ⟨#[]⟩):=((b.set 0 _).set 1 _).cell 1
   have n:(((wr.setCell ⟨w.heap.size,0,none⟩ (.int .i64 0)).setCell ⟨w.heap.size,1,none⟩ (.string ⟨#[]⟩)).setCell ⟨w.heap.size,2,none⟩ (.int .i64 0)).cell? ⟨w.heap.size,2,none⟩=some (.int .i64 0):=(((b.set 0 _).set 1 _).set 2 _).cell 2
   exact bodyPost_ret (v:= .tuple #[.agg #[.int .i64 0,.string ⟨#[]⟩,.int .i64 0],.int .i64 (0),.int .i64 (2)]) (by simp[results,Tryz.results175,go_sem,m,o,n]) rfl ⟨by rw[x.out,List.drop_of_length_le (show s.data.toList.length≤k by show s.size≤_;omega),litF];rfl,((f.setCell (Nat.le_refl _) _).setCell (Nat.le_refl _) _).setCell (Nat.le_refl _) _⟩
end Lx
namespace Lx
theorem name_long (l:List UInt8) (h:24<l.length):nameP l=false:=by
 cases l with
 |nil=>rfl
 |cons c r=>unfold nameP;simp only;rw[decide_eq_false (by omega)];rfl
theorem dH (s:ByteArray) (h:0<s.size):s.data.toList=s[0]::s.data.toList.drop 1:=by
 have:=drop1 s 0 h
 rw[List.drop_zero]at this
 exact this
theorem lst_len (s:ByteArray):s.data.toList.length=s.size:=rfl
end Lx
namespace Lx
def Sh (w:World):Prop:=∃m:Int,w.cell? ⟨1,0,none⟩=some (.int .i64 m)
theorem Sh.ext {w w':World} (h:Sh w) (a:Ext w w'):Sh w':=by
 obtain⟨m,h⟩:=h
 exact⟨m,a.keep h⟩
theorem countB_le (t:ByteArray):Lib.countB t ⟨#[39]⟩≤t.size+1:=Lib.count_le t.data.toList [39]
theorem flat_len:∀l:List UInt8,(flat l).length≤2*l.length
 | []=>Nat.le_refl _
 |c::r=>by
  have:=flat_len r
  rw[flat]
  split<;>simp only[List.length_cons] <;>omega
theorem by_list {a b:ByteArray} (h:a.data.toList=b.data.toList):a=b:=by
 obtain⟨⟨a⟩⟩:=a
 obtain⟨⟨b⟩⟩:=b
 simpa using h
end Lx
namespace Lx
theorem gI (s:ByteArray) (k:Nat):(s.extract k s.size).data.toList=s.data.toList.drop k:=by
 rw[Lib.extract_data]
 rw[List.take_of_length_le]
 rw[List.length_drop,lst_len]
 exact Nat.le_refl _
theorem jd:∀l:List UInt8,(Lib.indexByte l 10= -1→skipN true l=l.length)∧∀i:Nat,Lib.indexByte l 10=(i:Int)→i<l.length∧skipN true l=i+skipN false (l.drop i)
 | []=>by
  constructor
  ·intro _;rfl
  ·intro i h
   unfold Lib.indexByte at h
   omega
 |b::l=>by
  have m:=jd l
  have p:=Lib.indexByte_ge l 10
  rw[Lib.indexByte]
  by_cases g:b=10
  ·subst g
   constructor
   ·intro h;simp at h
   ·intro i h
    simp at h
    obtain rfl:i=0:=by omega
    refine⟨by simp,?_⟩
    rw[List.drop_zero,skipN,if_pos (by decide),skipN,if_pos (.inr (.inr (by decide)))]
    omega
  ·have e:(b==10)=false:=by simpa using g
   have a:¬b.toNat=10:=fun h=>g (num_ext b 10 h)
   rw[e]
   simp only[Bool.false_eq_true,if_false]
   rw[skipN,if_neg a]
   by_cases f:Lib.indexByte l 10= -1
   ·have k:=m.1 f
    rw[f,k]
    constructor
    ·intro _;rw[List.length_cons]
    ·intro i h;simp at h;try omega
   ·have o:(Lib.indexByte l 10== -1)=false:=by simpa using f
    rw[o]
    simp only[Bool.false_eq_true,if_false]
    constructor
    ·intro h;omega
    ·intro i h
     obtain⟨j,rfl⟩:∃j,i=j+1:=⟨i-1,by omega⟩
     obtain⟨k,n⟩:=m.2 j (by omega)
     rw[List.length_cons,List.drop_succ_cons,n]
     omega
theorem dash_skip (r:List UInt8) (h:r.head? =some 45):skipN false (45::r)=skipN true (45::r):=by
 have a:skipN true (45::r)=skipN true r+1:=by rw[skipN];rfl
 rw[a,skipN.eq_def]
 simp only
 rw[if_neg (by decide),if_pos ⟨by decide,h⟩]
theorem nA (c:UInt8) (r:List UInt8) (b:¬(c.toNat=32∨c.toNat=9∨c.toNat=10)) (a:¬(c.toNat=45∧r.head? =some 45)):skipN false (c::r)=0:=by
 rw[skipN,if_neg b,if_neg a]
theorem nB (c:UInt8) (r:List UInt8) (a:c.toNat=32∨c.toNat=9∨c.toNat=10):skipN false (c::r)=skipN false r+1:=by
 rw[skipN,if_pos a]
theorem lT (c:UInt8) (r:List UInt8): [45,45].isPrefixOf (c::r)=decide (c.toNat=45∧r.head? =some 45):=by
 rw[Bool.eq_iff_iff,decide_eq_true_eq]
 cases r with
 |nil=>simp[List.isPrefixOf]
 |cons d q=>
  simp only[List.isPrefixOf,Bool.and_true,Bool.and_eq_true,beq_iff_eq,List.head?_cons,Option.some.injEq]
  constructor
  ·rintro⟨b,a⟩;exact⟨by rw[←b];rfl,a.symm⟩
  ·rintro⟨b,a⟩;exact⟨(num_ext c 45 b).symm,a.symm⟩
theorem skip_any (s:ByteArray) (a:Nat) (w:World) (hs:s.size≤20000) (K:a≤s.size):Calls Tryz.prog 96 #[.string s,.int .i64 a] w fun e w'=>e= .returned (.int .i64 ((a+skipN false (s.data.toList.drop a):Nat):Int))∧w'=w:=by
 generalize F:a+skipN false (s.data.toList.drop a)=V
 have n:=hid F
 clear F
 go_enter Tryz.func96,Tryz.ntmps96
 go_wp2_with fail
 go_loop [1] (fun i=> ∃k:Nat,k≤s.size∧i= .int .i64 k∧k+skipN false (s.data.toList.drop k)=V) (fun i=>s.size- (intOf i).toNat)
 case atStart=>exact⟨a,K,rfl,n⟩
 case round=>
  obtain⟨k,O,rfl,H⟩:=hrel
  have n:=hid H
  clear H
  by_cases p:k<s.size
  ·have x:=hid (drop1 s k p)
   by_cases g:s[k].toNat=32∨s[k].toNat=9∨s[k].toNat=10
   ·have f:Hid (k+1+skipN false (s.data.toList.drop (k+1))=V):=by
     have h:=n.out
     rw[x.out,nB _ _ g]at h
     unfold Hid
     omega
    clear n x
    rcases g with h|h|h
    ·have A:((s[k].toNat:Int)==32)=true:=by rw[h];rfl
     clear h
     go_wp2_with fail
     go_round
     case rel=>exact⟨k+1,by omega,by go_num,f⟩
     case measure=>simp[intOf];omega
    ·have A:((s[k].toNat:Int)==32)=false:=by rw[h];rfl
     have E:((s[k].toNat:Int)==9)=true:=by rw[h];rfl
     clear h
     go_wp2_with fail
     go_round
     case rel=>exact⟨k+1,by omega,by go_num,f⟩
     case measure=>simp[intOf];omega
    ·have A:((s[k].toNat:Int)==32)=false:=by rw[h];rfl
     have E:((s[k].toNat:Int)==9)=false:=by rw[h];rfl
     have I:((s[k].toNat:Int)==10)=true:=by rw[h];rfl
     clear h
     go_wp2_with fail
     go_round
     case rel=>exact⟨k+1,by omega,by go_num,f⟩
     case measure=>simp[intOf];omega
   ·have A:((s[k].toNat:Int)==32)=false:=by rw[beq_eq_false_iff_ne];omega
    have E:((s[k].toNat:Int)==9)=false:=by rw[beq_eq_false_iff_ne];omega
    have I:((s[k].toNat:Int)==10)=false:=by rw[beq_eq_false_iff_ne];omega
    have D:Hid (¬(s[k].toNat=32∨s[k].toNat=9∨s[k].toNat=10)):=g
    clear g
    have l:Lib.hasPrefix (s.extract k s.size).data.toList (ByteArray.mk #[45,45]).data.toList=decide (s[k].toNat=45∧(s.data.toList.drop (k+1)).head? =some 45):=by
     rw[gI,drop1 s k p]
     exact lT _ _
    have r:Hid (∀W,Calls Tryz.prog 169 #[.string (s.extract k s.size),.string ⟨#[45,45]⟩] W fun e w'=>e= .returned (.bool (decide (s[k].toNat=45∧(s.data.toList.drop (k+1)).head? =some 45)))∧w'=W):=by
     intro W
     rw[←l]
     exact Tryz.strings_HasPrefix (s.extract k s.size) ⟨#[45,45]⟩ W
    clear l
    by_cases b:s[k].toNat=45∧(s.data.toList.drop (k+1)).head? =some 45
    ·rw[decide_eq_true b]at r
     have B:((10:Int)).toNat.toUInt8=10:=rfl
     have u:Hid (∀W,Calls Tryz.prog 170 #[.string (s.extract k s.size),.int .u8 10] W fun e w'=>e= .returned (.int .i64 (Lib.indexByte (s.data.toList.drop k) 10))∧w'=W):=by
      intro W
      have:=Tryz.strings_IndexByte (s.extract k s.size) 10 W
      rw[gI,B]at this
      exact this
     have z:Hid (k+skipN true (s.data.toList.drop k)=V):=by
      have h:=n.out
      rw[x.out]at h ⊢
      rw[num_ext s[k] 45 b.1]at h ⊢
      rw[dash_skip _ b.2]at h
      exact h
     have o:(s.data.toList.drop k).length=s.size-k:=by rw[List.length_drop,lst_len]
     have q:=Lib.indexByte_ge (s.data.toList.drop k) 10
     by_cases y:Lib.indexByte (s.data.toList.drop k) 10= -1
     ·have f:Hid ((V:Int)=s.size):=by
       have C:=(jd _).1 y
       have h:=z.out
       rw[C]at h
       unfold Hid
       omega
      rw[y]at u
      clear b q o y
      go_wp2_with (first|(go_at_call 169;refine(r _).mono ?_;rintro e t ⟨rfl,rfl⟩)|(go_at_call 170;refine(u _).mono ?_;rintro e t ⟨rfl,rfl⟩))
      go_ret
      exact⟨aP f.symm,rfl⟩
     ·obtain⟨m,j⟩:∃m:Nat,Lib.indexByte (s.data.toList.drop k) 10=m:=⟨(Lib.indexByte (s.data.toList.drop k) 10).toNat,by omega⟩
      obtain⟨C,G⟩:=(jd _).2 m j
      have f:Hid (k+m+skipN false (s.data.toList.drop (k+m))=V):=by
       have h:=z.out
       rw[G,List.drop_drop]at h
       unfold Hid
       omega
      have J:0<m:=by
       rcases Nat.eq_zero_or_pos m with h0|h0
       ·exfalso
        subst h0
        rw[drop1 s k p,Lib.indexByte]at j
        rw[num_ext s[k] 45 b.1]at j
        have:((45:UInt8)==10)=false:=rfl
        rw[this]at j
        simp only[Bool.false_eq_true,if_false]at j
        have L:=Lib.indexByte_ge (s.data.toList.drop (k+1)) 10
        split at j
        ·omega
        ·rename_i hx
         have:Lib.indexByte (s.data.toList.drop (k+1)) 10≠ -1:=fun e=>hx (by rw[e];rfl)
         omega
       ·exact h0
      rw[o]at C
      rw[j]at u
      clear b q o y G j z
      go_wp2_with (first|(go_at_call 169;refine(r _).mono ?_;rintro e t ⟨rfl,rfl⟩)|(go_at_call 170;refine(u _).mono ?_;rintro e t ⟨rfl,rfl⟩))
      go_round
      case rel=>exact⟨k+m,by omega,by go_num,f⟩
      case measure=>simp[intOf];omega
    ·rw[decide_eq_false b]at r
     have f:Hid (k=V):=by
      have h:=n.out
      rw[x.out,nA _ _ D.out b]at h
      exact h
     clear b
     go_wp2_with (go_at_call 169;refine(r _).mono ?_;rintro e t ⟨rfl,rfl⟩)
     go_ret
     exact⟨aP (by rw[f.out]),rfl⟩
  ·go_wp2_with fail
   go_ret
   obtain rfl:k=s.size:=by omega
   have h:=n.out
   rw[List.drop_of_length_le (Nat.le_of_eq (lst_len s))]at h
   exact⟨aP (by rw[←h];rfl),rfl⟩
end Lx
namespace Lx
theorem cK (s:ByteArray) (k:Nat):(s.extract 0 k).data.toList=s.data.toList.take k:=by
 rw[Lib.extract_data,List.drop_zero,Nat.sub_zero]
theorem nC (s:ByteArray) (a k:Nat):(s.extract a k).size≤s.size:=by
 rw[ByteArray.size_extract];omega
theorem word_any (s:ByteArray) (w:World) (hs:s.size≤20000) (G:KwAt w):Calls Tryz.prog 172 #[.string s] w fun e w'=>e= .returned (TRes (wordL s.data.toList))∧Ext w w':=by
 have F:spanN inWord s.data.toList≤s.size:=span_le inWord s.data.toList
 have A:=hid (fun W=>span_word s W (by unfold maxLen;omega))
 have C:Hid (wordL s.data.toList=if isKw (s.data.toList.take (spanN inWord s.data.toList))=true then .tok 2 ((s.data.toList.take (spanN inWord s.data.toList)).map upC) (spanN inWord s.data.toList)
   else if 24<spanN inWord s.data.toList then .bad 3
   else .tok 1 ((s.data.toList.take (spanN inWord s.data.toList)).map loC) (spanN inWord s.data.toList)):=rfl
 generalize spanN inWord s.data.toList=n at*
 have h:(s.extract 0 n).size≤20000:=Nat.le_trans (nC s 0 n) hs
 have H:Hid (∀W,Calls Tryz.prog 230 #[.string (s.extract 0 n)] W fun e w'=>e= .returned (.string ⟨((s.data.toList.take n).map upC).toArray⟩)∧Ext W w'):=by
  intro W
  have:=kr (s.extract 0 n) W h
  rw[cK]at this
  exact this
 have E:Hid (∀W,Calls Tryz.prog 231 #[.string (s.extract 0 n)] W fun e w'=>e= .returned (.string ⟨((s.data.toList.take n).map loC).toArray⟩)∧Ext W w'):=by
  intro W
  have:=lower_any (s.extract 0 n) W h
  rw[cK]at this
  exact this
 have B:Hid (∀W,Ext w W→Calls Tryz.prog 229 #[.string (s.extract 0 n)] W fun e w'=>e= .returned (.bool (isKw (s.data.toList.take n)))∧Ext W w'):=by
  intro W D
  have:=keyword_any (s.extract 0 n) W h (G.ext D)
  rw[cK]at this
  exact this
 have j:=hid (Blk.of_new w 70 [.int .i64 0,.string ⟨#[]⟩,.int .i64 0])
 clear h
 cases f:isKw (s.data.toList.take n)
 ·by_cases p:24<n
  ·have m:Hid (wordL s.data.toList= .bad 3):=by unfold Hid;rw[C.out,f,if_neg (by decide),if_pos p]
   go_enter Tryz.func172,Tryz.ntmps172
   go_wp2_with (first|(go_at_call 227;refine(A _).mono ?_;rintro e i ⟨rfl,rfl⟩)|(go_at_call 229;refine(B _ ((Ext.refl w).alloc _)).mono ?_;rintro e i ⟨rfl,b⟩;rw[f];have a:=hid (j.ext b);have t:=a.cell 0;have x:=a.cell 1;have z:=a.cell 2;obtain⟨q,l,o,-⟩:=frz a))
   have r:(i.setCell ⟨w.heap.size,0,none⟩ (.int .i64 0)).cell? ⟨w.heap.size,0,none⟩=some (.int .i64 0):=(a.set 0 _).cell 0
   have u:((i.setCell ⟨w.heap.size,0,none⟩ (.int .i64 0)).setCell ⟨w.heap.size,1,none⟩ (.string ⟨#[]⟩)).cell? ⟨w.heap.size,1,none⟩=some (.string ⟨#[]⟩):=((a.set 0 _).set 1 _).cell 1
   have y:(((i.setCell ⟨w.heap.size,0,none⟩ (.int .i64 0)).setCell ⟨w.heap.size,1,none⟩ (.string ⟨#[]⟩)).setCell ⟨w.heap.size,2,none⟩ (.int .i64 0)).cell? ⟨w.heap.size,2,none⟩=some (.int .i64 0):=(((a.set 0 _).set 1 _).set 2 _).cell 2
   exact bodyPost_ret (v:= .tuple #[.agg #[.int .i64 0,.string ⟨#[]⟩,.int .i64 0],.int .i64 (0),.int .i64 (3)]) (by simp[results,Tryz.results172,go_sem,r,u,y]) rfl ⟨by rw[m.out];rfl,(((((Ext.refl w).alloc _).trans b).setCell (Nat.le_refl _) _).setCell (Nat.le_refl _) _).setCell (Nat.le_refl _) _⟩
  ·have m:Hid (wordL s.data.toList= .tok 1 ((s.data.toList.take n).map loC) n):=by unfold Hid;rw[C.out,f,if_neg (by decide),if_neg p]
   generalize (s.data.toList.take n).map loC=L at*
   go_enter Tryz.func172,Tryz.ntmps172
   go_wp2_with (first|(go_at_call 227;refine(A _).mono ?_;rintro e i ⟨rfl,rfl⟩)|(go_at_call 229;refine(B _ ((Ext.refl w).alloc _)).mono ?_;rintro e i ⟨rfl,b⟩;rw[f])|(go_at_call 231;refine(E _).mono ?_;rintro e k ⟨rfl,g⟩;have a:=hid ((j.ext b).ext g);have t:=a.cell 0;have x:=a.cell 1;have z:=a.cell 2;obtain⟨q,l,o,-⟩:=frz a))
   have r:(k.setCell ⟨w.heap.size,0,none⟩ (.int .i64 1)).cell? ⟨w.heap.size,0,none⟩=some (.int .i64 1):=(a.set 0 _).cell 0
   have u:((k.setCell ⟨w.heap.size,0,none⟩ (.int .i64 1)).setCell ⟨w.heap.size,1,none⟩ (.string ⟨L.toArray⟩)).cell? ⟨w.heap.size,1,none⟩=some (.string ⟨L.toArray⟩):=((a.set 0 _).set 1 _).cell 1
   have y:(((k.setCell ⟨w.heap.size,0,none⟩ (.int .i64 1)).setCell ⟨w.heap.size,1,none⟩ (.string ⟨L.toArray⟩)).setCell ⟨w.heap.size,2,none⟩ (.int .i64 0)).cell? ⟨w.heap.size,2,none⟩=some (.int .i64 0):=(((a.set 0 _).set 1 _).set 2 _).cell 2
   exact bodyPost_ret (v:= .tuple #[.agg #[.int .i64 1,.string ⟨L.toArray⟩,.int .i64 0],.int .i64 (n),.int .i64 (0)]) (by simp[results,Tryz.results172,go_sem,r,u,y]) rfl ⟨by rw[m.out];rfl,((((((Ext.refl w).alloc _).trans b).trans g).setCell (Nat.le_refl _) _).setCell (Nat.le_refl _) _).setCell (Nat.le_refl _) _⟩
 ·have m:Hid (wordL s.data.toList= .tok 2 ((s.data.toList.take n).map upC) n):=by unfold Hid;rw[C.out,f,if_pos rfl]
  generalize (s.data.toList.take n).map upC=L at*
  go_enter Tryz.func172,Tryz.ntmps172
  go_wp2_with (first|(go_at_call 227;refine(A _).mono ?_;rintro e i ⟨rfl,rfl⟩)|(go_at_call 229;refine(B _ ((Ext.refl w).alloc _)).mono ?_;rintro e i ⟨rfl,b⟩;rw[f])|(go_at_call 230;refine(H _).mono ?_;rintro e k ⟨rfl,g⟩;have a:=hid ((j.ext b).ext g);have t:=a.cell 0;have x:=a.cell 1;have z:=a.cell 2;obtain⟨q,l,o,-⟩:=frz a))
  have r:(k.setCell ⟨w.heap.size,0,none⟩ (.int .i64 2)).cell? ⟨w.heap.size,0,none⟩=some (.int .i64 2):=(a.set 0 _).cell 0
  have u:((k.setCell ⟨w.heap.size,0,none⟩ (.int .i64 2)).setCell ⟨w.heap.size,1,none⟩ (.string ⟨L.toArray⟩)).cell? ⟨w.heap.size,1,none⟩=some (.string ⟨L.toArray⟩):=((a.set 0 _).set 1 _).cell 1
  have y:(((k.setCell ⟨w.heap.size,0,none⟩ (.int .i64 2)).setCell ⟨w.heap.size,1,none⟩ (.string ⟨L.toArray⟩)).setCell ⟨w.heap.size,2,none⟩ (.int .i64 0)).cell? ⟨w.heap.size,2,none⟩=some (.int .i64 0):=(((a.set 0 _).set 1 _).set 2 _).cell 2
  exact bodyPost_ret (v:= .tuple #[.agg #[.int .i64 2,.string ⟨L.toArray⟩,.int .i64 0],.int .i64 (n),.int .i64 (0)]) (by simp[results,Tryz.results172,go_sem,r,u,y]) rfl ⟨by rw[m.out];rfl,((((((Ext.refl w).alloc _).trans b).trans g).setCell (Nat.le_refl _) _).setCell (Nat.le_refl _) _).setCell (Nat.le_refl _) _⟩
theorem dv_snoc (l:List UInt8) (c:UInt8):digVal (l++ [c])=10*digVal l+(c.toNat-48):=by
 unfold digVal
 rw[List.foldl_append]
 rfl
theorem dv_mono (a b:List UInt8):digVal a≤digVal (a++b):=by
 have:digVal (a++b)=digVal a*10^b.length+digVal b:=by
  rw[←dv_from]
  unfold digVal
  rw[List.foldl_append]
 rw[this]
 have e:digVal a*1≤digVal a*10^b.length:=Nat.mul_le_mul_left _ (Nat.pow_pos (by decide))
 omega
theorem dv_take (l:List UInt8) (i j:Nat) (h:i≤j):digVal (l.take i)≤digVal (l.take j):=by
 have:l.take j=l.take i++(l.take j).drop i:=by
  conv=>lhs;rw[←List.take_append_drop i (l.take j)]
  rw[List.take_take,Nat.min_eq_left h]
 rw[this]
 exact dv_mono _ _
theorem headW_at (s:ByteArray) (n:Nat):headW (s.data.toList.drop n)=if h:n<s.size then inWord s[n]else false:=by
 split
 ·rename_i h
  rw[drop1 s n h];rfl
 ·rw[List.drop_of_length_le (by rw[lst_len];omega)];rfl
theorem number_any (s:ByteArray) (w:World) (hs:s.size≤20000) (h0:0<s.size):Calls Tryz.prog 174 #[.string s] w fun e w'=>e= .returned (TRes (numL s.data.toList))∧Ext w w':=by
 have ax:spanN isDigit s.data.toList≤s.size:=span_le isDigit s.data.toList
 have L:=hid (fun W=>ny s W (by unfold maxLen;omega))
 have U:=hid (span_all isDigit s.data.toList)
 have Q:Hid (numL s.data.toList=if (1<spanN isDigit s.data.toList∧s.data.toList.head? =some 48)∨headW (s.data.toList.drop (spanN isDigit s.data.toList))=true then .bad 2
   else if 2147483648<digVal (s.data.toList.take (spanN isDigit s.data.toList))then .bad 3
   else .tok 3 (s.data.toList.take (spanN isDigit s.data.toList)) (spanN isDigit s.data.toList)):=rfl
 have HH:Hid (s.data.toList.head? =some s[0]):=by unfold Hid;rw[dH s h0];rfl
 generalize spanN isDigit s.data.toList=n at*
 have HW:=hid (headW_at s n)
 have a:=hid (Blk.of_new w 70 [.int .i64 0,.string ⟨#[]⟩,.int .i64 0])
 have j:=a.cell 0
 have m:=a.cell 1
 have o:=a.cell 2
 obtain⟨E,C,D,-⟩:=frz a
 by_cases t:1<n∧s[0].toNat=48
 ·have z:Hid (numL s.data.toList= .bad 2):=by unfold Hid;rw[Q.out,if_pos (.inl ⟨t.1,by rw[HH.out,num_ext s[0] 48 t.2]⟩)]
  have b1:((s[0].toNat:Int)==48)=true:=by rw[t.2];rfl
  obtain⟨a1,_⟩:=t
  go_enter Tryz.func174,Tryz.ntmps174
  go_wp2_with (go_at_call 227;refine(L _).mono ?_;rintro e I ⟨rfl,rfl⟩)
  exact bodyPost_ret (v:= .tuple #[.agg #[.int .i64 0,.string ⟨#[]⟩,.int .i64 0],.int .i64 0,.int .i64 2]) (by simp[results,Tryz.results174,go_sem,j,m,o]) rfl ⟨by rw[z.out];rfl,(Ext.refl w).alloc _⟩
 ·have HZ:Hid (¬(1<n∧s.data.toList.head? =some 48)):=by
   unfold Hid
   rw[HH.out]
   rintro⟨H,h2⟩
   injection h2 with h2
   exact t ⟨H,by rw[h2];rfl⟩
  have b:n≤1∨(1<n∧((s[0].toNat:Int)==48)=false):=by
   rcases Nat.lt_or_ge 1 n with h|h
   ·right;exact⟨h,by rw[beq_eq_false_iff_ne];intro e;exact t ⟨h,by omega⟩⟩
   ·left;omega
  clear t
  by_cases r:∃h:n<s.size,inWord s[n]=true
  ·obtain⟨hn,r⟩:=r
   have z:Hid (numL s.data.toList= .bad 2):=by unfold Hid;rw[Q.out,if_pos (.inr (by rw[HW.out,dif_pos hn];exact r))]
   have HI:=hid (fun W=>dT s[n] W)
   rw[r]at HI
   rcases b with H|⟨H,b1⟩
   all_goals
    go_enter Tryz.func174,Tryz.ntmps174
    go_wp2_with (first|(go_at_call 227;refine(L _).mono ?_;rintro e I ⟨rfl,rfl⟩)|(go_at_call 228;refine(HI _).mono ?_;rintro e I ⟨rfl,rfl⟩))
    exact bodyPost_ret (v:= .tuple #[.agg #[.int .i64 0,.string ⟨#[]⟩,.int .i64 0],.int .i64 0,.int .i64 2]) (by simp[results,Tryz.results174,go_sem,j,m,o]) rfl ⟨by rw[z.out];rfl,(Ext.refl w).alloc _⟩
  ·have HF:Hid (headW (s.data.toList.drop n)=false):=by
    unfold Hid
    rw[HW.out]
    split
    ·rename_i h
     cases J:inWord s[n]
     ·rfl
     ·exact absurd ⟨h,J⟩ r
    ·rfl
   have z:Hid (numL s.data.toList=if 2147483648<digVal (s.data.toList.take n)then .bad 3 else .tok 3 (s.data.toList.take n) n):=by
    unfold Hid
    rw[Q.out,if_neg]
    rintro(h|h)
    ·exact HZ h
    ·rw[HF.out]at h;cases h
   have l:(∃h:n<s.size,∀W,Calls Tryz.prog 228 #[.int .u8 s[n].toNat] W fun e w'=>e= .returned (.bool false)∧w'=W)∨¬n<s.size:=by
    rcases Nat.lt_or_ge n s.size with h|h
    ·left
     refine⟨h,fun W=>?_⟩
     have:=dT s[n] W
     cases J:inWord s[n]
     ·rw[J]at this;exact this
     ·exact absurd ⟨h,J⟩ r
    ·right;omega
   clear r
   have q:(s.extract 0 n).size=n:=by rw[ByteArray.size_extract];omega
   have a0:=hid q
   obtain⟨an,A,rest,y,u,ac,x⟩:=conv_blk (P:=Tryz.prog) (w.alloc (.cells #[.int .i64 0,.string ⟨#[]⟩,.int .i64 0] 70)) 9 60 5 (s.extract 0 n) Tryz.underlying9 Tryz.underlying60 Tryz.underlying5
   rw[q]at y
   rw[cK]at x
   have g:=hid (a.ext u)
   have HX:=hid (((Ext.refl w).alloc (.cells #[.int .i64 0,.string ⟨#[]⟩,.int .i64 0] 70)).trans u)
   have K:=hid x
   simp only[World.size_alloc]at y
   have O:Hid ((w.alloc (.cells #[.int .i64 0,.string ⟨#[]⟩,.int .i64 0] 70)).heap.size=w.heap.size+1):=by unfold Hid;rw[World.size_alloc]
   clear x ac u q j m o E C D
   rcases b with H|⟨H,b1⟩
   all_goals
    rcases l with ⟨hn,hI⟩|hn
    all_goals
     go_enter Tryz.func174,Tryz.ntmps174
     go_wp2_with (first|(go_at_call 227;refine(L _).mono ?_;rintro e I ⟨rfl,rfl⟩)|(go_at_call 228;refine(hI _).mono ?_;rintro e I ⟨rfl,rfl⟩))
     have j:=g.cell 0
     have m:=g.cell 1
     have o:=g.cell 2
     obtain⟨E,C,D,-⟩:=frz g
     clear y
     go_loop [6,36] (fun v i=> ∃(k V:Nat),k≤n∧i= .int .i64 k∧v= .int .i64 V∧V=digVal (s.data.toList.take k)∧V≤2147483648) (fun _ i=>n- (intOf i).toNat)
     case atStart=>exact⟨0,0,Nat.zero_le _,rfl,rfl,rfl,Nat.zero_le _⟩
     case round=>
      obtain⟨k,V,hk,rfl,rfl,hv,hV⟩:=hrel
      have HV:=hid hv
      clear hv
      by_cases a2:k<n
      ·have p:k<s.size:=by omega
       have f:k<(s.data.toList.take n).length:=by rw[List.length_take,lst_len];omega
       have G:=K.cell (b8_get' _ rest k f)
       rw[List.getElem_take]at G
       have B:(s.data.toList[k]'p)=s[k]:=rfl
       rw[B,O.out]at G
       have F:isDigit s[k]=true:=U s[k] (by
        have:=List.getElem_mem f
        rw[List.getElem_take]at this
        exact this)
       have hd:48≤s[k].toNat∧s[k].toNat≤57:=by unfold isDigit at F;grind
       obtain⟨a3,ag⟩:=hd
       clear F B f
       have HT:Hid (digVal (s.data.toList.take (k+1))=10*V+(s[k].toNat-48)):=by
        unfold Hid
        rw[take1 s k p,dv_snoc,←HV.out]
       by_cases ad:2147483648<10*V+(s[k].toNat-48)
       ·have HR:Hid (numL s.data.toList= .bad 3):=by
         unfold Hid
         rw[z.out,if_pos]
         have:=dv_take s.data.toList (k+1) n (by omega)
         rw[HT.out]at this
         omega
        go_wp2_with fail
        have R:(A.setCell ⟨w.heap.size,0,none⟩ (.int .i64 0)).cell? ⟨w.heap.size,0,none⟩=some (.int .i64 0):=(g.set 0 _).cell 0
        have Z:((A.setCell ⟨w.heap.size,0,none⟩ (.int .i64 0)).setCell ⟨w.heap.size,1,none⟩ (.string ⟨#[]⟩)).cell? ⟨w.heap.size,1,none⟩=some (.string ⟨#[]⟩):=((g.set 0 _).set 1 _).cell 1
        have Y:(((A.setCell ⟨w.heap.size,0,none⟩ (.int .i64 0)).setCell ⟨w.heap.size,1,none⟩ (.string ⟨#[]⟩)).setCell ⟨w.heap.size,2,none⟩ (.int .i64 0)).cell? ⟨w.heap.size,2,none⟩=some (.int .i64 0):=(((g.set 0 _).set 1 _).set 2 _).cell 2
        exact bodyPost_ret (v:= .tuple #[.agg #[.int .i64 0,.string ⟨#[]⟩,.int .i64 0],.int .i64 (0),.int .i64 (3)]) (by simp[results,Tryz.results174,go_sem,R,Z,Y]) rfl ⟨by rw[HR.out];rfl,((HX.setCell (Nat.le_refl _) _).setCell (Nat.le_refl _) _).setCell (Nat.le_refl _) _⟩
       ·go_wp2_with fail
        go_round
        case rel=>exact⟨k+1,10*V+(s[k].toNat-48),by omega,by go_num,by go_num,HT.symm,by omega⟩
        case measure=>simp[intOf];omega
      ·obtain rfl:k=n:=by omega
       have HR:Hid (numL s.data.toList= .tok 3 (s.data.toList.take k) k):=by
        unfold Hid
        rw[z.out,if_neg]
        rw[←HV.out]
        omega
       have X:Hid (s.extract 0 k=⟨(s.data.toList.take k).toArray⟩):=by_list (by rw[cK])
       go_wp2_with fail
       have R:(A.setCell ⟨w.heap.size,0,none⟩ (.int .i64 3)).cell? ⟨w.heap.size,0,none⟩=some (.int .i64 3):=(g.set 0 _).cell 0
       have Z:((A.setCell ⟨w.heap.size,0,none⟩ (.int .i64 3)).setCell ⟨w.heap.size,1,none⟩ (.string (s.extract 0 k))).cell? ⟨w.heap.size,1,none⟩=some (.string (s.extract 0 k)):=((g.set 0 _).set 1 _).cell 1
       have Y:(((A.setCell ⟨w.heap.size,0,none⟩ (.int .i64 3)).setCell ⟨w.heap.size,1,none⟩ (.string (s.extract 0 k))).setCell ⟨w.heap.size,2,none⟩ (.int .i64 0)).cell? ⟨w.heap.size,2,none⟩=some (.int .i64 0):=(((g.set 0 _).set 1 _).set 2 _).cell 2
       exact bodyPost_ret (v:= .tuple #[.agg #[.int .i64 3,.string (s.extract 0 k),.int .i64 0],.int .i64 (k),.int .i64 (0)]) (by simp[results,Tryz.results174,go_sem,R,Z,Y]) rfl ⟨by rw[HR.out,X.out];rfl,((HX.setCell (Nat.le_refl _) _).setCell (Nat.le_refl _) _).setCell (Nat.le_refl _) _⟩
end Lx
namespace Lx
def two (c d:UInt8):Prop:=(c=60∧d=62)∨(c=60∧d=61)∨(c=62∧d=61)
theorem kX (c d:UInt8) (r:List UInt8) (h:two c d):symN (c::d::r)=2:=by rw[symN];exact if_pos h
theorem sym_one (c:UInt8) (r:List UInt8) (h:∀d q,r=d::q→¬two c d):symN (c::r)=if c∈eg then 1 else 0:=by
 cases r with
 |nil=>rw[symN]
 |cons d q=>rw[symN];exact if_neg (h d q rfl)
end Lx
namespace Lx
theorem fC (t:TR):∃(a:Int) (x:ByteArray) (p n e:Int),TRes t= .tuple #[.agg #[.int .i64 a,.string x,.int .i64 p],.int .i64 n,.int .i64 e]:=by
 cases t with
 |bad e=>exact⟨0,⟨#[]⟩,0,0,e,rfl⟩
 |tok k x n=>exact⟨k,⟨x.toArray⟩,0,n,0,rfl⟩
theorem kY (s:ByteArray) (w:World) (hs:s.size≤20000) (u:0<s.size) (C:KwAt w) (k:isLetter s[0]=true):Calls Tryz.prog 97 #[.string s] w fun e w'=>e= .returned (TRes (tokL s.data.toList))∧Ext w w':=by
 have m:Hid (tokL s.data.toList=wordL s.data.toList):=by
  unfold Hid
  rw[dH s u,tokL,if_pos k]
 have o:=hid (fun W=>dh s[0] W)
 rw[k]at o
 have l:=hid (fun W (h:Ext w W)=>word_any s W hs (C.ext h))
 obtain⟨a,x,p,n,e,f⟩:=fC (wordL s.data.toList)
 rw[f]at l
 have D:Hid (TRes (tokL s.data.toList)= .tuple #[.agg #[.int .i64 a,.string x,.int .i64 p],.int .i64 n,.int .i64 e]):=by unfold Hid;rw[m.out,f]
 generalize TRes (tokL s.data.toList)=V at*
 have j:=hid (Blk.of_new w 70 [.int .i64 0,.string ⟨#[]⟩,.int .i64 0])
 clear m f k
 go_enter Tryz.func97,Tryz.ntmps97
 go_wp2_with (first|(go_at_call 171;refine(o _).mono ?_;rintro y i ⟨rfl,rfl⟩)|(go_at_call 172;refine(l _ ((Ext.refl w).alloc _)).mono ?_;rintro y i ⟨rfl,g⟩;have b:=hid (j.ext g);have A:=b.cell 0;have E:=b.cell 1;have G:=b.cell 2;obtain⟨t,q,r,-⟩:=frz b))
 have z:(i.setCell ⟨w.heap.size,0,none⟩ (.int .i64 a)).cell? ⟨w.heap.size,0,none⟩=some (.int .i64 a):=(b.set 0 _).cell 0
 have B:((i.setCell ⟨w.heap.size,0,none⟩ (.int .i64 a)).setCell ⟨w.heap.size,1,none⟩ (.string x)).cell? ⟨w.heap.size,1,none⟩=some (.string x):=((b.set 0 _).set 1 _).cell 1
 have F:(((i.setCell ⟨w.heap.size,0,none⟩ (.int .i64 a)).setCell ⟨w.heap.size,1,none⟩ (.string x)).setCell ⟨w.heap.size,2,none⟩ (.int .i64 p)).cell? ⟨w.heap.size,2,none⟩=some (.int .i64 p):=(((b.set 0 _).set 1 _).set 2 _).cell 2
 exact bodyPost_ret (v:= .tuple #[.agg #[.int .i64 a,.string x,.int .i64 p],.int .i64 (n),.int .i64 (e)]) (by simp[results,Tryz.results97,go_sem,z,B,F]) rfl ⟨by rw[D.out],(((((Ext.refl w).alloc _).trans g).setCell (Nat.le_refl _) _).setCell (Nat.le_refl _) _).setCell (Nat.le_refl _) _⟩
theorem lU (s:ByteArray) (w:World) (hs:s.size≤20000) (m:0<s.size) (j:isLetter s[0]=false) (hd:isDigit s[0]=true):Calls Tryz.prog 97 #[.string s] w fun e w'=>e= .returned (TRes (tokL s.data.toList))∧Ext w w':=by
 have l:Hid (tokL s.data.toList=numL s.data.toList):=by
  unfold Hid
  rw[dH s m,tokL,if_neg (by rw[j];decide),if_pos hd]
 have q:=hid (fun W=>dh s[0] W)
 rw[j]at q
 have r:=hid (fun W=>db s[0] W)
 rw[hd]at r
 have k:=hid (fun W=>number_any s W hs m)
 obtain⟨a,x,p,n,e,f⟩:=fC (numL s.data.toList)
 rw[f]at k
 have C:Hid (TRes (tokL s.data.toList)= .tuple #[.agg #[.int .i64 a,.string x,.int .i64 p],.int .i64 n,.int .i64 e]):=by unfold Hid;rw[l.out,f]
 generalize TRes (tokL s.data.toList)=V at*
 have i:=hid (Blk.of_new w 70 [.int .i64 0,.string ⟨#[]⟩,.int .i64 0])
 clear l f j hd
 go_enter Tryz.func97,Tryz.ntmps97
 go_wp2_with (first|(go_at_call 171;refine(q _).mono ?_;rintro o h ⟨rfl,rfl⟩)|(go_at_call 173;refine(r _).mono ?_;rintro o h ⟨rfl,rfl⟩)|(go_at_call 174;refine(k _).mono ?_;rintro o h ⟨rfl,g⟩;have b:=hid (i.ext g);have A:=b.cell 0;have D:=b.cell 1;have F:=b.cell 2;obtain⟨y,t,u,-⟩:=frz b))
 have z:(h.setCell ⟨w.heap.size,0,none⟩ (.int .i64 a)).cell? ⟨w.heap.size,0,none⟩=some (.int .i64 a):=(b.set 0 _).cell 0
 have B:((h.setCell ⟨w.heap.size,0,none⟩ (.int .i64 a)).setCell ⟨w.heap.size,1,none⟩ (.string x)).cell? ⟨w.heap.size,1,none⟩=some (.string x):=((b.set 0 _).set 1 _).cell 1
 have E:(((h.setCell ⟨w.heap.size,0,none⟩ (.int .i64 a)).setCell ⟨w.heap.size,1,none⟩ (.string x)).setCell ⟨w.heap.size,2,none⟩ (.int .i64 p)).cell? ⟨w.heap.size,2,none⟩=some (.int .i64 p):=(((b.set 0 _).set 1 _).set 2 _).cell 2
 exact bodyPost_ret (v:= .tuple #[.agg #[.int .i64 a,.string x,.int .i64 p],.int .i64 (n),.int .i64 (e)]) (by simp[results,Tryz.results97,go_sem,z,B,E]) rfl ⟨by rw[C.out],(((((Ext.refl w).alloc _).trans g).setCell (Nat.le_refl _) _).setCell (Nat.le_refl _) _).setCell (Nat.le_refl _) _⟩
theorem nD (s:ByteArray) (w:World) (hs:s.size≤20000) (q:0<s.size) (i:s[0].toNat=39):Calls Tryz.prog 97 #[.string s] w fun e w'=>e= .returned (TRes (tokL s.data.toList))∧Ext w w':=by
 have k:isLetter s[0]=false:=by unfold isLetter;rw[i];rfl
 have hd:isDigit s[0]=false:=by unfold isDigit;rw[i];rfl
 have m:Hid (tokL s.data.toList=textL (s.data.toList.drop 1)):=by
  unfold Hid
  conv=>lhs;rw[dH s q]
  rw[tokL,if_neg (by rw[k];decide),if_neg (by rw[hd];decide),if_pos i]
 have r:=hid (fun W=>dh s[0] W)
 rw[k]at r
 have t:=hid (fun W=>db s[0] W)
 rw[hd]at t
 have l:=hid (fun W=>text_any s W hs q)
 have H:((s[0].toNat:Int)==39)=true:=by rw[i];rfl
 obtain⟨a,x,p,n,e,f⟩:=fC (textL (s.data.toList.drop 1))
 rw[f]at l
 have D:Hid (TRes (tokL s.data.toList)= .tuple #[.agg #[.int .i64 a,.string x,.int .i64 p],.int .i64 n,.int .i64 e]):=by unfold Hid;rw[m.out,f]
 generalize TRes (tokL s.data.toList)=V at*
 have j:=hid (Blk.of_new w 70 [.int .i64 0,.string ⟨#[]⟩,.int .i64 0])
 clear m f k hd i
 go_enter Tryz.func97,Tryz.ntmps97
 go_wp2_with (first|(go_at_call 171;refine(r _).mono ?_;rintro o h ⟨rfl,rfl⟩)|(go_at_call 173;refine(t _).mono ?_;rintro o h ⟨rfl,rfl⟩)|(go_at_call 175;refine(l _).mono ?_;rintro o h ⟨rfl,g⟩;have b:=hid (j.ext g);have B:=b.cell 0;have E:=b.cell 1;have G:=b.cell 2;obtain⟨z,u,y,-⟩:=frz b))
 have A:(h.setCell ⟨w.heap.size,0,none⟩ (.int .i64 a)).cell? ⟨w.heap.size,0,none⟩=some (.int .i64 a):=(b.set 0 _).cell 0
 have C:((h.setCell ⟨w.heap.size,0,none⟩ (.int .i64 a)).setCell ⟨w.heap.size,1,none⟩ (.string x)).cell? ⟨w.heap.size,1,none⟩=some (.string x):=((b.set 0 _).set 1 _).cell 1
 have F:(((h.setCell ⟨w.heap.size,0,none⟩ (.int .i64 a)).setCell ⟨w.heap.size,1,none⟩ (.string x)).setCell ⟨w.heap.size,2,none⟩ (.int .i64 p)).cell? ⟨w.heap.size,2,none⟩=some (.int .i64 p):=(((b.set 0 _).set 1 _).set 2 _).cell 2
 exact bodyPost_ret (v:= .tuple #[.agg #[.int .i64 a,.string x,.int .i64 p],.int .i64 (n),.int .i64 (e)]) (by simp[results,Tryz.results97,go_sem,A,C,F]) rfl ⟨by rw[D.out],(((((Ext.refl w).alloc _).trans g).setCell (Nat.le_refl _) _).setCell (Nat.le_refl _) _).setCell (Nat.le_refl _) _⟩
def iC:Nat→List UInt8
 |0=> [60,62]
 |1=> [60,61]
 |2=> [62,61]
 |_=> []
def symS (k:Nat):ByteArray:=⟨(iC k).toArray⟩
theorem symS_cell (k:Nat) (h:k<3): [Value.string ⟨#[60,62]⟩,Value.string ⟨#[60,61]⟩,Value.string ⟨#[62,61]⟩][k]? =some (.string (symS k)):=by
 match k,h with
 |0,_=>rfl
 |1,_=>rfl
 |2,_=>rfl
theorem hp_two (k:Nat) (a:k<3) (l:List UInt8) (h:Lib.hasPrefix l (iC k)=true):symN l=2∧l.take 2=iC k:=by
 unfold Lib.hasPrefix at h
 obtain⟨r,rfl⟩:=List.isPrefixOf_iff_prefix.1 h
 match k,a with
 |0,_=>exact⟨kX 60 62 r (.inl ⟨rfl,rfl⟩),rfl⟩
 |1,_=>exact⟨kX 60 61 r (.inr (.inl ⟨rfl,rfl⟩)),rfl⟩
 |2,_=>exact⟨kX 62 61 r (.inr (.inr ⟨rfl,rfl⟩)),rfl⟩
theorem hp_no (c:UInt8) (r:List UInt8) (h:∀k,k<3→Lib.hasPrefix (c::r) (iC k)=false):symN (c::r)=if c∈eg then 1 else 0:=by
 refine sym_one c r fun d q e=>?_
 subst e
 rintro(⟨rfl,rfl⟩|⟨rfl,rfl⟩|⟨rfl,rfl⟩)
 ·have:=h 0 (by decide);simp[Lib.hasPrefix,iC,List.isPrefixOf]at this
 ·have:=h 1 (by decide);simp[Lib.hasPrefix,iC,List.isPrefixOf]at this
 ·have:=h 2 (by decide);simp[Lib.hasPrefix,iC,List.isPrefixOf]at this
theorem idx_mem (c:UInt8):∀l:List UInt8,(0≤Lib.indexByte l c)↔c∈l
 | []=>by simp[Lib.indexByte]
 |b::l=>by
  have g:=idx_mem c l
  have k:=Lib.indexByte_ge l c
  rw[Lib.indexByte]
  by_cases f:b=c
  ·subst f;simp
  ·have e:(b==c)=false:=by simpa using f
   rw[e]
   simp only[Bool.false_eq_true,if_false,List.mem_cons]
   have a:¬c=b:=fun h=>f h.symm
   by_cases i:Lib.indexByte l c= -1
   ·rw[i]at g ⊢
    simp only[beq_self_eq_true,if_true,a,false_or]
    exact g
   ·have j:(Lib.indexByte l c== -1)=false:=by simpa using i
    rw[j]
    simp only[Bool.false_eq_true,if_false,a,false_or]
    rw[←g]
    omega
theorem first_of (P:Nat→Bool):∃m,m≤3∧(∀j,j<m→P j=false)∧(m<3→P m=true):=by
 cases b:P 0
 ·cases f:P 1
  ·cases e:P 2
   ·exact⟨3,Nat.le_refl _,fun j a=>by rcases(by omega:j=0∨j=1∨j=2)with rfl|rfl|rfl<;>assumption,fun h=>absurd h (Nat.lt_irrefl _)⟩
   ·exact⟨2,by decide,fun j a=>by rcases(by omega:j=0∨j=1)with rfl|rfl<;>assumption,fun _=>e⟩
  ·exact⟨1,by decide,fun j a=>by rw[show j=0 by omega];exact b,fun _=>f⟩
 ·exact⟨0,by decide,fun j a=>absurd a (Nat.not_lt_zero _),fun _=>b⟩
theorem kZ (s:ByteArray) (w:World) (hs:s.size≤20000) (V:0<s.size) (O:isLetter s[0]=false) (hd:isDigit s[0]=false) (hq:¬s[0].toNat=39):Calls Tryz.prog 97 #[.string s] w fun e w'=>e= .returned (TRes (tokL s.data.toList))∧Ext w w':=by
 have K:Hid (tokL s.data.toList=symL s.data.toList):=by
  unfold Hid
  rw[dH s V,tokL,if_neg (by rw[O];decide),if_neg (by rw[hd];decide),if_neg hq]
 have Y:=hid (fun W=>dh s[0] W)
 rw[O]at Y
 have HD:=hid (fun W=>db s[0] W)
 rw[hd]at HD
 have b1:((s[0].toNat:Int)==39)=false:=by rw[beq_eq_false_iff_ne];omega
 have Q:Hid (∀k W,Calls Tryz.prog 169 #[.string s,.string (symS k)] W fun e w'=>e= .returned (.bool (Lib.hasPrefix s.data.toList (iC k)))∧w'=W):=fun k W=>Tryz.strings_HasPrefix s (symS k) W
 have z:=hid (fun k X=>hp_two k X s.data.toList)
 have A:Hid ((∀k,k<3→Lib.hasPrefix s.data.toList (iC k)=false)→symN s.data.toList=if s[0]∈eg then 1 else 0):=by
  unfold Hid
  intro h
  rw[dH s V]at h ⊢
  exact hp_no _ _ h
 generalize x:(fun k=>Lib.hasPrefix s.data.toList (iC k))=P at*
 have R:∀k,Lib.hasPrefix s.data.toList (iC k)=P k:=fun k=>by rw[←x]
 simp only[R]at Q z A
 clear R x
 obtain⟨m,hm,n,f⟩:=first_of P
 have F:=hid n
 have L:=hid (Blk.of_new w 70 [.int .i64 0,.string ⟨#[]⟩,.int .i64 0])
 have Z:Hid (∀W,Calls Tryz.prog 170 #[.string ⟨#[40,41,44,59,46,42,43,45,47,37,61,60,62]⟩,.int .u8 s[0].toNat] W fun e w'=>e= .returned (.int .i64 (Lib.indexByte eg s[0]))∧w'=W):=by
  intro W
  have:=Tryz.strings_IndexByte ⟨#[40,41,44,59,46,42,43,45,47,37,61,60,62]⟩ (s[0].toNat:Int) W
  rw[Lib.byte_back']at this
  exact this
 have b:=idx_mem s[0] eg
 have p:Hid (symL s.data.toList=if symN s.data.toList=0 then .bad 2 else .tok 5 (s.data.toList.take (symN s.data.toList)) (symN s.data.toList)):=rfl
 have HF:Hid (s.extract 0 1=⟨(s.data.toList.take 1).toArray⟩):=by_list (by rw[cK])
 generalize symN s.data.toList=SN at*
 clear O hd hq
 go_enter Tryz.func97,Tryz.ntmps97
 go_wp2_with (first|(go_at_call 171;refine(Y _).mono ?_;rintro t U ⟨rfl,rfl⟩)|(go_at_call 173;refine(HD _).mono ?_;rintro t U ⟨rfl,rfl⟩))
 have g:=hid (L.ext ((Ext.refl _).alloc (.cells #[.string ⟨#[60,62]⟩,.string ⟨#[60,61]⟩,.string ⟨#[62,61]⟩] 9)))
 have y:=hid (Blk.of_new (w.alloc (.cells #[.int .i64 0,.string ⟨#[]⟩,.int .i64 0] 70)) 9 [.string ⟨#[60,62]⟩,.string ⟨#[60,61]⟩,.string ⟨#[62,61]⟩])
 have J:Hid (Ext w ((w.alloc (.cells #[.int .i64 0,.string ⟨#[]⟩,.int .i64 0] 70)).alloc (.cells #[.string ⟨#[60,62]⟩,.string ⟨#[60,61]⟩,.string ⟨#[62,61]⟩] 9))):=((Ext.refl _).alloc _).alloc _
 have G:Hid (Blk ((w.alloc (.cells #[.int .i64 0,.string ⟨#[]⟩,.int .i64 0] 70)).alloc (.cells #[.string ⟨#[60,62]⟩,.string ⟨#[60,61]⟩,.string ⟨#[62,61]⟩] 9)) (w.heap.size+1) 9 [.string ⟨#[60,62]⟩,.string ⟨#[60,61]⟩,.string ⟨#[62,61]⟩]):=by
  have:=y.out
  rw[World.size_alloc]at this
  exact this
 clear y
 generalize ((w.alloc (.cells #[.int .i64 0,.string ⟨#[]⟩,.int .i64 0] 70)).alloc (.cells #[.string ⟨#[60,62]⟩,.string ⟨#[60,61]⟩,.string ⟨#[62,61]⟩] 9))=U at*
 have a0:=g.cell 0
 have a1:=g.cell 1
 have a2:=g.cell 2
 obtain⟨ax,ad,ag,-⟩:=frz g
 go_loop [36] (fun i=> ∃k:Nat,k≤m∧i= .int .i64 k) (fun i=>3- (intOf i).toNat)
 case atStart=>exact⟨0,Nat.zero_le _,rfl⟩
 case round=>
  obtain⟨k,X,rfl⟩:=hrel
  by_cases r:k<3
  ·have an:=G.cell_some (symS_cell k r)
   cases a:P k
   ·have ac:k<m:=by
     rcases Nat.lt_or_ge k m with h|h
     ·exact h
     ·exfalso
      obtain rfl:k=m:=by omega
      rw[f r]at a
      cases a
    have q:Hid (P k=false):=a
    clear a f n
    go_wp2_with (go_at_call 169;refine(Q k _).mono ?_;rintro t l ⟨rfl,rfl⟩;rw[q.out])
    go_round
    case rel=>exact⟨k+1,by omega,by go_num⟩
    case measure=>simp[intOf];omega
   ·have q:Hid (P k=true):=a
    obtain⟨o,h2⟩:=z k r a
    have E:Hid (tokL s.data.toList= .tok 5 (iC k) 2):=by
     unfold Hid
     rw[K.out,p.out,o,if_neg (by decide),h2]
    clear a f n o h2
    go_wp2_with (go_at_call 169;refine(Q k _).mono ?_;rintro t l ⟨rfl,rfl⟩;rw[q.out])
    have u:(l.setCell ⟨w.heap.size,0,none⟩ (.int .i64 5)).cell? ⟨w.heap.size,0,none⟩=some (.int .i64 5):=(g.set 0 _).cell 0
    have C:((l.setCell ⟨w.heap.size,0,none⟩ (.int .i64 5)).setCell ⟨w.heap.size,1,none⟩ (.string (symS k))).cell? ⟨w.heap.size,1,none⟩=some (.string (symS k)):=((g.set 0 _).set 1 _).cell 1
    have B:(((l.setCell ⟨w.heap.size,0,none⟩ (.int .i64 5)).setCell ⟨w.heap.size,1,none⟩ (.string (symS k))).setCell ⟨w.heap.size,2,none⟩ (.int .i64 0)).cell? ⟨w.heap.size,2,none⟩=some (.int .i64 0):=(((g.set 0 _).set 1 _).set 2 _).cell 2
    exact bodyPost_ret (v:= .tuple #[.agg #[.int .i64 5,.string (symS k),.int .i64 0],.int .i64 (2),.int .i64 (0)]) (by simp[results,Tryz.results97,go_sem,u,C,B]) rfl ⟨by rw[E.out];rfl,((J.setCell (Nat.le_refl _) _).setCell (Nat.le_refl _) _).setCell (Nat.le_refl _) _⟩
  ·obtain rfl:k=3:=by omega
   obtain rfl:m=3:=by omega
   have D:Hid (SN=if s[0]∈eg then 1 else 0):=A F
   clear f n
   by_cases j:s[0]∈eg
   ·have H:0≤Lib.indexByte eg s[0]:=b.2 j
    have E:Hid (tokL s.data.toList= .tok 5 (s.data.toList.take 1) 1):=by
     unfold Hid
     have o:=D.out
     rw[if_pos j]at o
     rw[K.out,p.out,o,if_neg (by decide)]
    clear j b
    generalize Lib.indexByte eg s[0]=I at*
    go_wp2_with (go_at_call 170;refine(Z _).mono ?_;rintro t l ⟨rfl,rfl⟩)
    have u:(l.setCell ⟨w.heap.size,0,none⟩ (.int .i64 5)).cell? ⟨w.heap.size,0,none⟩=some (.int .i64 5):=(g.set 0 _).cell 0
    have C:((l.setCell ⟨w.heap.size,0,none⟩ (.int .i64 5)).setCell ⟨w.heap.size,1,none⟩ (.string (s.extract 0 1))).cell? ⟨w.heap.size,1,none⟩=some (.string (s.extract 0 1)):=((g.set 0 _).set 1 _).cell 1
    have B:(((l.setCell ⟨w.heap.size,0,none⟩ (.int .i64 5)).setCell ⟨w.heap.size,1,none⟩ (.string (s.extract 0 1))).setCell ⟨w.heap.size,2,none⟩ (.int .i64 0)).cell? ⟨w.heap.size,2,none⟩=some (.int .i64 0):=(((g.set 0 _).set 1 _).set 2 _).cell 2
    exact bodyPost_ret (v:= .tuple #[.agg #[.int .i64 5,.string (s.extract 0 1),.int .i64 0],.int .i64 (1),.int .i64 (0)]) (by simp[results,Tryz.results97,go_sem,u,C,B]) rfl ⟨by rw[E.out,HF.out];rfl,((J.setCell (Nat.le_refl _) _).setCell (Nat.le_refl _) _).setCell (Nat.le_refl _) _⟩
   ·have H:¬0≤Lib.indexByte eg s[0]:=fun h=>j (b.1 h)
    have E:Hid (tokL s.data.toList= .bad 2):=by
     unfold Hid
     have o:=D.out
     rw[if_neg j]at o
     rw[K.out,p.out,o,if_pos rfl]
    clear j b
    generalize Lib.indexByte eg s[0]=I at*
    go_wp2_with (go_at_call 170;refine(Z _).mono ?_;rintro t l ⟨rfl,rfl⟩)
    have u:(l.setCell ⟨w.heap.size,0,none⟩ (.int .i64 0)).cell? ⟨w.heap.size,0,none⟩=some (.int .i64 0):=(g.set 0 _).cell 0
    have C:((l.setCell ⟨w.heap.size,0,none⟩ (.int .i64 0)).setCell ⟨w.heap.size,1,none⟩ (.string ⟨#[]⟩)).cell? ⟨w.heap.size,1,none⟩=some (.string ⟨#[]⟩):=((g.set 0 _).set 1 _).cell 1
    have B:(((l.setCell ⟨w.heap.size,0,none⟩ (.int .i64 0)).setCell ⟨w.heap.size,1,none⟩ (.string ⟨#[]⟩)).setCell ⟨w.heap.size,2,none⟩ (.int .i64 0)).cell? ⟨w.heap.size,2,none⟩=some (.int .i64 0):=(((g.set 0 _).set 1 _).set 2 _).cell 2
    exact bodyPost_ret (v:= .tuple #[.agg #[.int .i64 0,.string ⟨#[]⟩,.int .i64 0],.int .i64 (0),.int .i64 (2)]) (by simp[results,Tryz.results97,go_sem,u,C,B]) rfl ⟨by rw[E.out];rfl,((J.setCell (Nat.le_refl _) _).setCell (Nat.le_refl _) _).setCell (Nat.le_refl _) _⟩
theorem token_any (s:ByteArray) (w:World) (hs:s.size≤20000) (a:0<s.size) (g:KwAt w):Calls Tryz.prog 97 #[.string s] w fun e w'=>e= .returned (TRes (tokL s.data.toList))∧Ext w w':=by
 cases b:isLetter s[0]
 ·cases hd:isDigit s[0]
  ·by_cases f:s[0].toNat=39
   ·exact nD s w hs a f
   ·exact kZ s w hs a b hd f
  ·exact lU s w hs a b hd
 ·exact kY s w hs a g b
end Lx
end Go.Proofs.YtjigcpfjhfoheaaGreatDoor
