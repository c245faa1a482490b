/- Walks over the lexer: white space and comments, the program's and the reference's; Walks over the lexer: words and numbers; Walks over the lexer's reference: symbols; Walks over the lexer: one token; Tokens: their cells, slices of. -/
import Derived.Test.YtjigcpfjhfoheaaGreatDoorRab
import Derived.RegionTactic
namespace Go.Proofs.YtjigcpfjhfoheaaGreatDoor
open Go.RowKit
set_option maxHeartbeats 2000000
set_option maxRecDepth 100000
set_option linter.unusedVariables false
set_option linter.unusedSimpArgs false
namespace Lx
theorem jC (s:ByteArray) (k:Nat):(s.extract k s.size).data.toList=s.data.toList.drop k:=by
 rw[Lib.extract_data]
 rw[List.take_of_length_le]
 rw[List.length_drop,eH]
 exact Nat.le_refl _
theorem kX:∀l:List UInt8,(Lib.indexByte l 10= -1→skipN true l=l.length)∧∀i:Nat,Lib.indexByte l 10=(i:Int)→i<l.length∧skipN true l=i+skipN false (l.drop i)
 | []=>by
  constructor
  ·intro _;rfl
  ·intro i h
   unfold Lib.indexByte at h
   omega
 |b::l=>by
  have m:=kX l
  have p:=Lib.indexByte_ge l 10
  rw[Lib.indexByte]
  by_cases a:b=10
  ·subst a
   constructor
   ·intro h;simp at h
   ·intro i h
    simp at h
    obtain rfl:i=0:=by omega
    refine⟨by simp,?_⟩
    rw[List.drop_zero,skipN,if_pos (by decide),skipN,if_pos (.inr (.inr (by decide)))]
    omega
  ·have e:(b==10)=false:=by simpa using a
   have f:¬b.toNat=10:=fun h=>a (num_ext b 10 h)
   rw[e]
   simp only[Bool.false_eq_true,if_false]
   rw[skipN,if_neg f]
   by_cases g:Lib.indexByte l 10= -1
   ·have k:=m.1 g
    rw[g,k]
    constructor
    ·intro _;rw[List.length_cons]
    ·intro i h;simp at h;try omega
   ·have n:(Lib.indexByte l 10== -1)=false:=by simpa using g
    rw[n]
    simp only[Bool.false_eq_true,if_false]
    constructor
    ·intro h;omega
    ·intro i h
     obtain⟨j,rfl⟩:∃j,i=j+1:=⟨i-1,by omega⟩
     obtain⟨k,o⟩:=m.2 j (by omega)
     rw[List.length_cons,List.drop_succ_cons,o]
     omega
theorem dash_skip (r:List UInt8) (h:r.head? =some 45):skipN false (45::r)=skipN true (45::r):=by
 have a:skipN true (45::r)=skipN true r+1:=by rw[skipN];rfl
 rw[a,skipN.eq_def]
 simp only
 rw[if_neg (by decide),if_pos ⟨by decide,h⟩]
theorem qp (c:UInt8) (r:List UInt8) (a:¬(c.toNat=32∨c.toNat=9∨c.toNat=10)) (b:¬(c.toNat=45∧r.head? =some 45)):skipN false (c::r)=0:=by
 rw[skipN,if_neg a,if_neg b]
theorem qq (c:UInt8) (r:List UInt8) (a:c.toNat=32∨c.toNat=9∨c.toNat=10):skipN false (c::r)=skipN false r+1:=by
 rw[skipN,if_pos a]
theorem oV (c:UInt8) (r:List UInt8): [45,45].isPrefixOf (c::r)=decide (c.toNat=45∧r.head? =some 45):=by
 rw[Bool.eq_iff_iff,decide_eq_true_eq]
 cases r with
 |nil=>simp[List.isPrefixOf]
 |cons d q=>
  simp only[List.isPrefixOf,Bool.and_true,Bool.and_eq_true,beq_iff_eq,List.head?_cons,Option.some.injEq]
  constructor
  ·rintro⟨a,b⟩;exact⟨by rw[←a];rfl,b.symm⟩
  ·rintro⟨a,b⟩;exact⟨(num_ext c 45 a).symm,b.symm⟩
theorem skip_any (s:ByteArray) (a:Nat) (w:World) (hs:s.size≤20000) (K:a≤s.size):Calls Tryz.prog 96 #[.string s,.int .i64 a] w fun e w'=>e= .returned (.int .i64 ((a+skipN false (s.data.toList.drop a):Nat):Int))∧w'=w:=by
 generalize H:a+skipN false (s.data.toList.drop a)=V
 have n:=hid H
 clear H
 go_enter Tryz.func96,Tryz.ntmps96
 go_wp2_with fail
 go_loop [1] (fun i=> ∃k:Nat,k≤s.size∧i= .int .i64 k∧k+skipN false (s.data.toList.drop k)=V) (fun i=>s.size- (intOf i).toNat)
 case atStart=>exact⟨a,K,rfl,n⟩
 case round=>
  obtain⟨k,P,rfl,I⟩:=hrel
  have n:=hid I
  clear I
  by_cases p:k<s.size
  ·have u:=hid (eG s k p)
   by_cases g:s[k].toNat=32∨s[k].toNat=9∨s[k].toNat=10
   ·have b:Hid (k+1+skipN false (s.data.toList.drop (k+1))=V):=by
     have h:=n.out
     rw[u.out,qq _ _ g]at h
     unfold Hid
     omega
    clear n u
    rcases g with h|h|h
    ·have C:((s[k].toNat:Int)==32)=true:=by rw[h];rfl
     clear h
     go_wp2_with fail
     go_round
     case rel=>exact⟨k+1,by omega,by go_num,b⟩
     case measure=>simp[intOf];omega
    ·have C:((s[k].toNat:Int)==32)=false:=by rw[h];rfl
     have F:((s[k].toNat:Int)==9)=true:=by rw[h];rfl
     clear h
     go_wp2_with fail
     go_round
     case rel=>exact⟨k+1,by omega,by go_num,b⟩
     case measure=>simp[intOf];omega
    ·have C:((s[k].toNat:Int)==32)=false:=by rw[h];rfl
     have F:((s[k].toNat:Int)==9)=false:=by rw[h];rfl
     have J:((s[k].toNat:Int)==10)=true:=by rw[h];rfl
     clear h
     go_wp2_with fail
     go_round
     case rel=>exact⟨k+1,by omega,by go_num,b⟩
     case measure=>simp[intOf];omega
   ·have C:((s[k].toNat:Int)==32)=false:=by rw[beq_eq_false_iff_ne];omega
    have F:((s[k].toNat:Int)==9)=false:=by rw[beq_eq_false_iff_ne];omega
    have J:((s[k].toNat:Int)==10)=false:=by rw[beq_eq_false_iff_ne];omega
    have B:Hid (¬(s[k].toNat=32∨s[k].toNat=9∨s[k].toNat=10)):=g
    clear g
    have l:Lib.hasPrefix (s.extract k s.size).data.toList (ByteArray.mk #[45,45]).data.toList=decide (s[k].toNat=45∧(s.data.toList.drop (k+1)).head? =some 45):=by
     rw[jC,eG s k p]
     exact oV _ _
    have r:Hid (∀W,Calls Tryz.prog 169 #[.string (s.extract k s.size),.string ⟨#[45,45]⟩] W fun e w'=>e= .returned (.bool (decide (s[k].toNat=45∧(s.data.toList.drop (k+1)).head? =some 45)))∧w'=W):=by
     intro W
     rw[←l]
     exact Tryz.strings_HasPrefix (s.extract k s.size) ⟨#[45,45]⟩ W
    clear l
    by_cases f:s[k].toNat=45∧(s.data.toList.drop (k+1)).head? =some 45
    ·rw[decide_eq_true f]at r
     have E:((10:Int)).toNat.toUInt8=10:=rfl
     have x:Hid (∀W,Calls Tryz.prog 170 #[.string (s.extract k s.size),.int .u8 10] W fun e w'=>e= .returned (.int .i64 (Lib.indexByte (s.data.toList.drop k) 10))∧w'=W):=by
      intro W
      have:=Tryz.strings_IndexByte (s.extract k s.size) 10 W
      rw[jC,E]at this
      exact this
     have A:Hid (k+skipN true (s.data.toList.drop k)=V):=by
      have h:=n.out
      rw[u.out]at h ⊢
      rw[num_ext s[k] 45 f.1]at h ⊢
      rw[dash_skip _ f.2]at h
      exact h
     have o:(s.data.toList.drop k).length=s.size-k:=by rw[List.length_drop,eH]
     have t:=Lib.indexByte_ge (s.data.toList.drop k) 10
     by_cases y:Lib.indexByte (s.data.toList.drop k) 10= -1
     ·have b:Hid ((V:Int)=s.size):=by
       have D:=(kX _).1 y
       have h:=A.out
       rw[D]at h
       unfold Hid
       omega
      rw[y]at x
      clear f t o y
      go_wp2_with (first|(go_at_call 169;refine(r _).mono ?_;rintro e z ⟨rfl,rfl⟩)|(go_at_call 170;refine(x _).mono ?_;rintro e z ⟨rfl,rfl⟩))
      go_ret
      exact⟨aS b.symm,rfl⟩
     ·obtain⟨m,j⟩:∃m:Nat,Lib.indexByte (s.data.toList.drop k) 10=m:=⟨(Lib.indexByte (s.data.toList.drop k) 10).toNat,by omega⟩
      obtain⟨D,G⟩:=(kX _).2 m j
      have b:Hid (k+m+skipN false (s.data.toList.drop (k+m))=V):=by
       have h:=A.out
       rw[G,List.drop_drop]at h
       unfold Hid
       omega
      have O:0<m:=by
       rcases Nat.eq_zero_or_pos m with h0|h0
       ·exfalso
        subst h0
        rw[eG s k p,Lib.indexByte]at j
        rw[num_ext s[k] 45 f.1]at j
        have:((45:UInt8)==10)=false:=rfl
        rw[this]at j
        simp only[Bool.false_eq_true,if_false]at j
        have L:=Lib.indexByte_ge (s.data.toList.drop (k+1)) 10
        split at j
        ·omega
        ·rename_i hx
         have:Lib.indexByte (s.data.toList.drop (k+1)) 10≠ -1:=fun e=>hx (by rw[e];rfl)
         omega
       ·exact h0
      rw[o]at D
      rw[j]at x
      clear f t o y G j A
      go_wp2_with (first|(go_at_call 169;refine(r _).mono ?_;rintro e z ⟨rfl,rfl⟩)|(go_at_call 170;refine(x _).mono ?_;rintro e z ⟨rfl,rfl⟩))
      go_round
      case rel=>exact⟨k+m,by omega,by go_num,b⟩
      case measure=>simp[intOf];omega
    ·rw[decide_eq_false f]at r
     have b:Hid (k=V):=by
      have h:=n.out
      rw[u.out,qp _ _ B.out f]at h
      exact h
     clear f
     go_wp2_with (go_at_call 169;refine(r _).mono ?_;rintro e z ⟨rfl,rfl⟩)
     go_ret
     exact⟨aS (by rw[b.out]),rfl⟩
  ·go_wp2_with fail
   go_ret
   obtain rfl:k=s.size:=by omega
   have h:=n.out
   rw[List.drop_of_length_le (Nat.le_of_eq (eH s))]at h
   exact⟨aS (by rw[←h];rfl),rfl⟩
end Lx
namespace Lx
theorem dr (s:ByteArray) (k:Nat):(s.extract 0 k).data.toList=s.data.toList.take k:=by
 rw[Lib.extract_data,List.drop_zero,Nat.sub_zero]
theorem qr (s:ByteArray) (a k:Nat):(s.extract a k).size≤s.size:=by
 rw[ByteArray.size_extract];omega
theorem word_any (s:ByteArray) (w:World) (hs:s.size≤20000) (H:KwAt w):Calls Tryz.prog 172 #[.string s] w fun e w'=>e= .returned (TRes (wordL s.data.toList))∧Ext w w':=by
 have I:spanN inWord s.data.toList≤s.size:=span_le inWord s.data.toList
 have C:=hid (fun W=>span_word s W (by unfold maxLen;omega))
 have D:Hid (wordL s.data.toList=if isKw (s.data.toList.take (spanN inWord s.data.toList))=true then .tok 2 ((s.data.toList.take (spanN inWord s.data.toList)).map upC) (spanN inWord s.data.toList)
   else if 24<spanN inWord s.data.toList then .bad 3
   else .tok 1 ((s.data.toList.take (spanN inWord s.data.toList)).map loC) (spanN inWord s.data.toList)):=rfl
 generalize spanN inWord s.data.toList=n at*
 have h:(s.extract 0 n).size≤20000:=Nat.le_trans (qr s 0 n) hs
 have F:Hid (∀W,Calls Tryz.prog 230 #[.string (s.extract 0 n)] W fun e w'=>e= .returned (.string ⟨((s.data.toList.take n).map upC).toArray⟩)∧Ext W w'):=by
  intro W
  have:=mP (s.extract 0 n) W h
  rw[dr]at this
  exact this
 have E:Hid (∀W,Calls Tryz.prog 231 #[.string (s.extract 0 n)] W fun e w'=>e= .returned (.string ⟨((s.data.toList.take n).map loC).toArray⟩)∧Ext W w'):=by
  intro W
  have:=lower_any (s.extract 0 n) W h
  rw[dr]at this
  exact this
 have B:Hid (∀W,Ext w W→Calls Tryz.prog 229 #[.string (s.extract 0 n)] W fun e w'=>e= .returned (.bool (isKw (s.data.toList.take n)))∧Ext W w'):=by
  intro W G
  have:=keyword_any (s.extract 0 n) W h (H.ext G)
  rw[dr]at this
  exact this
 have j:=hid (Blk.of_new w 70 [.int .i64 0,.string ⟨#[]⟩,.int .i64 0])
 clear h
 cases f:isKw (s.data.toList.take n)
 ·by_cases m:24<n
  ·have l:Hid (wordL s.data.toList= .bad 3):=by unfold Hid;rw[D.out,f,if_neg (by decide),if_pos m]
   go_enter Tryz.func172,Tryz.ntmps172
   go_wp2_with (first|(go_at_call 227;refine(C _).mono ?_;rintro e i ⟨rfl,rfl⟩)|(go_at_call 229;refine(B _ ((Ext.refl w).alloc _)).mono ?_;rintro e i ⟨rfl,b⟩;rw[f];have a:=hid (j.ext b);have o:=a.cell 0;have p:=a.cell 1;have r:=a.cell 2;obtain⟨t,u,x,-⟩:=frz a))
   have y:(i.setCell ⟨w.heap.size,0,none⟩ (.int .i64 0)).cell? ⟨w.heap.size,0,none⟩=some (.int .i64 0):=(a.set 0 _).cell 0
   have z:((i.setCell ⟨w.heap.size,0,none⟩ (.int .i64 0)).setCell ⟨w.heap.size,1,none⟩ (.string ⟨#[]⟩)).cell? ⟨w.heap.size,1,none⟩=some (.string ⟨#[]⟩):=((a.set 0 _).set 1 _).cell 1
   have A:(((i.setCell ⟨w.heap.size,0,none⟩ (.int .i64 0)).setCell ⟨w.heap.size,1,none⟩ (.string ⟨#[]⟩)).setCell ⟨w.heap.size,2,none⟩ (.int .i64 0)).cell? ⟨w.heap.size,2,none⟩=some (.int .i64 0):=(((a.set 0 _).set 1 _).set 2 _).cell 2
   exact bodyPost_ret (v:= .tuple #[.agg #[.int .i64 0,.string ⟨#[]⟩,.int .i64 0],.int .i64 (0),.int .i64 (3)]) (by simp[results,Tryz.results172,go_sem,y,z,A]) rfl ⟨by rw[l.out];rfl,(((((Ext.refl w).alloc _).trans b).setCell (Nat.le_refl _) _).setCell (Nat.le_refl _) _).setCell (Nat.le_refl _) _⟩
  ·have l:Hid (wordL s.data.toList= .tok 1 ((s.data.toList.take n).map loC) n):=by unfold Hid;rw[D.out,f,if_neg (by decide),if_neg m]
   generalize (s.data.toList.take n).map loC=L at*
   go_enter Tryz.func172,Tryz.ntmps172
   go_wp2_with (first|(go_at_call 227;refine(C _).mono ?_;rintro e i ⟨rfl,rfl⟩)|(go_at_call 229;refine(B _ ((Ext.refl w).alloc _)).mono ?_;rintro e i ⟨rfl,b⟩;rw[f])|(go_at_call 231;refine(E _).mono ?_;rintro e k ⟨rfl,g⟩;have a:=hid ((j.ext b).ext g);have o:=a.cell 0;have p:=a.cell 1;have r:=a.cell 2;obtain⟨t,u,x,-⟩:=frz a))
   have y:(k.setCell ⟨w.heap.size,0,none⟩ (.int .i64 1)).cell? ⟨w.heap.size,0,none⟩=some (.int .i64 1):=(a.set 0 _).cell 0
   have z:((k.setCell ⟨w.heap.size,0,none⟩ (.int .i64 1)).setCell ⟨w.heap.size,1,none⟩ (.string ⟨L.toArray⟩)).cell? ⟨w.heap.size,1,none⟩=some (.string ⟨L.toArray⟩):=((a.set 0 _).set 1 _).cell 1
   have A:(((k.setCell ⟨w.heap.size,0,none⟩ (.int .i64 1)).setCell ⟨w.heap.size,1,none⟩ (.string ⟨L.toArray⟩)).setCell ⟨w.heap.size,2,none⟩ (.int .i64 0)).cell? ⟨w.heap.size,2,none⟩=some (.int .i64 0):=(((a.set 0 _).set 1 _).set 2 _).cell 2
   exact bodyPost_ret (v:= .tuple #[.agg #[.int .i64 1,.string ⟨L.toArray⟩,.int .i64 0],.int .i64 (n),.int .i64 (0)]) (by simp[results,Tryz.results172,go_sem,y,z,A]) rfl ⟨by rw[l.out];rfl,((((((Ext.refl w).alloc _).trans b).trans g).setCell (Nat.le_refl _) _).setCell (Nat.le_refl _) _).setCell (Nat.le_refl _) _⟩
 ·have l:Hid (wordL s.data.toList= .tok 2 ((s.data.toList.take n).map upC) n):=by unfold Hid;rw[D.out,f,if_pos rfl]
  generalize (s.data.toList.take n).map upC=L at*
  go_enter Tryz.func172,Tryz.ntmps172
  go_wp2_with (first|(go_at_call 227;refine(C _).mono ?_;rintro e i ⟨rfl,rfl⟩)|(go_at_call 229;refine(B _ ((Ext.refl w).alloc _)).mono ?_;rintro e i ⟨rfl,b⟩;rw[f])|(go_at_call 230;refine(F _).mono ?_;rintro e k ⟨rfl,g⟩;have a:=hid ((j.ext b).ext g);have o:=a.cell 0;have p:=a.cell 1;have r:=a.cell 2;obtain⟨t,u,x,-⟩:=frz a))
  have y:(k.setCell ⟨w.heap.size,0,none⟩ (.int .i64 2)).cell? ⟨w.heap.size,0,none⟩=some (.int .i64 2):=(a.set 0 _).cell 0
  have z:((k.setCell ⟨w.heap.size,0,none⟩ (.int .i64 2)).setCell ⟨w.heap.size,1,none⟩ (.string ⟨L.toArray⟩)).cell? ⟨w.heap.size,1,none⟩=some (.string ⟨L.toArray⟩):=((a.set 0 _).set 1 _).cell 1
  have A:(((k.setCell ⟨w.heap.size,0,none⟩ (.int .i64 2)).setCell ⟨w.heap.size,1,none⟩ (.string ⟨L.toArray⟩)).setCell ⟨w.heap.size,2,none⟩ (.int .i64 0)).cell? ⟨w.heap.size,2,none⟩=some (.int .i64 0):=(((a.set 0 _).set 1 _).set 2 _).cell 2
  exact bodyPost_ret (v:= .tuple #[.agg #[.int .i64 2,.string ⟨L.toArray⟩,.int .i64 0],.int .i64 (n),.int .i64 (0)]) (by simp[results,Tryz.results172,go_sem,y,z,A]) rfl ⟨by rw[l.out];rfl,((((((Ext.refl w).alloc _).trans b).trans g).setCell (Nat.le_refl _) _).setCell (Nat.le_refl _) _).setCell (Nat.le_refl _) _⟩
theorem dv_snoc (l:List UInt8) (c:UInt8):digVal (l++ [c])=10*digVal l+(c.toNat-48):=by
 unfold digVal
 rw[List.foldl_append]
 rfl
theorem dv_mono (a b:List UInt8):digVal a≤digVal (a++b):=by
 have:digVal (a++b)=digVal a*10^b.length+digVal b:=by
  rw[←dv_from]
  unfold digVal
  rw[List.foldl_append]
 rw[this]
 have e:digVal a*1≤digVal a*10^b.length:=Nat.mul_le_mul_left _ (Nat.pow_pos (by decide))
 omega
theorem dv_take (l:List UInt8) (i j:Nat) (h:i≤j):digVal (l.take i)≤digVal (l.take j):=by
 have:l.take j=l.take i++(l.take j).drop i:=by
  conv=>lhs;rw[←List.take_append_drop i (l.take j)]
  rw[List.take_take,Nat.min_eq_left h]
 rw[this]
 exact dv_mono _ _
theorem headW_at (s:ByteArray) (n:Nat):headW (s.data.toList.drop n)=if h:n<s.size then inWord s[n]else false:=by
 split
 ·rename_i h
  rw[eG s n h];rfl
 ·rw[List.drop_of_length_le (by rw[eH];omega)];rfl
theorem number_any (s:ByteArray) (w:World) (hs:s.size≤20000) (h0:0<s.size):Calls Tryz.prog 174 #[.string s] w fun e w'=>e= .returned (TRes (numL s.data.toList))∧Ext w w':=by
 have a1:spanN isDigit s.data.toList≤s.size:=span_le isDigit s.data.toList
 have U:=hid (fun W=>qn s W (by unfold maxLen;omega))
 have O:=hid (span_all isDigit s.data.toList)
 have Q:Hid (numL s.data.toList=if (1<spanN isDigit s.data.toList∧s.data.toList.head? =some 48)∨headW (s.data.toList.drop (spanN isDigit s.data.toList))=true then .bad 2
   else if 2147483648<digVal (s.data.toList.take (spanN isDigit s.data.toList))then .bad 3
   else .tok 3 (s.data.toList.take (spanN isDigit s.data.toList)) (spanN isDigit s.data.toList)):=rfl
 have HH:Hid (s.data.toList.head? =some s[0]):=by unfold Hid;rw[fb s h0];rfl
 generalize spanN isDigit s.data.toList=n at*
 have HW:=hid (headW_at s n)
 have a:=hid (Blk.of_new w 70 [.int .i64 0,.string ⟨#[]⟩,.int .i64 0])
 have j:=a.cell 0
 have l:=a.cell 1
 have m:=a.cell 2
 obtain⟨F,G,H,-⟩:=frz a
 by_cases z:1<n∧s[0].toNat=48
 ·have A:Hid (numL s.data.toList= .bad 2):=by unfold Hid;rw[Q.out,if_pos (.inl ⟨z.1,by rw[HH.out,num_ext s[0] 48 z.2]⟩)]
  have b1:((s[0].toNat:Int)==48)=true:=by rw[z.2];rfl
  obtain⟨a3,_⟩:=z
  go_enter Tryz.func174,Tryz.ntmps174
  go_wp2_with (go_at_call 227;refine(U _).mono ?_;rintro e K ⟨rfl,rfl⟩)
  exact bodyPost_ret (v:= .tuple #[.agg #[.int .i64 0,.string ⟨#[]⟩,.int .i64 0],.int .i64 0,.int .i64 2]) (by simp[results,Tryz.results174,go_sem,j,l,m]) rfl ⟨by rw[A.out];rfl,(Ext.refl w).alloc _⟩
 ·have HZ:Hid (¬(1<n∧s.data.toList.head? =some 48)):=by
   unfold Hid
   rw[HH.out]
   rintro⟨C,Z⟩
   injection Z with Z
   exact z ⟨C,by rw[Z];rfl⟩
  have b:n≤1∨(1<n∧((s[0].toNat:Int)==48)=false):=by
   rcases Nat.lt_or_ge 1 n with h|h
   ·right;exact⟨h,by rw[beq_eq_false_iff_ne];intro e;exact z ⟨h,by omega⟩⟩
   ·left;omega
  clear z
  by_cases x:∃h:n<s.size,inWord s[n]=true
  ·obtain⟨hn,x⟩:=x
   have A:Hid (numL s.data.toList= .bad 2):=by unfold Hid;rw[Q.out,if_pos (.inr (by rw[HW.out,dif_pos hn];exact x))]
   have HI:=hid (fun W=>fo s[n] W)
   rw[x]at HI
   rcases b with C|⟨C,b1⟩
   all_goals
    go_enter Tryz.func174,Tryz.ntmps174
    go_wp2_with (first|(go_at_call 227;refine(U _).mono ?_;rintro e K ⟨rfl,rfl⟩)|(go_at_call 228;refine(HI _).mono ?_;rintro e K ⟨rfl,rfl⟩))
    exact bodyPost_ret (v:= .tuple #[.agg #[.int .i64 0,.string ⟨#[]⟩,.int .i64 0],.int .i64 0,.int .i64 2]) (by simp[results,Tryz.results174,go_sem,j,l,m]) rfl ⟨by rw[A.out];rfl,(Ext.refl w).alloc _⟩
  ·have HF:Hid (headW (s.data.toList.drop n)=false):=by
    unfold Hid
    rw[HW.out]
    split
    ·rename_i h
     cases J:inWord s[n]
     ·rfl
     ·exact absurd ⟨h,J⟩ x
    ·rfl
   have A:Hid (numL s.data.toList=if 2147483648<digVal (s.data.toList.take n)then .bad 3 else .tok 3 (s.data.toList.take n) n):=by
    unfold Hid
    rw[Q.out,if_neg]
    rintro(h|h)
    ·exact HZ h
    ·rw[HF.out]at h;cases h
   have o:(∃h:n<s.size,∀W,Calls Tryz.prog 228 #[.int .u8 s[n].toNat] W fun e w'=>e= .returned (.bool false)∧w'=W)∨¬n<s.size:=by
    rcases Nat.lt_or_ge n s.size with h|h
    ·left
     refine⟨h,fun W=>?_⟩
     have:=fo s[n] W
     cases J:inWord s[n]
     ·rw[J]at this;exact this
     ·exact absurd ⟨h,J⟩ x
    ·right;omega
   clear x
   have u:(s.extract 0 n).size=n:=by rw[ByteArray.size_extract];omega
   have ag:=hid u
   obtain⟨an,B,rest,t,y,ac,r⟩:=kU (P:=Tryz.prog) (w.alloc (.cells #[.int .i64 0,.string ⟨#[]⟩,.int .i64 0] 70)) 9 60 5 (s.extract 0 n) Tryz.underlying9 Tryz.underlying60 Tryz.underlying5
   rw[u]at t
   rw[dr]at r
   have g:=hid (a.ext y)
   have HX:=hid (((Ext.refl w).alloc (.cells #[.int .i64 0,.string ⟨#[]⟩,.int .i64 0] 70)).trans y)
   have L:=hid r
   simp only[World.size_alloc]at t
   have X:Hid ((w.alloc (.cells #[.int .i64 0,.string ⟨#[]⟩,.int .i64 0] 70)).heap.size=w.heap.size+1):=by unfold Hid;rw[World.size_alloc]
   clear r ac y u j l m F G H
   rcases b with C|⟨C,b1⟩
   all_goals
    rcases o with ⟨hn,hI⟩|hn
    all_goals
     go_enter Tryz.func174,Tryz.ntmps174
     go_wp2_with (first|(go_at_call 227;refine(U _).mono ?_;rintro e K ⟨rfl,rfl⟩)|(go_at_call 228;refine(hI _).mono ?_;rintro e K ⟨rfl,rfl⟩))
     have j:=g.cell 0
     have l:=g.cell 1
     have m:=g.cell 2
     obtain⟨F,G,H,-⟩:=frz g
     clear t
     go_loop [6,36] (fun v i=> ∃(k V:Nat),k≤n∧i= .int .i64 k∧v= .int .i64 V∧V=digVal (s.data.toList.take k)∧V≤2147483648) (fun _ i=>n- (intOf i).toNat)
     case atStart=>exact⟨0,0,Nat.zero_le _,rfl,rfl,rfl,Nat.zero_le _⟩
     case round=>
      obtain⟨k,V,hk,rfl,rfl,hv,hV⟩:=hrel
      have HV:=hid hv
      clear hv
      by_cases a2:k<n
      ·have p:k<s.size:=by omega
       have f:k<(s.data.toList.take n).length:=by rw[List.length_take,eH];omega
       have D:=L.cell (kB _ rest k f)
       rw[List.getElem_take]at D
       have I:(s.data.toList[k]'p)=s[k]:=rfl
       rw[I,X.out]at D
       have E:isDigit s[k]=true:=O s[k] (by
        have:=List.getElem_mem f
        rw[List.getElem_take]at this
        exact this)
       have hd:48≤s[k].toNat∧s[k].toNat≤57:=by unfold isDigit at E;grind
       obtain⟨ax,a0⟩:=hd
       clear E I f
       have HT:Hid (digVal (s.data.toList.take (k+1))=10*V+(s[k].toNat-48)):=by
        unfold Hid
        rw[take1 s k p,dv_snoc,←HV.out]
       by_cases ad:2147483648<10*V+(s[k].toNat-48)
       ·have R:Hid (numL s.data.toList= .bad 3):=by
         unfold Hid
         rw[A.out,if_pos]
         have:=dv_take s.data.toList (k+1) n (by omega)
         rw[HT.out]at this
         omega
        go_wp2_with fail
        have s0:(B.setCell ⟨w.heap.size,0,none⟩ (.int .i64 0)).cell? ⟨w.heap.size,0,none⟩=some (.int .i64 0):=(g.set 0 _).cell 0
        have s1:((B.setCell ⟨w.heap.size,0,none⟩ (.int .i64 0)).setCell ⟨w.heap.size,1,none⟩ (.string ⟨#[]⟩)).cell? ⟨w.heap.size,1,none⟩=some (.string ⟨#[]⟩):=((g.set 0 _).set 1 _).cell 1
        have s2:(((B.setCell ⟨w.heap.size,0,none⟩ (.int .i64 0)).setCell ⟨w.heap.size,1,none⟩ (.string ⟨#[]⟩)).setCell ⟨w.heap.size,2,none⟩ (.int .i64 0)).cell? ⟨w.heap.size,2,none⟩=some (.int .i64 0):=(((g.set 0 _).set 1 _).set 2 _).cell 2
        exact bodyPost_ret (v:= .tuple #[.agg #[.int .i64 0,.string ⟨#[]⟩,.int .i64 0],.int .i64 (0),.int .i64 (3)]) (by simp[results,Tryz.results174,go_sem,s0,s1,s2]) rfl ⟨by rw[R.out];rfl,((HX.setCell (Nat.le_refl _) _).setCell (Nat.le_refl _) _).setCell (Nat.le_refl _) _⟩
       ·go_wp2_with fail
        go_round
        case rel=>exact⟨k+1,10*V+(s[k].toNat-48),by omega,by go_num,by go_num,HT.symm,by omega⟩
        case measure=>simp[intOf];omega
      ·obtain rfl:k=n:=by omega
       have R:Hid (numL s.data.toList= .tok 3 (s.data.toList.take k) k):=by
        unfold Hid
        rw[A.out,if_neg]
        rw[←HV.out]
        omega
       have Y:Hid (s.extract 0 k=⟨(s.data.toList.take k).toArray⟩):=by_list (by rw[dr])
       go_wp2_with fail
       have s0:(B.setCell ⟨w.heap.size,0,none⟩ (.int .i64 3)).cell? ⟨w.heap.size,0,none⟩=some (.int .i64 3):=(g.set 0 _).cell 0
       have s1:((B.setCell ⟨w.heap.size,0,none⟩ (.int .i64 3)).setCell ⟨w.heap.size,1,none⟩ (.string (s.extract 0 k))).cell? ⟨w.heap.size,1,none⟩=some (.string (s.extract 0 k)):=((g.set 0 _).set 1 _).cell 1
       have s2:(((B.setCell ⟨w.heap.size,0,none⟩ (.int .i64 3)).setCell ⟨w.heap.size,1,none⟩ (.string (s.extract 0 k))).setCell ⟨w.heap.size,2,none⟩ (.int .i64 0)).cell? ⟨w.heap.size,2,none⟩=some (.int .i64 0):=(((g.set 0 _).set 1 _).set 2 _).cell 2
       exact bodyPost_ret (v:= .tuple #[.agg #[.int .i64 3,.string (s.extract 0 k),.int .i64 0],.int .i64 (k),.int .i64 (0)]) (by simp[results,Tryz.results174,go_sem,s0,s1,s2]) rfl ⟨by rw[R.out,Y.out];rfl,((HX.setCell (Nat.le_refl _) _).setCell (Nat.le_refl _) _).setCell (Nat.le_refl _) _⟩
end Lx
namespace Lx
def two (c d:UInt8):Prop:=(c=60∧d=62)∨(c=60∧d=61)∨(c=62∧d=61)
theorem nJ (c d:UInt8) (r:List UInt8) (h:two c d):symN (c::d::r)=2:=by rw[symN];exact if_pos h
theorem sym_one (c:UInt8) (r:List UInt8) (h:∀d q,r=d::q→¬two c d):symN (c::r)=if c∈syms then 1 else 0:=by
 cases r with
 |nil=>rw[symN]
 |cons d q=>rw[symN];exact if_neg (h d q rfl)
end Lx
namespace Lx
theorem im (t:TR):∃(a:Int) (x:ByteArray) (p n e:Int),TRes t= .tuple #[.agg #[.int .i64 a,.string x,.int .i64 p],.int .i64 n,.int .i64 e]:=by
 cases t with
 |bad e=>exact⟨0,⟨#[]⟩,0,0,e,rfl⟩
 |tok k x n=>exact⟨k,⟨x.toArray⟩,0,n,0,rfl⟩
theorem nK (s:ByteArray) (w:World) (hs:s.size≤20000) (u:0<s.size) (E:KwAt w) (k:isLetter s[0]=true):Calls Tryz.prog 97 #[.string s] w fun e w'=>e= .returned (TRes (tokL s.data.toList))∧Ext w w':=by
 have m:Hid (tokL s.data.toList=wordL s.data.toList):=by
  unfold Hid
  rw[fb s u,tokL,if_pos k]
 have o:=hid (fun W=>ed s[0] W)
 rw[k]at o
 have l:=hid (fun W (h:Ext w W)=>word_any s W hs (E.ext h))
 obtain⟨a,x,p,n,e,f⟩:=im (wordL s.data.toList)
 rw[f]at l
 have r:Hid (TRes (tokL s.data.toList)= .tuple #[.agg #[.int .i64 a,.string x,.int .i64 p],.int .i64 n,.int .i64 e]):=by unfold Hid;rw[m.out,f]
 generalize TRes (tokL s.data.toList)=V at*
 have j:=hid (Blk.of_new w 70 [.int .i64 0,.string ⟨#[]⟩,.int .i64 0])
 clear m f k
 go_enter Tryz.func97,Tryz.ntmps97
 go_wp2_with (first|(go_at_call 171;refine(o _).mono ?_;rintro t i ⟨rfl,rfl⟩)|(go_at_call 172;refine(l _ ((Ext.refl w).alloc _)).mono ?_;rintro t i ⟨rfl,g⟩;have b:=hid (j.ext g);have y:=b.cell 0;have z:=b.cell 1;have A:=b.cell 2;obtain⟨B,C,D,-⟩:=frz b))
 have F:(i.setCell ⟨w.heap.size,0,none⟩ (.int .i64 a)).cell? ⟨w.heap.size,0,none⟩=some (.int .i64 a):=(b.set 0 _).cell 0
 have G:((i.setCell ⟨w.heap.size,0,none⟩ (.int .i64 a)).setCell ⟨w.heap.size,1,none⟩ (.string x)).cell? ⟨w.heap.size,1,none⟩=some (.string x):=((b.set 0 _).set 1 _).cell 1
 have H:(((i.setCell ⟨w.heap.size,0,none⟩ (.int .i64 a)).setCell ⟨w.heap.size,1,none⟩ (.string x)).setCell ⟨w.heap.size,2,none⟩ (.int .i64 p)).cell? ⟨w.heap.size,2,none⟩=some (.int .i64 p):=(((b.set 0 _).set 1 _).set 2 _).cell 2
 exact bodyPost_ret (v:= .tuple #[.agg #[.int .i64 a,.string x,.int .i64 p],.int .i64 (n),.int .i64 (e)]) (by simp[results,Tryz.results97,go_sem,F,G,H]) rfl ⟨by rw[r.out],(((((Ext.refl w).alloc _).trans g).setCell (Nat.le_refl _) _).setCell (Nat.le_refl _) _).setCell (Nat.le_refl _) _⟩
theorem oW (s:ByteArray) (w:World) (hs:s.size≤20000) (t:0<s.size) (j:isLetter s[0]=false) (hd:isDigit s[0]=true):Calls Tryz.prog 97 #[.string s] w fun e w'=>e= .returned (TRes (tokL s.data.toList))∧Ext w w':=by
 have m:Hid (tokL s.data.toList=numL s.data.toList):=by
  unfold Hid
  rw[fb s t,tokL,if_neg (by rw[j];decide),if_pos hd]
 have o:=hid (fun W=>ed s[0] W)
 rw[j]at o
 have l:=hid (fun W=>dV s[0] W)
 rw[hd]at l
 have k:=hid (fun W=>number_any s W hs t)
 obtain⟨a,x,p,n,e,f⟩:=im (numL s.data.toList)
 rw[f]at k
 have u:Hid (TRes (tokL s.data.toList)= .tuple #[.agg #[.int .i64 a,.string x,.int .i64 p],.int .i64 n,.int .i64 e]):=by unfold Hid;rw[m.out,f]
 generalize TRes (tokL s.data.toList)=V at*
 have i:=hid (Blk.of_new w 70 [.int .i64 0,.string ⟨#[]⟩,.int .i64 0])
 clear m f j hd
 go_enter Tryz.func97,Tryz.ntmps97
 go_wp2_with (first|(go_at_call 171;refine(o _).mono ?_;rintro r h ⟨rfl,rfl⟩)|(go_at_call 173;refine(l _).mono ?_;rintro r h ⟨rfl,rfl⟩)|(go_at_call 174;refine(k _).mono ?_;rintro r h ⟨rfl,g⟩;have b:=hid (i.ext g);have y:=b.cell 0;have z:=b.cell 1;have A:=b.cell 2;obtain⟨B,C,D,-⟩:=frz b))
 have E:(h.setCell ⟨w.heap.size,0,none⟩ (.int .i64 a)).cell? ⟨w.heap.size,0,none⟩=some (.int .i64 a):=(b.set 0 _).cell 0
 have F:((h.setCell ⟨w.heap.size,0,none⟩ (.int .i64 a)).setCell ⟨w.heap.size,1,none⟩ (.string x)).cell? ⟨w.heap.size,1,none⟩=some (.string x):=((b.set 0 _).set 1 _).cell 1
 have G:(((h.setCell ⟨w.heap.size,0,none⟩ (.int .i64 a)).setCell ⟨w.heap.size,1,none⟩ (.string x)).setCell ⟨w.heap.size,2,none⟩ (.int .i64 p)).cell? ⟨w.heap.size,2,none⟩=some (.int .i64 p):=(((b.set 0 _).set 1 _).set 2 _).cell 2
 exact bodyPost_ret (v:= .tuple #[.agg #[.int .i64 a,.string x,.int .i64 p],.int .i64 (n),.int .i64 (e)]) (by simp[results,Tryz.results97,go_sem,E,F,G]) rfl ⟨by rw[u.out],(((((Ext.refl w).alloc _).trans g).setCell (Nat.le_refl _) _).setCell (Nat.le_refl _) _).setCell (Nat.le_refl _) _⟩
theorem qs (s:ByteArray) (w:World) (hs:s.size≤20000) (u:0<s.size) (g:s[0].toNat=39):Calls Tryz.prog 97 #[.string s] w fun e w'=>e= .returned (TRes (tokL s.data.toList))∧Ext w w':=by
 have k:isLetter s[0]=false:=by unfold isLetter;rw[g];rfl
 have hd:isDigit s[0]=false:=by unfold isDigit;rw[g];rfl
 have o:Hid (tokL s.data.toList=textL (s.data.toList.drop 1)):=by
  unfold Hid
  conv=>lhs;rw[fb s u]
  rw[tokL,if_neg (by rw[k];decide),if_neg (by rw[hd];decide),if_pos g]
 have r:=hid (fun W=>ed s[0] W)
 rw[k]at r
 have m:=hid (fun W=>dV s[0] W)
 rw[hd]at m
 have l:=hid (fun W=>text_any s W hs u)
 have I:((s[0].toNat:Int)==39)=true:=by rw[g];rfl
 obtain⟨a,x,p,n,e,f⟩:=im (textL (s.data.toList.drop 1))
 rw[f]at l
 have y:Hid (TRes (tokL s.data.toList)= .tuple #[.agg #[.int .i64 a,.string x,.int .i64 p],.int .i64 n,.int .i64 e]):=by unfold Hid;rw[o.out,f]
 generalize TRes (tokL s.data.toList)=V at*
 have j:=hid (Blk.of_new w 70 [.int .i64 0,.string ⟨#[]⟩,.int .i64 0])
 clear o f k hd g
 go_enter Tryz.func97,Tryz.ntmps97
 go_wp2_with (first|(go_at_call 171;refine(r _).mono ?_;rintro t i ⟨rfl,rfl⟩)|(go_at_call 173;refine(m _).mono ?_;rintro t i ⟨rfl,rfl⟩)|(go_at_call 175;refine(l _).mono ?_;rintro t i ⟨rfl,h⟩;have b:=hid (j.ext h);have z:=b.cell 0;have A:=b.cell 1;have B:=b.cell 2;obtain⟨C,D,E,-⟩:=frz b))
 have F:(i.setCell ⟨w.heap.size,0,none⟩ (.int .i64 a)).cell? ⟨w.heap.size,0,none⟩=some (.int .i64 a):=(b.set 0 _).cell 0
 have G:((i.setCell ⟨w.heap.size,0,none⟩ (.int .i64 a)).setCell ⟨w.heap.size,1,none⟩ (.string x)).cell? ⟨w.heap.size,1,none⟩=some (.string x):=((b.set 0 _).set 1 _).cell 1
 have H:(((i.setCell ⟨w.heap.size,0,none⟩ (.int .i64 a)).setCell ⟨w.heap.size,1,none⟩ (.string x)).setCell ⟨w.heap.size,2,none⟩ (.int .i64 p)).cell? ⟨w.heap.size,2,none⟩=some (.int .i64 p):=(((b.set 0 _).set 1 _).set 2 _).cell 2
 exact bodyPost_ret (v:= .tuple #[.agg #[.int .i64 a,.string x,.int .i64 p],.int .i64 (n),.int .i64 (e)]) (by simp[results,Tryz.results97,go_sem,F,G,H]) rfl ⟨by rw[y.out],(((((Ext.refl w).alloc _).trans h).setCell (Nat.le_refl _) _).setCell (Nat.le_refl _) _).setCell (Nat.le_refl _) _⟩
def ku:Nat→List UInt8
 |0=> [60,62]
 |1=> [60,61]
 |2=> [62,61]
 |_=> []
def symS (k:Nat):ByteArray:=⟨(ku k).toArray⟩
theorem symS_cell (k:Nat) (h:k<3): [Value.string ⟨#[60,62]⟩,Value.string ⟨#[60,61]⟩,Value.string ⟨#[62,61]⟩][k]? =some (.string (symS k)):=by
 match k,h with
 |0,_=>rfl
 |1,_=>rfl
 |2,_=>rfl
theorem hp_two (k:Nat) (a:k<3) (l:List UInt8) (h:Lib.hasPrefix l (ku k)=true):symN l=2∧l.take 2=ku k:=by
 unfold Lib.hasPrefix at h
 obtain⟨r,rfl⟩:=List.isPrefixOf_iff_prefix.1 h
 match k,a with
 |0,_=>exact⟨nJ 60 62 r (.inl ⟨rfl,rfl⟩),rfl⟩
 |1,_=>exact⟨nJ 60 61 r (.inr (.inl ⟨rfl,rfl⟩)),rfl⟩
 |2,_=>exact⟨nJ 62 61 r (.inr (.inr ⟨rfl,rfl⟩)),rfl⟩
theorem hp_no (c:UInt8) (r:List UInt8) (h:∀k,k<3→Lib.hasPrefix (c::r) (ku k)=false):symN (c::r)=if c∈syms then 1 else 0:=by
 refine sym_one c r fun d q e=>?_
 subst e
 rintro(⟨rfl,rfl⟩|⟨rfl,rfl⟩|⟨rfl,rfl⟩)
 ·have:=h 0 (by decide);simp[Lib.hasPrefix,ku,List.isPrefixOf]at this
 ·have:=h 1 (by decide);simp[Lib.hasPrefix,ku,List.isPrefixOf]at this
 ·have:=h 2 (by decide);simp[Lib.hasPrefix,ku,List.isPrefixOf]at this
theorem idx_mem (c:UInt8):∀l:List UInt8,(0≤Lib.indexByte l c)↔c∈l
 | []=>by simp[Lib.indexByte]
 |b::l=>by
  have g:=idx_mem c l
  have k:=Lib.indexByte_ge l c
  rw[Lib.indexByte]
  by_cases f:b=c
  ·subst f;simp
  ·have e:(b==c)=false:=by simpa using f
   rw[e]
   simp only[Bool.false_eq_true,if_false,List.mem_cons]
   have a:¬c=b:=fun h=>f h.symm
   by_cases i:Lib.indexByte l c= -1
   ·rw[i]at g ⊢
    simp only[beq_self_eq_true,if_true,a,false_or]
    exact g
   ·have j:(Lib.indexByte l c== -1)=false:=by simpa using i
    rw[j]
    simp only[Bool.false_eq_true,if_false,a,false_or]
    rw[←g]
    omega
theorem first_of (P:Nat→Bool):∃m,m≤3∧(∀j,j<m→P j=false)∧(m<3→P m=true):=by
 cases b:P 0
 ·cases e:P 1
  ·cases f:P 2
   ·exact⟨3,Nat.le_refl _,fun j a=>by rcases(by omega:j=0∨j=1∨j=2)with rfl|rfl|rfl<;>assumption,fun h=>absurd h (Nat.lt_irrefl _)⟩
   ·exact⟨2,by decide,fun j a=>by rcases(by omega:j=0∨j=1)with rfl|rfl<;>assumption,fun _=>f⟩
  ·exact⟨1,by decide,fun j a=>by rw[show j=0 by omega];exact b,fun _=>e⟩
 ·exact⟨0,by decide,fun j a=>absurd a (Nat.not_lt_zero _),fun _=>b⟩
theorem nL (s:ByteArray) (w:World) (hs:s.size≤20000) (Y:0<s.size) (R:isLetter s[0]=false) (hd:isDigit s[0]=false) (hq:¬s[0].toNat=39):Calls Tryz.prog 97 #[.string s] w fun e w'=>e= .returned (TRes (tokL s.data.toList))∧Ext w w':=by
 have J:Hid (tokL s.data.toList=symL s.data.toList):=by
  unfold Hid
  rw[fb s Y,tokL,if_neg (by rw[R];decide),if_neg (by rw[hd];decide),if_neg hq]
 have X:=hid (fun W=>ed s[0] W)
 rw[R]at X
 have U:=hid (fun W=>dV s[0] W)
 rw[hd]at U
 have b1:((s[0].toNat:Int)==39)=false:=by rw[beq_eq_false_iff_ne];omega
 have L:Hid (∀k W,Calls Tryz.prog 169 #[.string s,.string (symS k)] W fun e w'=>e= .returned (.bool (Lib.hasPrefix s.data.toList (ku k)))∧w'=W):=fun k W=>Tryz.strings_HasPrefix s (symS k) W
 have A:=hid (fun k hk=>hp_two k hk s.data.toList)
 have x:Hid ((∀k,k<3→Lib.hasPrefix s.data.toList (ku k)=false)→symN s.data.toList=if s[0]∈syms then 1 else 0):=by
  unfold Hid
  intro h
  rw[fb s Y]at h ⊢
  exact hp_no _ _ h
 generalize C:(fun k=>Lib.hasPrefix s.data.toList (ku k))=P at*
 have hP:∀k,Lib.hasPrefix s.data.toList (ku k)=P k:=fun k=>by rw[←C]
 simp only[hP]at L A x
 clear hP C
 obtain⟨m,hm,n,f⟩:=first_of P
 have K:=hid n
 have G:=hid (Blk.of_new w 70 [.int .i64 0,.string ⟨#[]⟩,.int .i64 0])
 have V:Hid (∀W,Calls Tryz.prog 170 #[.string ⟨#[40,41,44,59,46,42,43,45,47,37,61,60,62]⟩,.int .u8 s[0].toNat] W fun e w'=>e= .returned (.int .i64 (Lib.indexByte syms s[0]))∧w'=W):=by
  intro W
  have:=Tryz.strings_IndexByte ⟨#[40,41,44,59,46,42,43,45,47,37,61,60,62]⟩ (s[0].toNat:Int) W
  rw[Lib.byte_back']at this
  exact this
 have b:=idx_mem s[0] syms
 have r:Hid (symL s.data.toList=if symN s.data.toList=0 then .bad 2 else .tok 5 (s.data.toList.take (symN s.data.toList)) (symN s.data.toList)):=rfl
 have HF:Hid (s.extract 0 1=⟨(s.data.toList.take 1).toArray⟩):=by_list (by rw[dr])
 generalize symN s.data.toList=SN at*
 clear R hd hq
 go_enter Tryz.func97,Tryz.ntmps97
 go_wp2_with (first|(go_at_call 171;refine(X _).mono ?_;rintro B w1 ⟨rfl,rfl⟩)|(go_at_call 173;refine(U _).mono ?_;rintro B w1 ⟨rfl,rfl⟩))
 have g:=hid (G.ext ((Ext.refl _).alloc (.cells #[.string ⟨#[60,62]⟩,.string ⟨#[60,61]⟩,.string ⟨#[62,61]⟩] 9)))
 have u:=hid (Blk.of_new (w.alloc (.cells #[.int .i64 0,.string ⟨#[]⟩,.int .i64 0] 70)) 9 [.string ⟨#[60,62]⟩,.string ⟨#[60,61]⟩,.string ⟨#[62,61]⟩])
 have O:Hid (Ext w ((w.alloc (.cells #[.int .i64 0,.string ⟨#[]⟩,.int .i64 0] 70)).alloc (.cells #[.string ⟨#[60,62]⟩,.string ⟨#[60,61]⟩,.string ⟨#[62,61]⟩] 9))):=((Ext.refl _).alloc _).alloc _
 have H:Hid (Blk ((w.alloc (.cells #[.int .i64 0,.string ⟨#[]⟩,.int .i64 0] 70)).alloc (.cells #[.string ⟨#[60,62]⟩,.string ⟨#[60,61]⟩,.string ⟨#[62,61]⟩] 9)) (w.heap.size+1) 9 [.string ⟨#[60,62]⟩,.string ⟨#[60,61]⟩,.string ⟨#[62,61]⟩]):=by
  have:=u.out
  rw[World.size_alloc]at this
  exact this
 clear u
 generalize ((w.alloc (.cells #[.int .i64 0,.string ⟨#[]⟩,.int .i64 0] 70)).alloc (.cells #[.string ⟨#[60,62]⟩,.string ⟨#[60,61]⟩,.string ⟨#[62,61]⟩] 9))=w1 at*
 have ac:=g.cell 0
 have ad:=g.cell 1
 have ag:=g.cell 2
 obtain⟨ax,a0,a1,-⟩:=frz g
 go_loop [36] (fun i=> ∃k:Nat,k≤m∧i= .int .i64 k) (fun i=>3- (intOf i).toNat)
 case atStart=>exact⟨0,Nat.zero_le _,rfl⟩
 case round=>
  obtain⟨k,hk,rfl⟩:=hrel
  by_cases t:k<3
  ·have an:=H.cell_some (symS_cell k t)
   cases a:P k
   ·have a2:k<m:=by
     rcases Nat.lt_or_ge k m with h|h
     ·exact h
     ·exfalso
      obtain rfl:k=m:=by omega
      rw[f t]at a
      cases a
    have p:Hid (P k=false):=a
    clear a f n
    go_wp2_with (go_at_call 169;refine(L k _).mono ?_;rintro B l ⟨rfl,rfl⟩;rw[p.out])
    go_round
    case rel=>exact⟨k+1,by omega,by go_num⟩
    case measure=>simp[intOf];omega
   ·have p:Hid (P k=true):=a
    obtain⟨o,Z⟩:=A k t a
    have y:Hid (tokL s.data.toList= .tok 5 (ku k) 2):=by
     unfold Hid
     rw[J.out,r.out,o,if_neg (by decide),Z]
    clear a f n o Z
    go_wp2_with (go_at_call 169;refine(L k _).mono ?_;rintro B l ⟨rfl,rfl⟩;rw[p.out])
    have D:(l.setCell ⟨w.heap.size,0,none⟩ (.int .i64 5)).cell? ⟨w.heap.size,0,none⟩=some (.int .i64 5):=(g.set 0 _).cell 0
    have E:((l.setCell ⟨w.heap.size,0,none⟩ (.int .i64 5)).setCell ⟨w.heap.size,1,none⟩ (.string (symS k))).cell? ⟨w.heap.size,1,none⟩=some (.string (symS k)):=((g.set 0 _).set 1 _).cell 1
    have F:(((l.setCell ⟨w.heap.size,0,none⟩ (.int .i64 5)).setCell ⟨w.heap.size,1,none⟩ (.string (symS k))).setCell ⟨w.heap.size,2,none⟩ (.int .i64 0)).cell? ⟨w.heap.size,2,none⟩=some (.int .i64 0):=(((g.set 0 _).set 1 _).set 2 _).cell 2
    exact bodyPost_ret (v:= .tuple #[.agg #[.int .i64 5,.string (symS k),.int .i64 0],.int .i64 (2),.int .i64 (0)]) (by simp[results,Tryz.results97,go_sem,D,E,F]) rfl ⟨by rw[y.out];rfl,((O.setCell (Nat.le_refl _) _).setCell (Nat.le_refl _) _).setCell (Nat.le_refl _) _⟩
  ·obtain rfl:k=3:=by omega
   obtain rfl:m=3:=by omega
   have z:Hid (SN=if s[0]∈syms then 1 else 0):=x K
   clear f n
   by_cases j:s[0]∈syms
   ·have Q:0≤Lib.indexByte syms s[0]:=b.2 j
    have y:Hid (tokL s.data.toList= .tok 5 (s.data.toList.take 1) 1):=by
     unfold Hid
     have o:=z.out
     rw[if_pos j]at o
     rw[J.out,r.out,o,if_neg (by decide)]
    clear j b
    generalize Lib.indexByte syms s[0]=I at*
    go_wp2_with (go_at_call 170;refine(V _).mono ?_;rintro B l ⟨rfl,rfl⟩)
    have D:(l.setCell ⟨w.heap.size,0,none⟩ (.int .i64 5)).cell? ⟨w.heap.size,0,none⟩=some (.int .i64 5):=(g.set 0 _).cell 0
    have E:((l.setCell ⟨w.heap.size,0,none⟩ (.int .i64 5)).setCell ⟨w.heap.size,1,none⟩ (.string (s.extract 0 1))).cell? ⟨w.heap.size,1,none⟩=some (.string (s.extract 0 1)):=((g.set 0 _).set 1 _).cell 1
    have F:(((l.setCell ⟨w.heap.size,0,none⟩ (.int .i64 5)).setCell ⟨w.heap.size,1,none⟩ (.string (s.extract 0 1))).setCell ⟨w.heap.size,2,none⟩ (.int .i64 0)).cell? ⟨w.heap.size,2,none⟩=some (.int .i64 0):=(((g.set 0 _).set 1 _).set 2 _).cell 2
    exact bodyPost_ret (v:= .tuple #[.agg #[.int .i64 5,.string (s.extract 0 1),.int .i64 0],.int .i64 (1),.int .i64 (0)]) (by simp[results,Tryz.results97,go_sem,D,E,F]) rfl ⟨by rw[y.out,HF.out];rfl,((O.setCell (Nat.le_refl _) _).setCell (Nat.le_refl _) _).setCell (Nat.le_refl _) _⟩
   ·have Q:¬0≤Lib.indexByte syms s[0]:=fun h=>j (b.1 h)
    have y:Hid (tokL s.data.toList= .bad 2):=by
     unfold Hid
     have o:=z.out
     rw[if_neg j]at o
     rw[J.out,r.out,o,if_pos rfl]
    clear j b
    generalize Lib.indexByte syms s[0]=I at*
    go_wp2_with (go_at_call 170;refine(V _).mono ?_;rintro B l ⟨rfl,rfl⟩)
    have D:(l.setCell ⟨w.heap.size,0,none⟩ (.int .i64 0)).cell? ⟨w.heap.size,0,none⟩=some (.int .i64 0):=(g.set 0 _).cell 0
    have E:((l.setCell ⟨w.heap.size,0,none⟩ (.int .i64 0)).setCell ⟨w.heap.size,1,none⟩ (.string ⟨#[]⟩)).cell? ⟨w.heap.size,1,none⟩=some (.string ⟨#[]⟩):=((g.set 0 _).set 1 _).cell 1
    have F:(((l.setCell ⟨w.heap.size,0,none⟩ (.int .i64 0)).setCell ⟨w.heap.size,1,none⟩ (.string ⟨#[]⟩)).setCell ⟨w.heap.size,2,none⟩ (.int .i64 0)).cell? ⟨w.heap.size,2,none⟩=some (.int .i64 0):=(((g.set 0 _).set 1 _).set 2 _).cell 2
    exact bodyPost_ret (v:= .tuple #[.agg #[.int .i64 0,.string ⟨#[]⟩,.int .i64 0],.int .i64 (0),.int .i64 (2)]) (by simp[results,Tryz.results97,go_sem,D,E,F]) rfl ⟨by rw[y.out];rfl,((O.setCell (Nat.le_refl _) _).setCell (Nat.le_refl _) _).setCell (Nat.le_refl _) _⟩
theorem token_any (s:ByteArray) (w:World) (hs:s.size≤20000) (a:0<s.size) (g:KwAt w):Calls Tryz.prog 97 #[.string s] w fun e w'=>e= .returned (TRes (tokL s.data.toList))∧Ext w w':=by
 cases b:isLetter s[0]
 ·cases hd:isDigit s[0]
  ·by_cases f:s[0].toNat=39
   ·exact qs s w hs a f
   ·exact nL s w hs a b hd f
  ·exact oW s w hs a b hd
 ·exact nK s w hs a g b
end Lx
namespace Lx
def Tk.cells (t:Tk):List Value:= [.int .i64 t.kind,.string ⟨t.text.toArray⟩,.int .i64 t.pos]
def tkc (l:List Tk):List Value:=l.flatMap Tk.cells
theorem tkc_app (l m:List Tk):tkc (l++m)=tkc l++tkc m:=by simp[tkc]
theorem tkc_one (a:Tk):tkc [a]=a.cells:=by simp[tkc]
theorem oX (l:List Tk) (a:Tk):tkc (l++ [a])=tkc l++a.cells:=by rw[tkc_app,tkc_one]
theorem oY (a:Tk) (l:List Tk):tkc (a::l)=a.cells++tkc l:=by simp[tkc]
theorem tkc_len (l:List Tk):(tkc l).length=l.length*3:=by
 induction l with
 |nil=>rfl
 |cons a l ih=>rw[oY,List.length_append,ih];simp[Tk.cells];omega
theorem nM (l:List Tk):∀(i j:Nat) (a:Tk),l[i]? =some a→j<3→(tkc l)[i*3+j]? =a.cells[j]? :=by
 induction l with
 |nil=>intro i j a h;simp at h
 |cons x l ih=>
  intro i j a h b
  rw[oY]
  cases i with
  |zero=>
   simp at h
   subst h
   rw[List.getElem?_append_left (by simp[Tk.cells];omega)]
   simp
  |succ i=>
   rw[List.getElem?_append_right (by simp[Tk.cells];omega)]
   have e:(i+1)*3+j-x.cells.length=i*3+j:=by simp[Tk.cells];omega
   rw[e]
   exact ih i j a (by simpa using h) b
def kY (w:World) (A:Option Addr) (l:List Tk):Prop:=
 ∀(i:Nat) (a:Tk),l[i]? =some a→∃b off,A=some ⟨b,off,none⟩∧w.cell? ⟨b,off+i*3,none⟩=some (.int .i64 a.kind)∧w.cell? ⟨b,off+i*3+1,none⟩=some (.string ⟨a.text.toArray⟩)∧
  w.cell? ⟨b,off+i*3+2,none⟩=some (.int .i64 a.pos)
theorem kY.ext {w w':World} {A:Option Addr} {l:List Tk} (h:kY w A l) (e:Ext w w'):kY w' A l:=fun i a n=>by
 obtain⟨b,f,m,g,j,k⟩:=h i a n
 exact⟨b,f,m,e.keep g,e.keep j,e.keep k⟩
theorem own_tks {w:World} {B e n:Nat} {v:Value} {l:List Tk} (h:w.ownsRow B e 3 v n (tkc l)):∃A c,v= .slice A n c∧kY w A l∧l.length=n:=by
 have m:l.length=n:=by have:=h.1;rw[tkc_len]at this;omega
 have k:=fun g (o:v.ownBlock=some g)=>h.cells o
 rcases h.2 with ⟨rfl,h0⟩|⟨g,cap,cur,rfl,_⟩
 ·refine⟨none,0,by rw[h0],?_,m⟩
  have:l= []:=List.eq_nil_of_length_eq_zero (by omega)
  subst this
  intro i a f
  simp at f
 ·refine⟨_,_,rfl,fun i a f=>?_,m⟩
  have k:=k g rfl
  have b:∀j,(⟨g,0,none⟩:Addr).add j=⟨g,0+j,none⟩:=fun j=>by unfold Addr.add;split<;>simp_all
  refine⟨g,0,rfl,?_,?_,?_⟩
  ·have:=k (i*3+0) (.int .i64 a.kind) (by rw[nM l i 0 a f (by omega)];rfl)
   rwa [b]at this
  ·have:=k (i*3+1) (.string ⟨a.text.toArray⟩) (by rw[nM l i 1 a f (by omega)];rfl)
   rwa [b,←Nat.add_assoc]at this
  ·have:=k (i*3+2) (.int .i64 a.pos) (by rw[nM l i 2 a f (by omega)];rfl)
   rwa [b,←Nat.add_assoc]at this
theorem ownN_ext {w w':World} {B e b n:Nat} {v:Value} {f:List Value} (h:w.ownsRow B e b v n f) (j:Ext w w'):w'.ownsRow B e b v n f:=by
 obtain⟨i,a⟩:=h
 refine⟨i,?_⟩
 rcases a with a|⟨g,cap,cur,hv,hg,hh,r⟩
 ·exact .inl a
 ·exact .inr ⟨g,cap,cur,hv,hg,(Below.block j g (Array.getElem?_eq_some_iff.1 hh).1).trans hh,r⟩
theorem news_at (w:World) (cs:Array Value) (e:TypeId) (n:Nat) (a:n=w.heap.size):∀(j:Nat) (u:Value),cs.toList[j]? =some u→(w.alloc (.cells cs e)).cell? ((⟨n,0,none⟩:Addr).add j)=some u:=by
 subst a
 exact iQ w cs e
def lsL:Ls→List Tk
 | .bad _ _=> []
 | .ok l=>l
def lsP:Ls→Nat
 | .bad a _=>a
 | .ok _=>0
def lsE:Ls→Nat
 | .bad _ e=>e
 | .ok _=>0
def TokRes (x:Ls) (v:Value) (w:World):Prop:=∃A c,v= .tuple #[.slice A (lsL x).length c,.int .i64 (lsP x),.int .i64 (lsE x)]∧kY w A (lsL x)
theorem TokRes.bad (a e:Nat) (w:World):TokRes (.bad a e) (.tuple #[.slice none 0 0,.int .i64 a,.int .i64 e]) w:=⟨none,0,rfl,fun i t h=>by simp[lsL]at h⟩
theorem tok_bad (c:UInt8) (r:List UInt8) (e:Nat) (h:tokL (c::r)= .bad e):e=2∨e=3:=by
 rw[tokL]at h
 split at h
 ·unfold wordL at h
  split at h
  ·cases h
  ·split at h<;>cases h
   exact .inr rfl
 split at h
 ·unfold numL at h
  split at h
  ·cases h;exact .inl rfl
  ·split at h<;>cases h
   exact .inr rfl
 split at h
 ·unfold textL at h
  cases a:litF r [] 1 with
  |none=>rw[a]at h;cases h;exact .inl rfl
  |some q=>
   obtain⟨X,i⟩:=q
   rw[a]at h
   simp only at h
   split at h<;>cases h
   exact .inr rfl
 ·unfold symL at h
  split at h<;>cases h
  exact .inl rfl
end Lx
namespace Lx
theorem own_tks2 {w:World} {B e n:Nat} {v:Value} {l:List Tk} (h:w.ownsRow B e 3 v n (tkc l)):∃A c,v= .slice A n c∧kY w A l∧l.length=n∧n≤c:=by
 obtain⟨A,c,rfl,a,b⟩:=own_tks h
 refine⟨A,c,rfl,a,b,?_⟩
 rcases h.2 with ⟨hv,h0⟩|⟨g,cap,cur,hv,_,_,hnc,_⟩
 ·omega
 ·simp only[Value.slice.injEq]at hv
  obtain⟨_,_,rfl⟩:=hv
  exact hnc
def iU (x:Ls) (v:Value) (w:World):Prop:=∃A c,v= .tuple #[.slice A (lsL x).length c,.int .i64 (lsP x),.int .i64 (lsE x)]∧kY w A (lsL x)∧(lsL x).length≤c
theorem iU.bad (a e:Nat) (w:World):iU (.bad a e) (.tuple #[.slice none 0 0,.int .i64 a,.int .i64 e]) w:=⟨none,0,rfl,fun i t h=>by simp[lsL]at h,Nat.le_refl _⟩
end Lx
namespace Lx
theorem info_c37:(Tryz.prog.info? 70).map (fun i=> (i.zero,i.size,i.bytes))=some (some (.agg #[.int .i64 0,.string ⟨#[]⟩,.int .i64 0]),3,32):=by kernel_rfl
theorem tokens_cap (s:ByteArray) (w:World) (hs:s.size≤20000) (hk:KwAt w):Calls Tryz.prog 52 #[.string s] w fun e w'=> ∃v,e= .returned v∧iU (tokAll s) v w'∧Ext w w':=by
 by_cases t:16384<s.size
 ·have V:Hid (tokAll s= .bad 16384 3):=if_pos t
  go_enter Tryz.func52,Tryz.ntmps52
  go_wp2_with fail
  go_ret3
  exact⟨_,rfl,by rw[V.out];exact iU.bad _ _ _,Ext.refl _⟩
 have V:Hid (tokAll s=T s.data.toList 0):=if_neg t
 obtain⟨i0,hi,Q,R,U⟩:=info_parts info_c37
 have a3:skipN false s.data.toList≤s.size:=skip_le false s.data.toList
 have I:=hid (fun W a (ha:a≤s.size)=>skip_any s a W hs ha)
 have J:Hid (∀a,a≤s.size→a+skipN false (s.data.toList.drop a)≤s.size):=fun a ha=>by
  have:=skip_le false (s.data.toList.drop a)
  rw[List.length_drop,eH]at this
  omega
 go_enter Tryz.func52,Tryz.ntmps52
 go_wp2_with (go_at_call 96;refine(I _ 0 (Nat.zero_le _)).mono ?_;rintro e' B ⟨rfl,a4⟩;subst B)
 go_loopw [5,6] (fun v i wr=> ∃(p:Nat) (out:List Tk),p≤s.size∧i= .int .i64 ((p+skipN false (s.data.toList.drop p):Nat):Int)∧wr.ownsRow w.heap.size 70 3 v out.length (tkc out)∧out.length≤p∧Ext w wr∧T s.data.toList 0=(T (s.data.toList.drop p) p).pre out) (fun _ i _=>s.size- (intOf i).toNat)
 case atStart=>exact⟨0,[],Nat.zero_le _,by simp,World.ownsRow_nil _ _ _ _,Nat.zero_le _,Ext.refl w,by rw[List.drop_zero];cases T s.data.toList 0<;>rfl⟩
 case round=>
  obtain⟨p,out,hp,rfl,m,a2,l,hv⟩:=hrel
  have Z:=hid hv
  clear hv
  obtain⟨k,b⟩:∃k,p+skipN false (s.data.toList.drop p)=k:=⟨_,rfl⟩
  have a1:k≤s.size:=b ▸ J p hp
  rw[b]
  by_cases E:k<s.size
  ·have hd:(s.data.toList.drop p).drop (skipN false (s.data.toList.drop p))=s[k]::s.data.toList.drop (k+1):=by rw[List.drop_drop,b,eG s k E]
   have O:(s.extract k s.size).size=s.size-k:=by rw[ByteArray.size_extract];omega
   have F:∀W,Ext w W→Calls Tryz.prog 97 #[.string (s.extract k s.size)] W fun e w'=>e= .returned (TRes (tokL (s[k]::s.data.toList.drop (k+1))))∧Ext W w':=by
    intro W hW
    have:=token_any (s.extract k s.size) W (by omega) (by omega) (hk.ext hW)
    rw[jC,eG s k E]at this
    exact this
   cases z:tokL (s[k]::s.data.toList.drop (k+1))with
   |bad e=>
    have r:T s.data.toList 0= .bad k e:=by rw[Z.out,T_bad _ p _ _ e hd z,b];rfl
    have hb:=tok_bad _ _ e z
    have b1:((e:Int) !=0)=true:=by rw[bne_iff_ne];omega
    rw[z]at F
    have G:=hid F
    have H:=hid r
    clear F r hd hb z O b
    simp only[TRes]at G
    go_wp2_with (go_at_call 97;refine(G _ l).mono ?_;rintro e' B ⟨rfl,o⟩)
    go_ret3
    exact⟨_,rfl,by rw[V.out,H.out];exact iU.bad _ _ _,(l.trans o).alloc _⟩
   |tok kd x n=>
    have r:T s.data.toList 0=(T (s.data.toList.drop (k+n)) (k+n)).pre (out++ [⟨kd,x,k⟩]):=by
     rw[Z.out,T_tok _ p _ _ kd x n hd z,pre_pre,b,←eG s k E,List.drop_drop]
    have D:=tok_bound _ _ kd x n z
    have K:k+n≤s.size:=by
     have:=D.2
     rw[List.length_cons,List.length_drop,eH]at this
     omega
    have ax:=D.1
    rw[z]at F
    have G:=hid F
    have H:=hid r
    have X:=hid b
    have ag:p≤k:=by omega
    clear F r hd D z O b
    simp only[TRes]at G
    have C:∀B:World,Ext wr B→w.heap.size≤B.heap.size+1+1:=fun B h=>by have:=h.size;have:=l.size;omega
    go_wp2_with (first
     |(go_at_call 97;refine(G _ l).mono ?_;rintro e' B ⟨rfl,o⟩;have Y:=hid (ownN_ext m ((o.alloc (.cells #[.int .i64 kd,.string ⟨x.toArray⟩,.int .i64 k] 70)).alloc (.cells #[.int .i64 kd,.string ⟨x.toArray⟩,.int .i64 k] 70)));have a0:=C B o;clear C)
     |(at_builtin;refine wpList_append_own _ rfl _ _ 66 rfl w.heap.size 70 i0 (.agg #[.int .i64 0,.string ⟨#[]⟩,.int .i64 0]) 3 32 Tryz.underlying66 hi Q R U rfl (by decide) _ _ _ rfl Y.out ⟨_,0,none⟩ 1 1 (Tk.cells ⟨kd,x,k⟩) rfl rfl (news_at _ _ _ _ (by simp)) (by intro u P;simp[Tk.cells]at P;rcases P with rfl|rfl|rfl<;>rfl) (by unfold maxLen;omega) (by omega) (by simp;omega) ?_;intro v' w2 j f _)
     |(go_at_call 96;refine(I _ (k+n) K).mono ?_;rintro e' w3 ⟨rfl,a5⟩;subst w3))
    go_roundw
    case rel=>
     refine⟨k+n,out++ [⟨kd,x,k⟩],K,rfl,by rw[oX,List.length_append];exact j,by rw[List.length_append];simp only[List.length_cons,List.length_nil];omega,Ext.grown ((l.trans o).alloc _|>.alloc _) f (fun g hg=>cT m hg),H.out⟩
    case measure=>simp[intOf];omega
  ·have hd:(s.data.toList.drop p).drop (skipN false (s.data.toList.drop p))= []:=by rw[List.drop_drop,b];exact List.drop_of_length_le (by rw[eH];omega)
   have r:T s.data.toList 0= .ok (out++ [⟨0,[],s.size⟩]):=by rw[Z.out,T_end _ p hd,b,show k=s.size by omega];rfl
   have H:=hid r
   have X:=hid b
   have ag:p≤k:=by omega
   have C:w.heap.size≤wr.heap.size+1:=by have:=l.size;omega
   have Y:=hid (ownN_ext m ((Ext.refl wr).alloc (.cells #[.int .i64 0,.string ⟨#[]⟩,.int .i64 s.size] 70)))
   clear hd r b
   go_wp2_with (at_builtin;refine wpList_append_own _ rfl _ _ 66 rfl w.heap.size 70 i0 (.agg #[.int .i64 0,.string ⟨#[]⟩,.int .i64 0]) 3 32 Tryz.underlying66 hi Q R U rfl (by decide) _ _ _ rfl Y.out ⟨_,0,none⟩ 1 1 (Tk.cells ⟨0,[],s.size⟩) rfl rfl (news_at _ _ _ _ (by simp)) (by intro u P;simp[Tk.cells]at P;rcases P with rfl|rfl|rfl<;>rfl) (by unfold maxLen;omega) (by omega) (by simp;omega) ?_;intro v' w2 j f _)
   have an:Ext w w2:=Ext.grown (l.alloc _) f (fun g hg=>cT m hg)
   have ad:w2.ownsRow w.heap.size 70 3 v' (out++ [(⟨0,[],s.size⟩:Tk)]).length (tkc (out++ [⟨0,[],s.size⟩])):=by rw[oX,List.length_append];exact j
   obtain⟨A,c,rfl,ac,y,L⟩:=own_tks2 ad
   go_ret3
   refine⟨_,rfl,?_,an⟩
   rw[V.out,H.out]
   exact⟨A,c,by rw[y];rfl,ac,by show(out++ [(⟨0,[],s.size⟩:Tk)]).length≤c;rw[y];exact L⟩
end Lx
end Go.Proofs.YtjigcpfjhfoheaaGreatDoor
