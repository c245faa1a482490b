/- Walks over the lexer: white space and comments, the program's and the reference's; Walks over the lexer: words and numbers; Walks over the lexer's reference: symbols; Walks over the lexer: one token; Tokens: their cells, slices of. -/
import Derived.Test.YtjigcpfjhfoheaaGreatDoorQab
import Derived.RegionTactic
namespace Go.Proofs.YtjigcpfjhfoheaaGreatDoor
open Go.RowKit
set_option maxHeartbeats 2000000
set_option maxRecDepth 100000
set_option linter.unusedVariables false
set_option linter.unusedSimpArgs false
namespace Lx
theorem gE (s:ByteArray) (k:Nat):(s.extract k s.size).data.toList=s.data.toList.drop k:=by
 rw[Lib.extract_data]
 rw[List.take_of_length_le]
 rw[List.length_drop,dE]
 exact Nat.le_refl _
theorem ja:∀l:List UInt8,(Lib.indexByte l 10= -1→skipN true l=l.length)∧∀i:Nat,Lib.indexByte l 10=(i:Int)→i<l.length∧skipN true l=i+skipN false (l.drop i)
 | []=>by
  constructor
  ·intro _;rfl
  ·intro i h
   unfold Lib.indexByte at h
   omega
 |b::l=>by
  have ih:=ja l
  have hg:=Lib.indexByte_ge l 10
  rw[Lib.indexByte]
  by_cases hb:b=10
  ·subst hb
   constructor
   ·intro h;simp at h
   ·intro i h
    simp at h
    obtain rfl:i=0:=by omega
    refine⟨by simp,?_⟩
    rw[List.drop_zero,skipN,if_pos (by decide),skipN,if_pos (.inr (.inr (by decide)))]
    omega
  ·have e:(b==10)=false:=by simpa using hb
   have hb':¬b.toNat=10:=fun h=>hb (num_ext b 10 h)
   rw[e]
   simp only[Bool.false_eq_true,if_false]
   rw[skipN,if_neg hb']
   by_cases hl:Lib.indexByte l 10= -1
   ·have h1:=ih.1 hl
    rw[hl,h1]
    constructor
    ·intro _;rw[List.length_cons]
    ·intro i h;simp at h;try omega
   ·have e2:(Lib.indexByte l 10== -1)=false:=by simpa using hl
    rw[e2]
    simp only[Bool.false_eq_true,if_false]
    constructor
    ·intro h;omega
    ·intro i h
     obtain⟨j,rfl⟩:∃j,i=j+1:=⟨i-1,by omega⟩
     obtain⟨h1,h2⟩:=ih.2 j (by omega)
     rw[List.length_cons,List.drop_succ_cons,h2]
     omega
theorem dash_skip (r:List UInt8) (h:r.head? =some 45):skipN false (45::r)=skipN true (45::r):=by
 have e1:skipN true (45::r)=skipN true r+1:=by rw[skipN];rfl
 rw[e1,skipN.eq_def]
 simp only
 rw[if_neg (by decide),if_pos ⟨by decide,h⟩]
theorem mY (c:UInt8) (r:List UInt8) (h1:¬(c.toNat=32∨c.toNat=9∨c.toNat=10)) (h2:¬(c.toNat=45∧r.head? =some 45)):skipN false (c::r)=0:=by
 rw[skipN,if_neg h1,if_neg h2]
theorem mZ (c:UInt8) (r:List UInt8) (h1:c.toNat=32∨c.toNat=9∨c.toNat=10):skipN false (c::r)=skipN false r+1:=by
 rw[skipN,if_pos h1]
theorem lP (c:UInt8) (r:List UInt8): [45,45].isPrefixOf (c::r)=decide (c.toNat=45∧r.head? =some 45):=by
 rw[Bool.eq_iff_iff,decide_eq_true_eq]
 cases r with
 |nil=>simp[List.isPrefixOf]
 |cons d q=>
  simp only[List.isPrefixOf,Bool.and_true,Bool.and_eq_true,beq_iff_eq,List.head?_cons,Option.some.injEq]
  constructor
  ·rintro⟨h1,h2⟩;exact⟨by rw[←h1];rfl,h2.symm⟩
  ·rintro⟨h1,h2⟩;exact⟨(num_ext c 45 h1).symm,h2.symm⟩
theorem skip_any (s:ByteArray) (a:Nat) (w:World) (hs:s.size≤20000) (ha:a≤s.size):Calls Tryz.prog 96 #[.string s,.int .i64 a] w fun e w'=>e= .returned (.int .i64 ((a+skipN false (s.data.toList.drop a):Nat):Int))∧w'=w:=by
 generalize hV:a+skipN false (s.data.toList.drop a)=V
 have HV:=hid hV
 clear hV
 go_enter Tryz.func96,Tryz.ntmps96
 go_wp2_with fail
 go_loop [1] (fun i=> ∃k:Nat,k≤s.size∧i= .int .i64 k∧k+skipN false (s.data.toList.drop k)=V) (fun i=>s.size- (intOf i).toNat)
 case atStart=>exact⟨a,ha,rfl,HV.out⟩
 case round=>
  obtain⟨k,hk,rfl,hv⟩:=hrel
  have HV:=hid hv
  clear hv
  by_cases hlt:k<s.size
  ·have HD:=hid (dD s k hlt)
   by_cases hsp:s[k].toNat=32∨s[k].toNat=9∨s[k].toNat=10
   ·have HE:Hid (k+1+skipN false (s.data.toList.drop (k+1))=V):=by
     have h:=HV.out
     rw[HD.out,mZ _ _ hsp]at h
     unfold Hid
     omega
    clear HV HD
    rcases hsp with h|h|h
    ·have b1:((s[k].toNat:Int)==32)=true:=by rw[h];rfl
     clear h
     go_wp2_with fail
     go_round
     case rel=>exact⟨k+1,by omega,by go_num,HE.out⟩
     case measure=>simp[intOf];omega
    ·have b1:((s[k].toNat:Int)==32)=false:=by rw[h];rfl
     have b2:((s[k].toNat:Int)==9)=true:=by rw[h];rfl
     clear h
     go_wp2_with fail
     go_round
     case rel=>exact⟨k+1,by omega,by go_num,HE.out⟩
     case measure=>simp[intOf];omega
    ·have b1:((s[k].toNat:Int)==32)=false:=by rw[h];rfl
     have b2:((s[k].toNat:Int)==9)=false:=by rw[h];rfl
     have b3:((s[k].toNat:Int)==10)=true:=by rw[h];rfl
     clear h
     go_wp2_with fail
     go_round
     case rel=>exact⟨k+1,by omega,by go_num,HE.out⟩
     case measure=>simp[intOf];omega
   ·have b1:((s[k].toNat:Int)==32)=false:=by rw[beq_eq_false_iff_ne];omega
    have b2:((s[k].toNat:Int)==9)=false:=by rw[beq_eq_false_iff_ne];omega
    have b3:((s[k].toNat:Int)==10)=false:=by rw[beq_eq_false_iff_ne];omega
    have HSP:Hid (¬(s[k].toNat=32∨s[k].toNat=9∨s[k].toNat=10)):=hsp
    clear hsp
    have hpre:Lib.hasPrefix (s.extract k s.size).data.toList (ByteArray.mk #[45,45]).data.toList=decide (s[k].toNat=45∧(s.data.toList.drop (k+1)).head? =some 45):=by
     rw[gE,dD s k hlt]
     exact lP _ _
    have HP:Hid (∀W,Calls Tryz.prog 169 #[.string (s.extract k s.size),.string ⟨#[45,45]⟩] W fun e w'=>e= .returned (.bool (decide (s[k].toNat=45∧(s.data.toList.drop (k+1)).head? =some 45)))∧w'=W):=by
     intro W
     rw[←hpre]
     exact Tryz.strings_HasPrefix (s.extract k s.size) ⟨#[45,45]⟩ W
    clear hpre
    by_cases hc:s[k].toNat=45∧(s.data.toList.drop (k+1)).head? =some 45
    ·rw[decide_eq_true hc]at HP
     have hix:((10:Int)).toNat.toUInt8=10:=rfl
     have HI:Hid (∀W,Calls Tryz.prog 170 #[.string (s.extract k s.size),.int .u8 10] W fun e w'=>e= .returned (.int .i64 (Lib.indexByte (s.data.toList.drop k) 10))∧w'=W):=by
      intro W
      have:=Tryz.strings_IndexByte (s.extract k s.size) 10 W
      rw[gE,hix]at this
      exact this
     have HK:Hid (k+skipN true (s.data.toList.drop k)=V):=by
      have h:=HV.out
      rw[HD.out]at h ⊢
      rw[num_ext s[k] 45 hc.1]at h ⊢
      rw[dash_skip _ hc.2]at h
      exact h
     have hdl:(s.data.toList.drop k).length=s.size-k:=by rw[List.length_drop,dE]
     have hge:=Lib.indexByte_ge (s.data.toList.drop k) 10
     by_cases hn:Lib.indexByte (s.data.toList.drop k) 10= -1
     ·have HE:Hid ((V:Int)=s.size):=by
       have h1:=(ja _).1 hn
       have h:=HK.out
       rw[h1]at h
       unfold Hid
       omega
      rw[hn]at HI
      clear hc hge hdl hn
      go_wp2_with (first|(go_at_call 169;refine(HP.out _).mono ?_;rintro e w1 ⟨rfl,rfl⟩)|(go_at_call 170;refine(HI.out _).mono ?_;rintro e w1 ⟨rfl,rfl⟩))
      go_ret
      exact⟨aH HE.out.symm,rfl⟩
     ·obtain⟨m,hm⟩:∃m:Nat,Lib.indexByte (s.data.toList.drop k) 10=m:=⟨(Lib.indexByte (s.data.toList.drop k) 10).toNat,by omega⟩
      obtain⟨h1,h2⟩:=(ja _).2 m hm
      have HE:Hid (k+m+skipN false (s.data.toList.drop (k+m))=V):=by
       have h:=HK.out
       rw[h2,List.drop_drop]at h
       unfold Hid
       omega
      have hm0:0<m:=by
       rcases Nat.eq_zero_or_pos m with h0|h0
       ·exfalso
        subst h0
        rw[dD s k hlt,Lib.indexByte]at hm
        rw[num_ext s[k] 45 hc.1]at hm
        have:((45:UInt8)==10)=false:=rfl
        rw[this]at hm
        simp only[Bool.false_eq_true,if_false]at hm
        have hg2:=Lib.indexByte_ge (s.data.toList.drop (k+1)) 10
        split at hm
        ·omega
        ·rename_i hx
         have:Lib.indexByte (s.data.toList.drop (k+1)) 10≠ -1:=fun e=>hx (by rw[e];rfl)
         omega
       ·exact h0
      rw[hdl]at h1
      rw[hm]at HI
      clear hc hge hdl hn h2 hm HK
      go_wp2_with (first|(go_at_call 169;refine(HP.out _).mono ?_;rintro e w1 ⟨rfl,rfl⟩)|(go_at_call 170;refine(HI.out _).mono ?_;rintro e w1 ⟨rfl,rfl⟩))
      go_round
      case rel=>exact⟨k+m,by omega,by go_num,HE.out⟩
      case measure=>simp[intOf];omega
    ·rw[decide_eq_false hc]at HP
     have HE:Hid (k=V):=by
      have h:=HV.out
      rw[HD.out,mY _ _ HSP.out hc]at h
      exact h
     clear hc
     go_wp2_with (go_at_call 169;refine(HP.out _).mono ?_;rintro e w1 ⟨rfl,rfl⟩)
     go_ret
     exact⟨aH (by rw[HE.out]),rfl⟩
  ·go_wp2_with fail
   go_ret
   obtain rfl:k=s.size:=by omega
   have h:=HV.out
   rw[List.drop_of_length_le (Nat.le_of_eq (dE s))]at h
   exact⟨aH (by rw[←h];rfl),rfl⟩
end Lx
namespace Lx
theorem cr (s:ByteArray) (k:Nat):(s.extract 0 k).data.toList=s.data.toList.take k:=by
 rw[Lib.extract_data,List.drop_zero,Nat.sub_zero]
theorem m8 (s:ByteArray) (a k:Nat):(s.extract a k).size≤s.size:=by
 rw[ByteArray.size_extract];omega
theorem word_any (s:ByteArray) (w:World) (hs:s.size≤20000) (hk:KwAt w):Calls Tryz.prog 172 #[.string s] w fun e w'=>e= .returned (TRes (wordL s.data.toList))∧Ext w w':=by
 have hle:spanN inWord s.data.toList≤s.size:=span_le inWord s.data.toList
 have HS:=hid (fun W=>span_word s W (by unfold maxLen;omega))
 have HW:Hid (wordL s.data.toList=if isKw (s.data.toList.take (spanN inWord s.data.toList))=true then .tok 2 ((s.data.toList.take (spanN inWord s.data.toList)).map upC) (spanN inWord s.data.toList)
   else if 24<spanN inWord s.data.toList then .bad 3
   else .tok 1 ((s.data.toList.take (spanN inWord s.data.toList)).map loC) (spanN inWord s.data.toList)):=rfl
 generalize spanN inWord s.data.toList=n at*
 have hps:(s.extract 0 n).size≤20000:=Nat.le_trans (m8 s 0 n) hs
 have HU:Hid (∀W,Calls Tryz.prog 230 #[.string (s.extract 0 n)] W fun e w'=>e= .returned (.string ⟨((s.data.toList.take n).map upC).toArray⟩)∧Ext W w'):=by
  intro W
  have:=kh (s.extract 0 n) W hps
  rw[cr]at this
  exact this
 have HO:Hid (∀W,Calls Tryz.prog 231 #[.string (s.extract 0 n)] W fun e w'=>e= .returned (.string ⟨((s.data.toList.take n).map loC).toArray⟩)∧Ext W w'):=by
  intro W
  have:=lower_any (s.extract 0 n) W hps
  rw[cr]at this
  exact this
 have HK:Hid (∀W,Ext w W→Calls Tryz.prog 229 #[.string (s.extract 0 n)] W fun e w'=>e= .returned (.bool (isKw (s.data.toList.take n)))∧Ext W w'):=by
  intro W hW
  have:=keyword_any (s.extract 0 n) W hps (hk.ext hW)
  rw[cr]at this
  exact this
 have HB0:=hid (Blk.of_new w 70 [.int .i64 0,.string ⟨#[]⟩,.int .i64 0])
 clear hps
 cases hkw:isKw (s.data.toList.take n)
 ·by_cases h24:24<n
  ·have HE:Hid (wordL s.data.toList= .bad 3):=by unfold Hid;rw[HW.out,hkw,if_neg (by decide),if_pos h24]
   go_enter Tryz.func172,Tryz.ntmps172
   go_wp2_with (first|(go_at_call 227;refine(HS.out _).mono ?_;rintro e w1 ⟨rfl,rfl⟩)|(go_at_call 229;refine(HK.out _ ((Ext.refl w).alloc _)).mono ?_;rintro e w1 ⟨rfl,hx1⟩;rw[hkw];have HB:=hid (HB0.out.ext hx1);have hc0:=HB.out.cell 0;have hc1:=HB.out.cell 1;have hc2:=HB.out.cell 2;obtain⟨hf0,hf1,hf2,-⟩:=frz HB.out))
   have s0:(w1.setCell ⟨w.heap.size,0,none⟩ (.int .i64 0)).cell? ⟨w.heap.size,0,none⟩=some (.int .i64 0):=(HB.out.set 0 _).cell 0
   have s1:((w1.setCell ⟨w.heap.size,0,none⟩ (.int .i64 0)).setCell ⟨w.heap.size,1,none⟩ (.string ⟨#[]⟩)).cell? ⟨w.heap.size,1,none⟩=some (.string ⟨#[]⟩):=((HB.out.set 0 _).set 1 _).cell 1
   have s2:(((w1.setCell ⟨w.heap.size,0,none⟩ (.int .i64 0)).setCell ⟨w.heap.size,1,none⟩ (.string ⟨#[]⟩)).setCell ⟨w.heap.size,2,none⟩ (.int .i64 0)).cell? ⟨w.heap.size,2,none⟩=some (.int .i64 0):=(((HB.out.set 0 _).set 1 _).set 2 _).cell 2
   exact bodyPost_ret (v:= .tuple #[.agg #[.int .i64 0,.string ⟨#[]⟩,.int .i64 0],.int .i64 (0),.int .i64 (3)]) (by simp[results,Tryz.results172,go_sem,s0,s1,s2]) rfl ⟨by rw[HE.out];rfl,(((((Ext.refl w).alloc _).trans hx1).setCell (Nat.le_refl _) _).setCell (Nat.le_refl _) _).setCell (Nat.le_refl _) _⟩
  ·have HE:Hid (wordL s.data.toList= .tok 1 ((s.data.toList.take n).map loC) n):=by unfold Hid;rw[HW.out,hkw,if_neg (by decide),if_neg h24]
   generalize (s.data.toList.take n).map loC=L at*
   go_enter Tryz.func172,Tryz.ntmps172
   go_wp2_with (first|(go_at_call 227;refine(HS.out _).mono ?_;rintro e w1 ⟨rfl,rfl⟩)|(go_at_call 229;refine(HK.out _ ((Ext.refl w).alloc _)).mono ?_;rintro e w1 ⟨rfl,hx1⟩;rw[hkw])|(go_at_call 231;refine(HO.out _).mono ?_;rintro e w2 ⟨rfl,hx2⟩;have HB:=hid ((HB0.out.ext hx1).ext hx2);have hc0:=HB.out.cell 0;have hc1:=HB.out.cell 1;have hc2:=HB.out.cell 2;obtain⟨hf0,hf1,hf2,-⟩:=frz HB.out))
   have s0:(w2.setCell ⟨w.heap.size,0,none⟩ (.int .i64 1)).cell? ⟨w.heap.size,0,none⟩=some (.int .i64 1):=(HB.out.set 0 _).cell 0
   have s1:((w2.setCell ⟨w.heap.size,0,none⟩ (.int .i64 1)).setCell ⟨w.heap.size,1,none⟩ (.string ⟨L.toArray⟩)).cell? ⟨w.heap.size,1,none⟩=some (.string ⟨L.toArray⟩):=((HB.out.set 0 _).set 1 _).cell 1
   have s2:(((w2.setCell ⟨w.heap.size,0,none⟩ (.int .i64 1)).setCell ⟨w.heap.size,1,none⟩ (.string ⟨L.toArray⟩)).setCell ⟨w.heap.size,2,none⟩ (.int .i64 0)).cell? ⟨w.heap.size,2,none⟩=some (.int .i64 0):=(((HB.out.set 0 _).set 1 _).set 2 _).cell 2
   exact bodyPost_ret (v:= .tuple #[.agg #[.int .i64 1,.string ⟨L.toArray⟩,.int .i64 0],.int .i64 (n),.int .i64 (0)]) (by simp[results,Tryz.results172,go_sem,s0,s1,s2]) rfl ⟨by rw[HE.out];rfl,((((((Ext.refl w).alloc _).trans hx1).trans hx2).setCell (Nat.le_refl _) _).setCell (Nat.le_refl _) _).setCell (Nat.le_refl _) _⟩
 ·have HE:Hid (wordL s.data.toList= .tok 2 ((s.data.toList.take n).map upC) n):=by unfold Hid;rw[HW.out,hkw,if_pos rfl]
  generalize (s.data.toList.take n).map upC=L at*
  go_enter Tryz.func172,Tryz.ntmps172
  go_wp2_with (first|(go_at_call 227;refine(HS.out _).mono ?_;rintro e w1 ⟨rfl,rfl⟩)|(go_at_call 229;refine(HK.out _ ((Ext.refl w).alloc _)).mono ?_;rintro e w1 ⟨rfl,hx1⟩;rw[hkw])|(go_at_call 230;refine(HU.out _).mono ?_;rintro e w2 ⟨rfl,hx2⟩;have HB:=hid ((HB0.out.ext hx1).ext hx2);have hc0:=HB.out.cell 0;have hc1:=HB.out.cell 1;have hc2:=HB.out.cell 2;obtain⟨hf0,hf1,hf2,-⟩:=frz HB.out))
  have s0:(w2.setCell ⟨w.heap.size,0,none⟩ (.int .i64 2)).cell? ⟨w.heap.size,0,none⟩=some (.int .i64 2):=(HB.out.set 0 _).cell 0
  have s1:((w2.setCell ⟨w.heap.size,0,none⟩ (.int .i64 2)).setCell ⟨w.heap.size,1,none⟩ (.string ⟨L.toArray⟩)).cell? ⟨w.heap.size,1,none⟩=some (.string ⟨L.toArray⟩):=((HB.out.set 0 _).set 1 _).cell 1
  have s2:(((w2.setCell ⟨w.heap.size,0,none⟩ (.int .i64 2)).setCell ⟨w.heap.size,1,none⟩ (.string ⟨L.toArray⟩)).setCell ⟨w.heap.size,2,none⟩ (.int .i64 0)).cell? ⟨w.heap.size,2,none⟩=some (.int .i64 0):=(((HB.out.set 0 _).set 1 _).set 2 _).cell 2
  exact bodyPost_ret (v:= .tuple #[.agg #[.int .i64 2,.string ⟨L.toArray⟩,.int .i64 0],.int .i64 (n),.int .i64 (0)]) (by simp[results,Tryz.results172,go_sem,s0,s1,s2]) rfl ⟨by rw[HE.out];rfl,((((((Ext.refl w).alloc _).trans hx1).trans hx2).setCell (Nat.le_refl _) _).setCell (Nat.le_refl _) _).setCell (Nat.le_refl _) _⟩
theorem dv_snoc (l:List UInt8) (c:UInt8):digVal (l++ [c])=10*digVal l+(c.toNat-48):=by
 unfold digVal
 rw[List.foldl_append]
 rfl
theorem dv_mono (a b:List UInt8):digVal a≤digVal (a++b):=by
 have:digVal (a++b)=digVal a*10^b.length+digVal b:=by
  rw[←dv_from]
  unfold digVal
  rw[List.foldl_append]
 rw[this]
 have h1:digVal a*1≤digVal a*10^b.length:=Nat.mul_le_mul_left _ (Nat.pow_pos (by decide))
 omega
theorem dv_take (l:List UInt8) (i j:Nat) (h:i≤j):digVal (l.take i)≤digVal (l.take j):=by
 have:l.take j=l.take i++(l.take j).drop i:=by
  conv=>lhs;rw[←List.take_append_drop i (l.take j)]
  rw[List.take_take,Nat.min_eq_left h]
 rw[this]
 exact dv_mono _ _
theorem headW_at (s:ByteArray) (n:Nat):headW (s.data.toList.drop n)=if h:n<s.size then inWord s[n]else false:=by
 split
 ·rename_i h
  rw[dD s n h];rfl
 ·rw[List.drop_of_length_le (by rw[dE];omega)];rfl
theorem number_any (s:ByteArray) (w:World) (hs:s.size≤20000) (h0:0<s.size):Calls Tryz.prog 174 #[.string s] w fun e w'=>e= .returned (TRes (numL s.data.toList))∧Ext w w':=by
 have hle:spanN isDigit s.data.toList≤s.size:=span_le isDigit s.data.toList
 have HS:=hid (fun W=>mW s W (by unfold maxLen;omega))
 have HDG:=hid (span_all isDigit s.data.toList)
 have HN:Hid (numL s.data.toList=if (1<spanN isDigit s.data.toList∧s.data.toList.head? =some 48)∨headW (s.data.toList.drop (spanN isDigit s.data.toList))=true then .bad 2
   else if 2147483648<digVal (s.data.toList.take (spanN isDigit s.data.toList))then .bad 3
   else .tok 3 (s.data.toList.take (spanN isDigit s.data.toList)) (spanN isDigit s.data.toList)):=rfl
 have HH:Hid (s.data.toList.head? =some s[0]):=by unfold Hid;rw[dS s h0];rfl
 generalize spanN isDigit s.data.toList=n at*
 have HW:=hid (headW_at s n)
 have HB0:=hid (Blk.of_new w 70 [.int .i64 0,.string ⟨#[]⟩,.int .i64 0])
 have hc0:=HB0.out.cell 0
 have hc1:=HB0.out.cell 1
 have hc2:=HB0.out.cell 2
 obtain⟨hf0,hf1,hf2,-⟩:=frz HB0.out
 by_cases hz:1<n∧s[0].toNat=48
 ·have HE:Hid (numL s.data.toList= .bad 2):=by unfold Hid;rw[HN.out,if_pos (.inl ⟨hz.1,by rw[HH.out,num_ext s[0] 48 hz.2]⟩)]
  have b1:((s[0].toNat:Int)==48)=true:=by rw[hz.2];rfl
  obtain⟨hz1,_⟩:=hz
  go_enter Tryz.func174,Tryz.ntmps174
  go_wp2_with (go_at_call 227;refine(HS.out _).mono ?_;rintro e w1 ⟨rfl,rfl⟩)
  exact bodyPost_ret (v:= .tuple #[.agg #[.int .i64 0,.string ⟨#[]⟩,.int .i64 0],.int .i64 0,.int .i64 2]) (by simp[results,Tryz.results174,go_sem,hc0,hc1,hc2]) rfl ⟨by rw[HE.out];rfl,(Ext.refl w).alloc _⟩
 ·have HZ:Hid (¬(1<n∧s.data.toList.head? =some 48)):=by
   unfold Hid
   rw[HH.out]
   rintro⟨h1,h2⟩
   injection h2 with h2
   exact hz ⟨h1,by rw[h2];rfl⟩
  have hcase:n≤1∨(1<n∧((s[0].toNat:Int)==48)=false):=by
   rcases Nat.lt_or_ge 1 n with h|h
   ·right;exact⟨h,by rw[beq_eq_false_iff_ne];intro e;exact hz ⟨h,by omega⟩⟩
   ·left;omega
  clear hz
  by_cases hw:∃h:n<s.size,inWord s[n]=true
  ·obtain⟨hn,hw⟩:=hw
   have HE:Hid (numL s.data.toList= .bad 2):=by unfold Hid;rw[HN.out,if_pos (.inr (by rw[HW.out,dif_pos hn];exact hw))]
   have HI:=hid (fun W=>ea s[n] W)
   rw[hw]at HI
   rcases hcase with h1|⟨h1,b1⟩
   all_goals
    go_enter Tryz.func174,Tryz.ntmps174
    go_wp2_with (first|(go_at_call 227;refine(HS.out _).mono ?_;rintro e w1 ⟨rfl,rfl⟩)|(go_at_call 228;refine(HI.out _).mono ?_;rintro e w1 ⟨rfl,rfl⟩))
    exact bodyPost_ret (v:= .tuple #[.agg #[.int .i64 0,.string ⟨#[]⟩,.int .i64 0],.int .i64 0,.int .i64 2]) (by simp[results,Tryz.results174,go_sem,hc0,hc1,hc2]) rfl ⟨by rw[HE.out];rfl,(Ext.refl w).alloc _⟩
  ·have HF:Hid (headW (s.data.toList.drop n)=false):=by
    unfold Hid
    rw[HW.out]
    split
    ·rename_i h
     cases hx:inWord s[n]
     ·rfl
     ·exact absurd ⟨h,hx⟩ hw
    ·rfl
   have HE:Hid (numL s.data.toList=if 2147483648<digVal (s.data.toList.take n)then .bad 3 else .tok 3 (s.data.toList.take n) n):=by
    unfold Hid
    rw[HN.out,if_neg]
    rintro(h|h)
    ·exact HZ.out h
    ·rw[HF.out]at h;cases h
   have hcase2:(∃h:n<s.size,∀W,Calls Tryz.prog 228 #[.int .u8 s[n].toNat] W fun e w'=>e= .returned (.bool false)∧w'=W)∨¬n<s.size:=by
    rcases Nat.lt_or_ge n s.size with h|h
    ·left
     refine⟨h,fun W=>?_⟩
     have:=ea s[n] W
     cases hx:inWord s[n]
     ·rw[hx]at this;exact this
     ·exact absurd ⟨h,hx⟩ hw
    ·right;omega
   clear hw
   have hpl:(s.extract 0 n).size=n:=by rw[ByteArray.size_extract];omega
   have HPL:=hid hpl
   obtain⟨cap,w2,rest,hcv,hx2,hz2,hb2⟩:=i6 (P:=Tryz.prog) (w.alloc (.cells #[.int .i64 0,.string ⟨#[]⟩,.int .i64 0] 70)) 9 60 5 (s.extract 0 n) Tryz.underlying9 Tryz.underlying60 Tryz.underlying5
   rw[hpl]at hcv
   rw[cr]at hb2
   have HB:=hid (HB0.out.ext hx2)
   have HX:=hid (((Ext.refl w).alloc (.cells #[.int .i64 0,.string ⟨#[]⟩,.int .i64 0] 70)).trans hx2)
   have HBM:=hid hb2
   simp only[World.size_alloc]at hcv
   have HSZ:Hid ((w.alloc (.cells #[.int .i64 0,.string ⟨#[]⟩,.int .i64 0] 70)).heap.size=w.heap.size+1):=by unfold Hid;rw[World.size_alloc]
   clear hb2 hz2 hx2 hpl hc0 hc1 hc2 hf0 hf1 hf2
   rcases hcase with h1|⟨h1,b1⟩
   all_goals
    rcases hcase2 with ⟨hn,hI⟩|hn
    all_goals
     go_enter Tryz.func174,Tryz.ntmps174
     go_wp2_with (first|(go_at_call 227;refine(HS.out _).mono ?_;rintro e w1 ⟨rfl,rfl⟩)|(go_at_call 228;refine(hI _).mono ?_;rintro e w1 ⟨rfl,rfl⟩))
     have hc0:=HB.out.cell 0
     have hc1:=HB.out.cell 1
     have hc2:=HB.out.cell 2
     obtain⟨hf0,hf1,hf2,-⟩:=frz HB.out
     clear hcv
     go_loop [6,36] (fun v i=> ∃(k V:Nat),k≤n∧i= .int .i64 k∧v= .int .i64 V∧V=digVal (s.data.toList.take k)∧V≤2147483648) (fun _ i=>n- (intOf i).toNat)
     case atStart=>exact⟨0,0,Nat.zero_le _,rfl,rfl,rfl,Nat.zero_le _⟩
     case round=>
      obtain⟨k,V,hk,rfl,rfl,hv,hV⟩:=hrel
      have HV:=hid hv
      clear hv
      by_cases hlt:k<n
      ·have hlt2:k<s.size:=by omega
       have hlt3:k<(s.data.toList.take n).length:=by rw[List.length_take,dE];omega
       have hck:=HBM.out.cell (iD _ rest k hlt3)
       rw[List.getElem_take]at hck
       have hge:(s.data.toList[k]'hlt2)=s[k]:=rfl
       rw[hge,HSZ.out]at hck
       have hdg:isDigit s[k]=true:=HDG.out s[k] (by
        have:=List.getElem_mem hlt3
        rw[List.getElem_take]at this
        exact this)
       have hd:48≤s[k].toNat∧s[k].toNat≤57:=by unfold isDigit at hdg;grind
       obtain⟨hd1,hd2⟩:=hd
       clear hdg hge hlt3
       have HT:Hid (digVal (s.data.toList.take (k+1))=10*V+(s[k].toNat-48)):=by
        unfold Hid
        rw[take1 s k hlt2,dv_snoc,←HV.out]
       by_cases hbig:2147483648<10*V+(s[k].toNat-48)
       ·have HR:Hid (numL s.data.toList= .bad 3):=by
         unfold Hid
         rw[HE.out,if_pos]
         have:=dv_take s.data.toList (k+1) n (by omega)
         rw[HT.out]at this
         omega
        go_wp2_with fail
        have s0:(w2.setCell ⟨w.heap.size,0,none⟩ (.int .i64 0)).cell? ⟨w.heap.size,0,none⟩=some (.int .i64 0):=(HB.out.set 0 _).cell 0
        have s1:((w2.setCell ⟨w.heap.size,0,none⟩ (.int .i64 0)).setCell ⟨w.heap.size,1,none⟩ (.string ⟨#[]⟩)).cell? ⟨w.heap.size,1,none⟩=some (.string ⟨#[]⟩):=((HB.out.set 0 _).set 1 _).cell 1
        have s2:(((w2.setCell ⟨w.heap.size,0,none⟩ (.int .i64 0)).setCell ⟨w.heap.size,1,none⟩ (.string ⟨#[]⟩)).setCell ⟨w.heap.size,2,none⟩ (.int .i64 0)).cell? ⟨w.heap.size,2,none⟩=some (.int .i64 0):=(((HB.out.set 0 _).set 1 _).set 2 _).cell 2
        exact bodyPost_ret (v:= .tuple #[.agg #[.int .i64 0,.string ⟨#[]⟩,.int .i64 0],.int .i64 (0),.int .i64 (3)]) (by simp[results,Tryz.results174,go_sem,s0,s1,s2]) rfl ⟨by rw[HR.out];rfl,((HX.out.setCell (Nat.le_refl _) _).setCell (Nat.le_refl _) _).setCell (Nat.le_refl _) _⟩
       ·go_wp2_with fail
        go_round
        case rel=>exact⟨k+1,10*V+(s[k].toNat-48),by omega,by go_num,by go_num,HT.out.symm,by omega⟩
        case measure=>simp[intOf];omega
      ·obtain rfl:k=n:=by omega
       have HR:Hid (numL s.data.toList= .tok 3 (s.data.toList.take k) k):=by
        unfold Hid
        rw[HE.out,if_neg]
        rw[←HV.out]
        omega
       have HXT:Hid (s.extract 0 k=⟨(s.data.toList.take k).toArray⟩):=by_list (by rw[cr])
       go_wp2_with fail
       have s0:(w2.setCell ⟨w.heap.size,0,none⟩ (.int .i64 3)).cell? ⟨w.heap.size,0,none⟩=some (.int .i64 3):=(HB.out.set 0 _).cell 0
       have s1:((w2.setCell ⟨w.heap.size,0,none⟩ (.int .i64 3)).setCell ⟨w.heap.size,1,none⟩ (.string (s.extract 0 k))).cell? ⟨w.heap.size,1,none⟩=some (.string (s.extract 0 k)):=((HB.out.set 0 _).set 1 _).cell 1
       have s2:(((w2.setCell ⟨w.heap.size,0,none⟩ (.int .i64 3)).setCell ⟨w.heap.size,1,none⟩ (.string (s.extract 0 k))).setCell ⟨w.heap.size,2,none⟩ (.int .i64 0)).cell? ⟨w.heap.size,2,none⟩=some (.int .i64 0):=(((HB.out.set 0 _).set 1 _).set 2 _).cell 2
       exact bodyPost_ret (v:= .tuple #[.agg #[.int .i64 3,.string (s.extract 0 k),.int .i64 0],.int .i64 (k),.int .i64 (0)]) (by simp[results,Tryz.results174,go_sem,s0,s1,s2]) rfl ⟨by rw[HR.out,HXT.out];rfl,((HX.out.setCell (Nat.le_refl _) _).setCell (Nat.le_refl _) _).setCell (Nat.le_refl _) _⟩
end Lx
namespace Lx
def two (c d:UInt8):Prop:=(c=60∧d=62)∨(c=60∧d=61)∨(c=62∧d=61)
theorem kM (c d:UInt8) (r:List UInt8) (h:two c d):symN (c::d::r)=2:=by rw[symN];exact if_pos h
theorem sym_one (c:UInt8) (r:List UInt8) (h:∀d q,r=d::q→¬two c d):symN (c::r)=if c∈syms then 1 else 0:=by
 cases r with
 |nil=>rw[symN]
 |cons d q=>rw[symN];exact if_neg (h d q rfl)
end Lx
namespace Lx
theorem fv (t:TR):∃(a:Int) (x:ByteArray) (p n e:Int),TRes t= .tuple #[.agg #[.int .i64 a,.string x,.int .i64 p],.int .i64 n,.int .i64 e]:=by
 cases t with
 |bad e=>exact⟨0,⟨#[]⟩,0,0,e,rfl⟩
 |tok k x n=>exact⟨k,⟨x.toArray⟩,0,n,0,rfl⟩
theorem kN (s:ByteArray) (w:World) (hs:s.size≤20000) (h0:0<s.size) (hk:KwAt w) (hl:isLetter s[0]=true):Calls Tryz.prog 97 #[.string s] w fun e w'=>e= .returned (TRes (tokL s.data.toList))∧Ext w w':=by
 have HE:Hid (tokL s.data.toList=wordL s.data.toList):=by
  unfold Hid
  rw[dS s h0,tokL,if_pos hl]
 have HL:=hid (fun W=>di s[0] W)
 rw[hl]at HL
 have HC:=hid (fun W (h:Ext w W)=>word_any s W hs (hk.ext h))
 obtain⟨a,x,p,n,e,hsh⟩:=fv (wordL s.data.toList)
 rw[hsh]at HC
 have HR:Hid (TRes (tokL s.data.toList)= .tuple #[.agg #[.int .i64 a,.string x,.int .i64 p],.int .i64 n,.int .i64 e]):=by unfold Hid;rw[HE.out,hsh]
 generalize TRes (tokL s.data.toList)=V at*
 have HB0:=hid (Blk.of_new w 70 [.int .i64 0,.string ⟨#[]⟩,.int .i64 0])
 clear HE hsh hl
 go_enter Tryz.func97,Tryz.ntmps97
 go_wp2_with (first|(go_at_call 171;refine(HL.out _).mono ?_;rintro e' w1 ⟨rfl,rfl⟩)|(go_at_call 172;refine(HC.out _ ((Ext.refl w).alloc _)).mono ?_;rintro e' w1 ⟨rfl,hx1⟩;have HB:=hid (HB0.out.ext hx1);have hc0:=HB.out.cell 0;have hc1:=HB.out.cell 1;have hc2:=HB.out.cell 2;obtain⟨hf0,hf1,hf2,-⟩:=frz HB.out))
 have s0:(w1.setCell ⟨w.heap.size,0,none⟩ (.int .i64 a)).cell? ⟨w.heap.size,0,none⟩=some (.int .i64 a):=(HB.out.set 0 _).cell 0
 have s1:((w1.setCell ⟨w.heap.size,0,none⟩ (.int .i64 a)).setCell ⟨w.heap.size,1,none⟩ (.string x)).cell? ⟨w.heap.size,1,none⟩=some (.string x):=((HB.out.set 0 _).set 1 _).cell 1
 have s2:(((w1.setCell ⟨w.heap.size,0,none⟩ (.int .i64 a)).setCell ⟨w.heap.size,1,none⟩ (.string x)).setCell ⟨w.heap.size,2,none⟩ (.int .i64 p)).cell? ⟨w.heap.size,2,none⟩=some (.int .i64 p):=(((HB.out.set 0 _).set 1 _).set 2 _).cell 2
 exact bodyPost_ret (v:= .tuple #[.agg #[.int .i64 a,.string x,.int .i64 p],.int .i64 (n),.int .i64 (e)]) (by simp[results,Tryz.results97,go_sem,s0,s1,s2]) rfl ⟨by rw[HR.out],(((((Ext.refl w).alloc _).trans hx1).setCell (Nat.le_refl _) _).setCell (Nat.le_refl _) _).setCell (Nat.le_refl _) _⟩
theorem lQ (s:ByteArray) (w:World) (hs:s.size≤20000) (h0:0<s.size) (hl:isLetter s[0]=false) (hd:isDigit s[0]=true):Calls Tryz.prog 97 #[.string s] w fun e w'=>e= .returned (TRes (tokL s.data.toList))∧Ext w w':=by
 have HE:Hid (tokL s.data.toList=numL s.data.toList):=by
  unfold Hid
  rw[dS s h0,tokL,if_neg (by rw[hl];decide),if_pos hd]
 have HL:=hid (fun W=>di s[0] W)
 rw[hl]at HL
 have HD:=hid (fun W=>da s[0] W)
 rw[hd]at HD
 have HC:=hid (fun W=>number_any s W hs h0)
 obtain⟨a,x,p,n,e,hsh⟩:=fv (numL s.data.toList)
 rw[hsh]at HC
 have HR:Hid (TRes (tokL s.data.toList)= .tuple #[.agg #[.int .i64 a,.string x,.int .i64 p],.int .i64 n,.int .i64 e]):=by unfold Hid;rw[HE.out,hsh]
 generalize TRes (tokL s.data.toList)=V at*
 have HB0:=hid (Blk.of_new w 70 [.int .i64 0,.string ⟨#[]⟩,.int .i64 0])
 clear HE hsh hl hd
 go_enter Tryz.func97,Tryz.ntmps97
 go_wp2_with (first|(go_at_call 171;refine(HL.out _).mono ?_;rintro e' w1 ⟨rfl,rfl⟩)|(go_at_call 173;refine(HD.out _).mono ?_;rintro e' w1 ⟨rfl,rfl⟩)|(go_at_call 174;refine(HC.out _).mono ?_;rintro e' w1 ⟨rfl,hx1⟩;have HB:=hid (HB0.out.ext hx1);have hc0:=HB.out.cell 0;have hc1:=HB.out.cell 1;have hc2:=HB.out.cell 2;obtain⟨hf0,hf1,hf2,-⟩:=frz HB.out))
 have s0:(w1.setCell ⟨w.heap.size,0,none⟩ (.int .i64 a)).cell? ⟨w.heap.size,0,none⟩=some (.int .i64 a):=(HB.out.set 0 _).cell 0
 have s1:((w1.setCell ⟨w.heap.size,0,none⟩ (.int .i64 a)).setCell ⟨w.heap.size,1,none⟩ (.string x)).cell? ⟨w.heap.size,1,none⟩=some (.string x):=((HB.out.set 0 _).set 1 _).cell 1
 have s2:(((w1.setCell ⟨w.heap.size,0,none⟩ (.int .i64 a)).setCell ⟨w.heap.size,1,none⟩ (.string x)).setCell ⟨w.heap.size,2,none⟩ (.int .i64 p)).cell? ⟨w.heap.size,2,none⟩=some (.int .i64 p):=(((HB.out.set 0 _).set 1 _).set 2 _).cell 2
 exact bodyPost_ret (v:= .tuple #[.agg #[.int .i64 a,.string x,.int .i64 p],.int .i64 (n),.int .i64 (e)]) (by simp[results,Tryz.results97,go_sem,s0,s1,s2]) rfl ⟨by rw[HR.out],(((((Ext.refl w).alloc _).trans hx1).setCell (Nat.le_refl _) _).setCell (Nat.le_refl _) _).setCell (Nat.le_refl _) _⟩
theorem na (s:ByteArray) (w:World) (hs:s.size≤20000) (h0:0<s.size) (hq:s[0].toNat=39):Calls Tryz.prog 97 #[.string s] w fun e w'=>e= .returned (TRes (tokL s.data.toList))∧Ext w w':=by
 have hl:isLetter s[0]=false:=by unfold isLetter;rw[hq];rfl
 have hd:isDigit s[0]=false:=by unfold isDigit;rw[hq];rfl
 have HE:Hid (tokL s.data.toList=textL (s.data.toList.drop 1)):=by
  unfold Hid
  conv=>lhs;rw[dS s h0]
  rw[tokL,if_neg (by rw[hl];decide),if_neg (by rw[hd];decide),if_pos hq]
 have HL:=hid (fun W=>di s[0] W)
 rw[hl]at HL
 have HD:=hid (fun W=>da s[0] W)
 rw[hd]at HD
 have HC:=hid (fun W=>text_any s W hs h0)
 have b1:((s[0].toNat:Int)==39)=true:=by rw[hq];rfl
 obtain⟨a,x,p,n,e,hsh⟩:=fv (textL (s.data.toList.drop 1))
 rw[hsh]at HC
 have HR:Hid (TRes (tokL s.data.toList)= .tuple #[.agg #[.int .i64 a,.string x,.int .i64 p],.int .i64 n,.int .i64 e]):=by unfold Hid;rw[HE.out,hsh]
 generalize TRes (tokL s.data.toList)=V at*
 have HB0:=hid (Blk.of_new w 70 [.int .i64 0,.string ⟨#[]⟩,.int .i64 0])
 clear HE hsh hl hd hq
 go_enter Tryz.func97,Tryz.ntmps97
 go_wp2_with (first|(go_at_call 171;refine(HL.out _).mono ?_;rintro e' w1 ⟨rfl,rfl⟩)|(go_at_call 173;refine(HD.out _).mono ?_;rintro e' w1 ⟨rfl,rfl⟩)|(go_at_call 175;refine(HC.out _).mono ?_;rintro e' w1 ⟨rfl,hx1⟩;have HB:=hid (HB0.out.ext hx1);have hc0:=HB.out.cell 0;have hc1:=HB.out.cell 1;have hc2:=HB.out.cell 2;obtain⟨hf0,hf1,hf2,-⟩:=frz HB.out))
 have s0:(w1.setCell ⟨w.heap.size,0,none⟩ (.int .i64 a)).cell? ⟨w.heap.size,0,none⟩=some (.int .i64 a):=(HB.out.set 0 _).cell 0
 have s1:((w1.setCell ⟨w.heap.size,0,none⟩ (.int .i64 a)).setCell ⟨w.heap.size,1,none⟩ (.string x)).cell? ⟨w.heap.size,1,none⟩=some (.string x):=((HB.out.set 0 _).set 1 _).cell 1
 have s2:(((w1.setCell ⟨w.heap.size,0,none⟩ (.int .i64 a)).setCell ⟨w.heap.size,1,none⟩ (.string x)).setCell ⟨w.heap.size,2,none⟩ (.int .i64 p)).cell? ⟨w.heap.size,2,none⟩=some (.int .i64 p):=(((HB.out.set 0 _).set 1 _).set 2 _).cell 2
 exact bodyPost_ret (v:= .tuple #[.agg #[.int .i64 a,.string x,.int .i64 p],.int .i64 (n),.int .i64 (e)]) (by simp[results,Tryz.results97,go_sem,s0,s1,s2]) rfl ⟨by rw[HR.out],(((((Ext.refl w).alloc _).trans hx1).setCell (Nat.le_refl _) _).setCell (Nat.le_refl _) _).setCell (Nat.le_refl _) _⟩
def iw:Nat→List UInt8
 |0=> [60,62]
 |1=> [60,61]
 |2=> [62,61]
 |_=> []
def symS (k:Nat):ByteArray:=⟨(iw k).toArray⟩
theorem symS_cell (k:Nat) (h:k<3): [Value.string ⟨#[60,62]⟩,Value.string ⟨#[60,61]⟩,Value.string ⟨#[62,61]⟩][k]? =some (.string (symS k)):=by
 match k,h with
 |0,_=>rfl
 |1,_=>rfl
 |2,_=>rfl
theorem hp_two (k:Nat) (hk:k<3) (l:List UInt8) (h:Lib.hasPrefix l (iw k)=true):symN l=2∧l.take 2=iw k:=by
 unfold Lib.hasPrefix at h
 obtain⟨r,rfl⟩:=List.isPrefixOf_iff_prefix.1 h
 match k,hk with
 |0,_=>exact⟨kM 60 62 r (.inl ⟨rfl,rfl⟩),rfl⟩
 |1,_=>exact⟨kM 60 61 r (.inr (.inl ⟨rfl,rfl⟩)),rfl⟩
 |2,_=>exact⟨kM 62 61 r (.inr (.inr ⟨rfl,rfl⟩)),rfl⟩
theorem hp_no (c:UInt8) (r:List UInt8) (h:∀k,k<3→Lib.hasPrefix (c::r) (iw k)=false):symN (c::r)=if c∈syms then 1 else 0:=by
 refine sym_one c r fun d q e=>?_
 subst e
 rintro(⟨rfl,rfl⟩|⟨rfl,rfl⟩|⟨rfl,rfl⟩)
 ·have:=h 0 (by decide);simp[Lib.hasPrefix,iw,List.isPrefixOf]at this
 ·have:=h 1 (by decide);simp[Lib.hasPrefix,iw,List.isPrefixOf]at this
 ·have:=h 2 (by decide);simp[Lib.hasPrefix,iw,List.isPrefixOf]at this
theorem idx_mem (c:UInt8):∀l:List UInt8,(0≤Lib.indexByte l c)↔c∈l
 | []=>by simp[Lib.indexByte]
 |b::l=>by
  have ih:=idx_mem c l
  have hg:=Lib.indexByte_ge l c
  rw[Lib.indexByte]
  by_cases hb:b=c
  ·subst hb;simp
  ·have e:(b==c)=false:=by simpa using hb
   rw[e]
   simp only[Bool.false_eq_true,if_false,List.mem_cons]
   have hcb:¬c=b:=fun h=>hb h.symm
   by_cases hl:Lib.indexByte l c= -1
   ·rw[hl]at ih ⊢
    simp only[beq_self_eq_true,if_true,hcb,false_or]
    exact ih
   ·have e2:(Lib.indexByte l c== -1)=false:=by simpa using hl
    rw[e2]
    simp only[Bool.false_eq_true,if_false,hcb,false_or]
    rw[←ih]
    omega
theorem first_of (P:Nat→Bool):∃m,m≤3∧(∀j,j<m→P j=false)∧(m<3→P m=true):=by
 cases h0:P 0
 ·cases h1:P 1
  ·cases h2:P 2
   ·exact⟨3,Nat.le_refl _,fun j hj=>by rcases(by omega:j=0∨j=1∨j=2)with rfl|rfl|rfl<;>assumption,fun h=>absurd h (Nat.lt_irrefl _)⟩
   ·exact⟨2,by decide,fun j hj=>by rcases(by omega:j=0∨j=1)with rfl|rfl<;>assumption,fun _=>h2⟩
  ·exact⟨1,by decide,fun j hj=>by rw[show j=0 by omega];exact h0,fun _=>h1⟩
 ·exact⟨0,by decide,fun j hj=>absurd hj (Nat.not_lt_zero _),fun _=>h0⟩
theorem kO (s:ByteArray) (w:World) (hs:s.size≤20000) (h0:0<s.size) (hl:isLetter s[0]=false) (hd:isDigit s[0]=false) (hq:¬s[0].toNat=39):Calls Tryz.prog 97 #[.string s] w fun e w'=>e= .returned (TRes (tokL s.data.toList))∧Ext w w':=by
 have HE:Hid (tokL s.data.toList=symL s.data.toList):=by
  unfold Hid
  rw[dS s h0,tokL,if_neg (by rw[hl];decide),if_neg (by rw[hd];decide),if_neg hq]
 have HL:=hid (fun W=>di s[0] W)
 rw[hl]at HL
 have HD:=hid (fun W=>da s[0] W)
 rw[hd]at HD
 have b1:((s[0].toNat:Int)==39)=false:=by rw[beq_eq_false_iff_ne];omega
 have HP:Hid (∀k W,Calls Tryz.prog 169 #[.string s,.string (symS k)] W fun e w'=>e= .returned (.bool (Lib.hasPrefix s.data.toList (iw k)))∧w'=W):=fun k W=>Tryz.strings_HasPrefix s (symS k) W
 have HTW:=hid (fun k hk=>hp_two k hk s.data.toList)
 have HNO:Hid ((∀k,k<3→Lib.hasPrefix s.data.toList (iw k)=false)→symN s.data.toList=if s[0]∈syms then 1 else 0):=by
  unfold Hid
  intro h
  rw[dS s h0]at h ⊢
  exact hp_no _ _ h
 generalize hPP:(fun k=>Lib.hasPrefix s.data.toList (iw k))=P at*
 have hP:∀k,Lib.hasPrefix s.data.toList (iw k)=P k:=fun k=>by rw[←hPP]
 simp only[hP]at HP HTW HNO
 clear hP hPP
 obtain⟨m,hm,hno,hyes⟩:=first_of P
 have HNM:=hid hno
 have HB0:=hid (Blk.of_new w 70 [.int .i64 0,.string ⟨#[]⟩,.int .i64 0])
 have HI:Hid (∀W,Calls Tryz.prog 170 #[.string ⟨#[40,41,44,59,46,42,43,45,47,37,61,60,62]⟩,.int .u8 s[0].toNat] W fun e w'=>e= .returned (.int .i64 (Lib.indexByte syms s[0]))∧w'=W):=by
  intro W
  have:=Tryz.strings_IndexByte ⟨#[40,41,44,59,46,42,43,45,47,37,61,60,62]⟩ (s[0].toNat:Int) W
  rw[Lib.byte_back']at this
  exact this
 have hmem:=idx_mem s[0] syms
 have HSL:Hid (symL s.data.toList=if symN s.data.toList=0 then .bad 2 else .tok 5 (s.data.toList.take (symN s.data.toList)) (symN s.data.toList)):=rfl
 have HF:Hid (s.extract 0 1=⟨(s.data.toList.take 1).toArray⟩):=by_list (by rw[cr])
 generalize symN s.data.toList=SN at*
 clear hl hd hq
 go_enter Tryz.func97,Tryz.ntmps97
 go_wp2_with (first|(go_at_call 171;refine(HL.out _).mono ?_;rintro e' w1 ⟨rfl,rfl⟩)|(go_at_call 173;refine(HD.out _).mono ?_;rintro e' w1 ⟨rfl,rfl⟩))
 have HB:=hid (HB0.out.ext ((Ext.refl _).alloc (.cells #[.string ⟨#[60,62]⟩,.string ⟨#[60,61]⟩,.string ⟨#[62,61]⟩] 9)))
 have HB3:=hid (Blk.of_new (w.alloc (.cells #[.int .i64 0,.string ⟨#[]⟩,.int .i64 0] 70)) 9 [.string ⟨#[60,62]⟩,.string ⟨#[60,61]⟩,.string ⟨#[62,61]⟩])
 have HX:Hid (Ext w ((w.alloc (.cells #[.int .i64 0,.string ⟨#[]⟩,.int .i64 0] 70)).alloc (.cells #[.string ⟨#[60,62]⟩,.string ⟨#[60,61]⟩,.string ⟨#[62,61]⟩] 9))):=((Ext.refl _).alloc _).alloc _
 have HBs:Hid (Blk ((w.alloc (.cells #[.int .i64 0,.string ⟨#[]⟩,.int .i64 0] 70)).alloc (.cells #[.string ⟨#[60,62]⟩,.string ⟨#[60,61]⟩,.string ⟨#[62,61]⟩] 9)) (w.heap.size+1) 9 [.string ⟨#[60,62]⟩,.string ⟨#[60,61]⟩,.string ⟨#[62,61]⟩]):=by
  have:=HB3.out
  rw[World.size_alloc]at this
  exact this
 clear HB3
 generalize ((w.alloc (.cells #[.int .i64 0,.string ⟨#[]⟩,.int .i64 0] 70)).alloc (.cells #[.string ⟨#[60,62]⟩,.string ⟨#[60,61]⟩,.string ⟨#[62,61]⟩] 9))=w1 at*
 have hc0:=HB.out.cell 0
 have hc1:=HB.out.cell 1
 have hc2:=HB.out.cell 2
 obtain⟨hf0,hf1,hf2,-⟩:=frz HB.out
 go_loop [36] (fun i=> ∃k:Nat,k≤m∧i= .int .i64 k) (fun i=>3- (intOf i).toNat)
 case atStart=>exact⟨0,Nat.zero_le _,rfl⟩
 case round=>
  obtain⟨k,hk,rfl⟩:=hrel
  by_cases hlt:k<3
  ·have hcs:=HBs.out.cell_some (symS_cell k hlt)
   cases hpk:P k
   ·have hkm:k<m:=by
     rcases Nat.lt_or_ge k m with h|h
     ·exact h
     ·exfalso
      obtain rfl:k=m:=by omega
      rw[hyes hlt]at hpk
      cases hpk
    have HPK:Hid (P k=false):=hpk
    clear hpk hyes hno
    go_wp2_with (go_at_call 169;refine(HP.out k _).mono ?_;rintro e' w2 ⟨rfl,rfl⟩;rw[HPK.out])
    go_round
    case rel=>exact⟨k+1,by omega,by go_num⟩
    case measure=>simp[intOf];omega
   ·have HPK:Hid (P k=true):=hpk
    obtain⟨h1,h2⟩:=HTW.out k hlt hpk
    have HR:Hid (tokL s.data.toList= .tok 5 (iw k) 2):=by
     unfold Hid
     rw[HE.out,HSL.out,h1,if_neg (by decide),h2]
    clear hpk hyes hno h1 h2
    go_wp2_with (go_at_call 169;refine(HP.out k _).mono ?_;rintro e' w2 ⟨rfl,rfl⟩;rw[HPK.out])
    have s0:(w2.setCell ⟨w.heap.size,0,none⟩ (.int .i64 5)).cell? ⟨w.heap.size,0,none⟩=some (.int .i64 5):=(HB.out.set 0 _).cell 0
    have s1:((w2.setCell ⟨w.heap.size,0,none⟩ (.int .i64 5)).setCell ⟨w.heap.size,1,none⟩ (.string (symS k))).cell? ⟨w.heap.size,1,none⟩=some (.string (symS k)):=((HB.out.set 0 _).set 1 _).cell 1
    have s2:(((w2.setCell ⟨w.heap.size,0,none⟩ (.int .i64 5)).setCell ⟨w.heap.size,1,none⟩ (.string (symS k))).setCell ⟨w.heap.size,2,none⟩ (.int .i64 0)).cell? ⟨w.heap.size,2,none⟩=some (.int .i64 0):=(((HB.out.set 0 _).set 1 _).set 2 _).cell 2
    exact bodyPost_ret (v:= .tuple #[.agg #[.int .i64 5,.string (symS k),.int .i64 0],.int .i64 (2),.int .i64 (0)]) (by simp[results,Tryz.results97,go_sem,s0,s1,s2]) rfl ⟨by rw[HR.out];rfl,((HX.out.setCell (Nat.le_refl _) _).setCell (Nat.le_refl _) _).setCell (Nat.le_refl _) _⟩
  ·obtain rfl:k=3:=by omega
   obtain rfl:m=3:=by omega
   have HSN:Hid (SN=if s[0]∈syms then 1 else 0):=HNO.out HNM.out
   clear hyes hno
   by_cases hin:s[0]∈syms
   ·have hge:0≤Lib.indexByte syms s[0]:=hmem.2 hin
    have HR:Hid (tokL s.data.toList= .tok 5 (s.data.toList.take 1) 1):=by
     unfold Hid
     have h1:=HSN.out
     rw[if_pos hin]at h1
     rw[HE.out,HSL.out,h1,if_neg (by decide)]
    clear hin hmem
    generalize Lib.indexByte syms s[0]=I at*
    go_wp2_with (go_at_call 170;refine(HI.out _).mono ?_;rintro e' w2 ⟨rfl,rfl⟩)
    have s0:(w2.setCell ⟨w.heap.size,0,none⟩ (.int .i64 5)).cell? ⟨w.heap.size,0,none⟩=some (.int .i64 5):=(HB.out.set 0 _).cell 0
    have s1:((w2.setCell ⟨w.heap.size,0,none⟩ (.int .i64 5)).setCell ⟨w.heap.size,1,none⟩ (.string (s.extract 0 1))).cell? ⟨w.heap.size,1,none⟩=some (.string (s.extract 0 1)):=((HB.out.set 0 _).set 1 _).cell 1
    have s2:(((w2.setCell ⟨w.heap.size,0,none⟩ (.int .i64 5)).setCell ⟨w.heap.size,1,none⟩ (.string (s.extract 0 1))).setCell ⟨w.heap.size,2,none⟩ (.int .i64 0)).cell? ⟨w.heap.size,2,none⟩=some (.int .i64 0):=(((HB.out.set 0 _).set 1 _).set 2 _).cell 2
    exact bodyPost_ret (v:= .tuple #[.agg #[.int .i64 5,.string (s.extract 0 1),.int .i64 0],.int .i64 (1),.int .i64 (0)]) (by simp[results,Tryz.results97,go_sem,s0,s1,s2]) rfl ⟨by rw[HR.out,HF.out];rfl,((HX.out.setCell (Nat.le_refl _) _).setCell (Nat.le_refl _) _).setCell (Nat.le_refl _) _⟩
   ·have hge:¬0≤Lib.indexByte syms s[0]:=fun h=>hin (hmem.1 h)
    have HR:Hid (tokL s.data.toList= .bad 2):=by
     unfold Hid
     have h1:=HSN.out
     rw[if_neg hin]at h1
     rw[HE.out,HSL.out,h1,if_pos rfl]
    clear hin hmem
    generalize Lib.indexByte syms s[0]=I at*
    go_wp2_with (go_at_call 170;refine(HI.out _).mono ?_;rintro e' w2 ⟨rfl,rfl⟩)
    have s0:(w2.setCell ⟨w.heap.size,0,none⟩ (.int .i64 0)).cell? ⟨w.heap.size,0,none⟩=some (.int .i64 0):=(HB.out.set 0 _).cell 0
    have s1:((w2.setCell ⟨w.heap.size,0,none⟩ (.int .i64 0)).setCell ⟨w.heap.size,1,none⟩ (.string ⟨#[]⟩)).cell? ⟨w.heap.size,1,none⟩=some (.string ⟨#[]⟩):=((HB.out.set 0 _).set 1 _).cell 1
    have s2:(((w2.setCell ⟨w.heap.size,0,none⟩ (.int .i64 0)).setCell ⟨w.heap.size,1,none⟩ (.string ⟨#[]⟩)).setCell ⟨w.heap.size,2,none⟩ (.int .i64 0)).cell? ⟨w.heap.size,2,none⟩=some (.int .i64 0):=(((HB.out.set 0 _).set 1 _).set 2 _).cell 2
    exact bodyPost_ret (v:= .tuple #[.agg #[.int .i64 0,.string ⟨#[]⟩,.int .i64 0],.int .i64 (0),.int .i64 (2)]) (by simp[results,Tryz.results97,go_sem,s0,s1,s2]) rfl ⟨by rw[HR.out];rfl,((HX.out.setCell (Nat.le_refl _) _).setCell (Nat.le_refl _) _).setCell (Nat.le_refl _) _⟩
theorem token_any (s:ByteArray) (w:World) (hs:s.size≤20000) (h0:0<s.size) (hk:KwAt w):Calls Tryz.prog 97 #[.string s] w fun e w'=>e= .returned (TRes (tokL s.data.toList))∧Ext w w':=by
 cases hl:isLetter s[0]
 ·cases hd:isDigit s[0]
  ·by_cases hq:s[0].toNat=39
   ·exact na s w hs h0 hq
   ·exact kO s w hs h0 hl hd hq
  ·exact lQ s w hs h0 hl hd
 ·exact kN s w hs h0 hk hl
end Lx
namespace Lx
def Tk.cells (t:Tk):List Value:= [.int .i64 t.kind,.string ⟨t.text.toArray⟩,.int .i64 t.pos]
def tkc (l:List Tk):List Value:=l.flatMap Tk.cells
theorem tkc_app (l m:List Tk):tkc (l++m)=tkc l++tkc m:=by simp[tkc]
theorem tkc_one (a:Tk):tkc [a]=a.cells:=by simp[tkc]
theorem lR (l:List Tk) (a:Tk):tkc (l++ [a])=tkc l++a.cells:=by rw[tkc_app,tkc_one]
theorem lS (a:Tk) (l:List Tk):tkc (a::l)=a.cells++tkc l:=by simp[tkc]
theorem tkc_len (l:List Tk):(tkc l).length=l.length*3:=by
 induction l with
 |nil=>rfl
 |cons a l ih=>rw[lS,List.length_append,ih];simp[Tk.cells];omega
theorem kP (l:List Tk):∀(i j:Nat) (a:Tk),l[i]? =some a→j<3→(tkc l)[i*3+j]? =a.cells[j]? :=by
 induction l with
 |nil=>intro i j a h;simp at h
 |cons x l ih=>
  intro i j a h hj
  rw[lS]
  cases i with
  |zero=>
   simp at h
   subst h
   rw[List.getElem?_append_left (by simp[Tk.cells];omega)]
   simp
  |succ i=>
   rw[List.getElem?_append_right (by simp[Tk.cells];omega)]
   have e:(i+1)*3+j-x.cells.length=i*3+j:=by simp[Tk.cells];omega
   rw[e]
   exact ih i j a (by simpa using h) hj
def jb (w:World) (A:Option Addr) (l:List Tk):Prop:=
 ∀(i:Nat) (a:Tk),l[i]? =some a→∃b off,A=some ⟨b,off,none⟩∧w.cell? ⟨b,off+i*3,none⟩=some (.int .i64 a.kind)∧w.cell? ⟨b,off+i*3+1,none⟩=some (.string ⟨a.text.toArray⟩)∧
  w.cell? ⟨b,off+i*3+2,none⟩=some (.int .i64 a.pos)
theorem jb.ext {w w':World} {A:Option Addr} {l:List Tk} (h:jb w A l) (hx:Ext w w'):jb w' A l:=fun i a ht=>by
 obtain⟨b,off,hA,h0,h1,h2⟩:=h i a ht
 exact⟨b,off,hA,hx.keep h0,hx.keep h1,hx.keep h2⟩
theorem own_tks {w:World} {B e n:Nat} {v:Value} {l:List Tk} (h:w.ownsRow B e 3 v n (tkc l)):∃A c,v= .slice A n c∧jb w A l∧l.length=n:=by
 have hl:l.length=n:=by have:=h.1;rw[tkc_len]at this;omega
 have hc:=fun g (hg:v.ownBlock=some g)=>h.cells hg
 rcases h.2 with ⟨rfl,h0⟩|⟨g,cap,cur,rfl,_⟩
 ·refine⟨none,0,by rw[h0],?_,hl⟩
  have:l= []:=List.eq_nil_of_length_eq_zero (by omega)
  subst this
  intro i a ha
  simp at ha
 ·refine⟨_,_,rfl,fun i a ha=>?_,hl⟩
  have hc:=hc g rfl
  have hadd:∀j,(⟨g,0,none⟩:Addr).add j=⟨g,0+j,none⟩:=fun j=>by unfold Addr.add;split<;>simp_all
  refine⟨g,0,rfl,?_,?_,?_⟩
  ·have:=hc (i*3+0) (.int .i64 a.kind) (by rw[kP l i 0 a ha (by omega)];rfl)
   rwa [hadd]at this
  ·have:=hc (i*3+1) (.string ⟨a.text.toArray⟩) (by rw[kP l i 1 a ha (by omega)];rfl)
   rwa [hadd,←Nat.add_assoc]at this
  ·have:=hc (i*3+2) (.int .i64 a.pos) (by rw[kP l i 2 a ha (by omega)];rfl)
   rwa [hadd,←Nat.add_assoc]at this
theorem ownN_ext {w w':World} {B e sz n:Nat} {v:Value} {xs:List Value} (h:w.ownsRow B e sz v n xs) (hx:Ext w w'):w'.ownsRow B e sz v n xs:=by
 obtain⟨h1,h2⟩:=h
 refine⟨h1,?_⟩
 rcases h2 with h2|⟨g,cap,cur,hv,hg,hh,r⟩
 ·exact .inl h2
 ·exact .inr ⟨g,cap,cur,hv,hg,(Below.block hx g (Array.getElem?_eq_some_iff.1 hh).1).trans hh,r⟩
theorem news_at (w:World) (cs:Array Value) (e:TypeId) (n:Nat) (hn:n=w.heap.size):∀(j:Nat) (u:Value),cs.toList[j]? =some u→(w.alloc (.cells cs e)).cell? ((⟨n,0,none⟩:Addr).add j)=some u:=by
 subst hn
 exact fW w cs e
def lsL:Ls→List Tk
 | .bad _ _=> []
 | .ok l=>l
def lsP:Ls→Nat
 | .bad a _=>a
 | .ok _=>0
def lsE:Ls→Nat
 | .bad _ e=>e
 | .ok _=>0
def TokRes (x:Ls) (v:Value) (w:World):Prop:=∃A c,v= .tuple #[.slice A (lsL x).length c,.int .i64 (lsP x),.int .i64 (lsE x)]∧jb w A (lsL x)
theorem TokRes.bad (a e:Nat) (w:World):TokRes (.bad a e) (.tuple #[.slice none 0 0,.int .i64 a,.int .i64 e]) w:=⟨none,0,rfl,fun i t h=>by simp[lsL]at h⟩
theorem tok_bad (c:UInt8) (r:List UInt8) (e:Nat) (h:tokL (c::r)= .bad e):e=2∨e=3:=by
 rw[tokL]at h
 split at h
 ·unfold wordL at h
  split at h
  ·cases h
  ·split at h<;>cases h
   exact .inr rfl
 split at h
 ·unfold numL at h
  split at h
  ·cases h;exact .inl rfl
  ·split at h<;>cases h
   exact .inr rfl
 split at h
 ·unfold textL at h
  cases hl:litF r [] 1 with
  |none=>rw[hl]at h;cases h;exact .inl rfl
  |some q=>
   obtain⟨X,i⟩:=q
   rw[hl]at h
   simp only at h
   split at h<;>cases h
   exact .inr rfl
 ·unfold symL at h
  split at h<;>cases h
  exact .inl rfl
end Lx
namespace Lx
theorem own_tks2 {w:World} {B e n:Nat} {v:Value} {l:List Tk} (h:w.ownsRow B e 3 v n (tkc l)):∃A c,v= .slice A n c∧jb w A l∧l.length=n∧n≤c:=by
 obtain⟨A,c,rfl,h1,h2⟩:=own_tks h
 refine⟨A,c,rfl,h1,h2,?_⟩
 rcases h.2 with ⟨hv,h0⟩|⟨g,cap,cur,hv,_,_,hnc,_⟩
 ·omega
 ·simp only[Value.slice.injEq]at hv
  obtain⟨_,_,rfl⟩:=hv
  exact hnc
def fZ (x:Ls) (v:Value) (w:World):Prop:=∃A c,v= .tuple #[.slice A (lsL x).length c,.int .i64 (lsP x),.int .i64 (lsE x)]∧jb w A (lsL x)∧(lsL x).length≤c
theorem fZ.bad (a e:Nat) (w:World):fZ (.bad a e) (.tuple #[.slice none 0 0,.int .i64 a,.int .i64 e]) w:=⟨none,0,rfl,fun i t h=>by simp[lsL]at h,Nat.le_refl _⟩
end Lx
namespace Lx
theorem info_c37:(Tryz.prog.info? 70).map (fun i=> (i.zero,i.size,i.bytes))=some (some (.agg #[.int .i64 0,.string ⟨#[]⟩,.int .i64 0]),3,32):=by kernel_rfl
theorem tokens_cap (s:ByteArray) (w:World) (hs:s.size≤20000) (hk:KwAt w):Calls Tryz.prog 52 #[.string s] w fun e w'=> ∃v,e= .returned v∧fZ (tokAll s) v w'∧Ext w w':=by
 by_cases hbig:16384<s.size
 ·have HE:Hid (tokAll s= .bad 16384 3):=if_pos hbig
  go_enter Tryz.func52,Tryz.ntmps52
  go_wp2_with fail
  go_ret3
  exact⟨_,rfl,by rw[HE.out];exact fZ.bad _ _ _,Ext.refl _⟩
 have HE:Hid (tokAll s=T s.data.toList 0):=if_neg hbig
 obtain⟨i0,hi,hz0,hz1,hz2⟩:=info_parts info_c37
 have hsk:skipN false s.data.toList≤s.size:=skip_le false s.data.toList
 have HSK:=hid (fun W a (ha:a≤s.size)=>skip_any s a W hs ha)
 have HSKL:Hid (∀a,a≤s.size→a+skipN false (s.data.toList.drop a)≤s.size):=fun a ha=>by
  have:=skip_le false (s.data.toList.drop a)
  rw[List.length_drop,dE]at this
  omega
 go_enter Tryz.func52,Tryz.ntmps52
 go_wp2_with (go_at_call 96;refine(HSK.out _ 0 (Nat.zero_le _)).mono ?_;rintro e' w1 ⟨rfl,hw1⟩;subst w1)
 go_loopw [5,6] (fun v i wr=> ∃(p:Nat) (out:List Tk),p≤s.size∧i= .int .i64 ((p+skipN false (s.data.toList.drop p):Nat):Int)∧wr.ownsRow w.heap.size 70 3 v out.length (tkc out)∧out.length≤p∧Ext w wr∧T s.data.toList 0=(T (s.data.toList.drop p) p).pre out) (fun _ i _=>s.size- (intOf i).toNat)
 case atStart=>exact⟨0,[],Nat.zero_le _,by simp,World.ownsRow_nil _ _ _ _,Nat.zero_le _,Ext.refl w,by rw[List.drop_zero];cases T s.data.toList 0<;>rfl⟩
 case round=>
  obtain⟨p,out,hp,rfl,hown,hop,hxr,hv⟩:=hrel
  have HV:=hid hv
  clear hv
  obtain⟨k,hkk⟩:∃k,p+skipN false (s.data.toList.drop p)=k:=⟨_,rfl⟩
  have hks:k≤s.size:=hkk ▸ HSKL.out p hp
  rw[hkk]
  by_cases hlt:k<s.size
  ·have hd:(s.data.toList.drop p).drop (skipN false (s.data.toList.drop p))=s[k]::s.data.toList.drop (k+1):=by rw[List.drop_drop,hkk,dD s k hlt]
   have hfs:(s.extract k s.size).size=s.size-k:=by rw[ByteArray.size_extract];omega
   have hC:∀W,Ext w W→Calls Tryz.prog 97 #[.string (s.extract k s.size)] W fun e w'=>e= .returned (TRes (tokL (s[k]::s.data.toList.drop (k+1))))∧Ext W w':=by
    intro W hW
    have:=token_any (s.extract k s.size) W (by omega) (by omega) (hk.ext hW)
    rw[gE,dD s k hlt]at this
    exact this
   cases ht:tokL (s[k]::s.data.toList.drop (k+1))with
   |bad e=>
    have hR:T s.data.toList 0= .bad k e:=by rw[HV.out,T_bad _ p _ _ e hd ht,hkk];rfl
    have hb:=tok_bad _ _ e ht
    have b1:((e:Int) !=0)=true:=by rw[bne_iff_ne];omega
    rw[ht]at hC
    have HC:=hid hC
    have HR:=hid hR
    clear hC hR hd hb ht hfs hkk
    simp only[TRes]at HC
    go_wp2_with (go_at_call 97;refine(HC.out _ hxr).mono ?_;rintro e' w1 ⟨rfl,hx1⟩)
    go_ret3
    exact⟨_,rfl,by rw[HE.out,HR.out];exact fZ.bad _ _ _,(hxr.trans hx1).alloc _⟩
   |tok kd x n=>
    have hR:T s.data.toList 0=(T (s.data.toList.drop (k+n)) (k+n)).pre (out++ [⟨kd,x,k⟩]):=by
     rw[HV.out,T_tok _ p _ _ kd x n hd ht,pre_pre,hkk,←dD s k hlt,List.drop_drop]
    have hbd:=tok_bound _ _ kd x n ht
    have hb2:k+n≤s.size:=by
     have:=hbd.2
     rw[List.length_cons,List.length_drop,dE]at this
     omega
    have hb1:=hbd.1
    rw[ht]at hC
    have HC:=hid hC
    have HR:=hid hR
    have HKK:=hid hkk
    have hpk:p≤k:=by omega
    clear hC hR hd hbd ht hfs hkk
    simp only[TRes]at HC
    have HBE:∀w1:World,Ext wr w1→w.heap.size≤w1.heap.size+1+1:=fun w1 h=>by have:=h.size;have:=hxr.size;omega
    go_wp2_with (first
     |(go_at_call 97;refine(HC.out _ hxr).mono ?_;rintro e' w1 ⟨rfl,hx1⟩;have HO:=hid (ownN_ext hown ((hx1.alloc (.cells #[.int .i64 kd,.string ⟨x.toArray⟩,.int .i64 k] 70)).alloc (.cells #[.int .i64 kd,.string ⟨x.toArray⟩,.int .i64 k] 70)));have hbe:=HBE w1 hx1;clear HBE)
     |(at_builtin;refine wpList_append_own _ rfl _ _ 66 rfl w.heap.size 70 i0 (.agg #[.int .i64 0,.string ⟨#[]⟩,.int .i64 0]) 3 32 Tryz.underlying66 hi hz0 hz1 hz2 rfl (by decide) _ _ _ rfl HO.out ⟨_,0,none⟩ 1 1 (Tk.cells ⟨kd,x,k⟩) rfl rfl (news_at _ _ _ _ (by simp)) (by intro u hu;simp[Tk.cells]at hu;rcases hu with rfl|rfl|rfl<;>rfl) (by unfold maxLen;omega) (by omega) (by simp;omega) ?_;intro v' w2 hown' hgrow _)
     |(go_at_call 96;refine(HSK.out _ (k+n) hb2).mono ?_;rintro e' w3 ⟨rfl,hw3⟩;subst w3))
    go_roundw
    case rel=>
     refine⟨k+n,out++ [⟨kd,x,k⟩],hb2,rfl,by rw[lR,List.length_append];exact hown',by rw[List.length_append];simp only[List.length_cons,List.length_nil];omega,Ext.grown ((hxr.trans hx1).alloc _|>.alloc _) hgrow (fun g hg=>gC hown hg),HR.out⟩
    case measure=>simp[intOf];omega
  ·have hd:(s.data.toList.drop p).drop (skipN false (s.data.toList.drop p))= []:=by rw[List.drop_drop,hkk];exact List.drop_of_length_le (by rw[dE];omega)
   have hR:T s.data.toList 0= .ok (out++ [⟨0,[],s.size⟩]):=by rw[HV.out,T_end _ p hd,hkk,show k=s.size by omega];rfl
   have HR:=hid hR
   have HKK:=hid hkk
   have hpk:p≤k:=by omega
   have HBE:w.heap.size≤wr.heap.size+1:=by have:=hxr.size;omega
   have HO:=hid (ownN_ext hown ((Ext.refl wr).alloc (.cells #[.int .i64 0,.string ⟨#[]⟩,.int .i64 s.size] 70)))
   clear hd hR hkk
   go_wp2_with (at_builtin;refine wpList_append_own _ rfl _ _ 66 rfl w.heap.size 70 i0 (.agg #[.int .i64 0,.string ⟨#[]⟩,.int .i64 0]) 3 32 Tryz.underlying66 hi hz0 hz1 hz2 rfl (by decide) _ _ _ rfl HO.out ⟨_,0,none⟩ 1 1 (Tk.cells ⟨0,[],s.size⟩) rfl rfl (news_at _ _ _ _ (by simp)) (by intro u hu;simp[Tk.cells]at hu;rcases hu with rfl|rfl|rfl<;>rfl) (by unfold maxLen;omega) (by omega) (by simp;omega) ?_;intro v' w2 hown' hgrow _)
   have hx2:Ext w w2:=Ext.grown (hxr.alloc _) hgrow (fun g hg=>gC hown hg)
   have ho2:w2.ownsRow w.heap.size 70 3 v' (out++ [(⟨0,[],s.size⟩:Tk)]).length (tkc (out++ [⟨0,[],s.size⟩])):=by rw[lR,List.length_append];exact hown'
   obtain⟨A,c,rfl,hat,hlen,hcap⟩:=own_tks2 ho2
   go_ret3
   refine⟨_,rfl,?_,hx2⟩
   rw[HE.out,HR.out]
   exact⟨A,c,by rw[hlen];rfl,hat,by show(out++ [(⟨0,[],s.size⟩:Tk)]).length≤c;rw[hlen];exact hcap⟩
end Lx
end Go.Proofs.YtjigcpfjhfoheaaGreatDoor
