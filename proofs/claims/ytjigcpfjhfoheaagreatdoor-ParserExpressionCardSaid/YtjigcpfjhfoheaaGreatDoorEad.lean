/- Walks over the lexer: one token; Tokens: their cells, slices of them; Slices of tokens with the room behind them; Walks over the lexer: Tokens; Walks over the lexer's reference: one token; Walks over the lexer's reference: one tok. -/
import Derived.Test.YtjigcpfjhfoheaaGreatDoorEac
namespace Go.Proofs.YtjigcpfjhfoheaaGreatDoor
open Go.RowKit
set_option maxHeartbeats 4000000
set_option maxRecDepth 100000
set_option linter.unusedVariables false
set_option linter.unusedSimpArgs false
namespace Lx
theorem tres_shape (t:TR):∃(a:Int) (x:ByteArray) (p n e:Int),TRes t= .tuple #[.agg #[.int .i64 a,.string x,.int .i64 p],.int .i64 n,.int .i64 e]:=by
 cases t with
 |bad e=>exact⟨0,⟨#[]⟩,0,0,e,rfl⟩
 |tok k x n=>exact⟨k,⟨x.toArray⟩,0,n,0,rfl⟩
theorem token_letter (s:ByteArray) (w:World) (hs:s.size≤20000) (h0:0<s.size) (hk:KwAt w) (hl:isLetter s[0]=true):Calls Tryz.prog 97 #[.string s] w fun e w'=>e= .returned (TRes (tokL s.data.toList))∧Ext w w':=by
 have HE:Hid (tokL s.data.toList=wordL s.data.toList):=by
  unfold Hid
  rw[lst_cons s h0,tokL,if_pos hl]
 have HL:=hid (fun W=>letter_any s[0] W)
 rw[hl]at HL
 have HC:=hid (fun W (h:Ext w W)=>word_any s W hs (hk.ext h))
 obtain⟨a,x,p,n,e,hsh⟩:=tres_shape (wordL s.data.toList)
 rw[hsh]at HC
 have HR:Hid (TRes (tokL s.data.toList)= .tuple #[.agg #[.int .i64 a,.string x,.int .i64 p],.int .i64 n,.int .i64 e]):=by unfold Hid;rw[HE.out,hsh]
 generalize TRes (tokL s.data.toList)=V at*
 have HB0:=hid (Blk.of_new w 70 [.int .i64 0,.string ⟨#[]⟩,.int .i64 0])
 clear HE hsh hl
 go_enter Tryz.func97,Tryz.ntmps97
 go_wp2_with (first|(go_at_call 171;refine(HL.out _).mono ?_;rintro e' w1 ⟨rfl,rfl⟩)|(go_at_call 172;refine(HC.out _ ((Ext.refl w).alloc _)).mono ?_;rintro e' w1 ⟨rfl,hx1⟩;have HB:=hid (HB0.out.ext hx1);have hc0:=HB.out.cell 0;have hc1:=HB.out.cell 1;have hc2:=HB.out.cell 2;obtain⟨hf0,hf1,hf2,-⟩:=frz HB.out))
 have s0:(w1.setCell ⟨w.heap.size,0,none⟩ (.int .i64 a)).cell? ⟨w.heap.size,0,none⟩=some (.int .i64 a):=(HB.out.set 0 _).cell 0
 have s1:((w1.setCell ⟨w.heap.size,0,none⟩ (.int .i64 a)).setCell ⟨w.heap.size,1,none⟩ (.string x)).cell? ⟨w.heap.size,1,none⟩=some (.string x):=((HB.out.set 0 _).set 1 _).cell 1
 have s2:(((w1.setCell ⟨w.heap.size,0,none⟩ (.int .i64 a)).setCell ⟨w.heap.size,1,none⟩ (.string x)).setCell ⟨w.heap.size,2,none⟩ (.int .i64 p)).cell? ⟨w.heap.size,2,none⟩=some (.int .i64 p):=(((HB.out.set 0 _).set 1 _).set 2 _).cell 2
 exact bodyPost_ret (v:= .tuple #[.agg #[.int .i64 a,.string x,.int .i64 p],.int .i64 (n),.int .i64 (e)]) (by simp[results,Tryz.results97,go_sem,s0,s1,s2]) rfl ⟨by rw[HR.out],(((((Ext.refl w).alloc _).trans hx1).setCell (Nat.le_refl _) _).setCell (Nat.le_refl _) _).setCell (Nat.le_refl _) _⟩
theorem token_digit (s:ByteArray) (w:World) (hs:s.size≤20000) (h0:0<s.size) (hl:isLetter s[0]=false) (hd:isDigit s[0]=true):Calls Tryz.prog 97 #[.string s] w fun e w'=>e= .returned (TRes (tokL s.data.toList))∧Ext w w':=by
 have HE:Hid (tokL s.data.toList=numL s.data.toList):=by
  unfold Hid
  rw[lst_cons s h0,tokL,if_neg (by rw[hl];decide),if_pos hd]
 have HL:=hid (fun W=>letter_any s[0] W)
 rw[hl]at HL
 have HD:=hid (fun W=>digit_any s[0] W)
 rw[hd]at HD
 have HC:=hid (fun W=>number_any s W hs h0)
 obtain⟨a,x,p,n,e,hsh⟩:=tres_shape (numL s.data.toList)
 rw[hsh]at HC
 have HR:Hid (TRes (tokL s.data.toList)= .tuple #[.agg #[.int .i64 a,.string x,.int .i64 p],.int .i64 n,.int .i64 e]):=by unfold Hid;rw[HE.out,hsh]
 generalize TRes (tokL s.data.toList)=V at*
 have HB0:=hid (Blk.of_new w 70 [.int .i64 0,.string ⟨#[]⟩,.int .i64 0])
 clear HE hsh hl hd
 go_enter Tryz.func97,Tryz.ntmps97
 go_wp2_with (first|(go_at_call 171;refine(HL.out _).mono ?_;rintro e' w1 ⟨rfl,rfl⟩)|(go_at_call 173;refine(HD.out _).mono ?_;rintro e' w1 ⟨rfl,rfl⟩)|(go_at_call 174;refine(HC.out _).mono ?_;rintro e' w1 ⟨rfl,hx1⟩;have HB:=hid (HB0.out.ext hx1);have hc0:=HB.out.cell 0;have hc1:=HB.out.cell 1;have hc2:=HB.out.cell 2;obtain⟨hf0,hf1,hf2,-⟩:=frz HB.out))
 have s0:(w1.setCell ⟨w.heap.size,0,none⟩ (.int .i64 a)).cell? ⟨w.heap.size,0,none⟩=some (.int .i64 a):=(HB.out.set 0 _).cell 0
 have s1:((w1.setCell ⟨w.heap.size,0,none⟩ (.int .i64 a)).setCell ⟨w.heap.size,1,none⟩ (.string x)).cell? ⟨w.heap.size,1,none⟩=some (.string x):=((HB.out.set 0 _).set 1 _).cell 1
 have s2:(((w1.setCell ⟨w.heap.size,0,none⟩ (.int .i64 a)).setCell ⟨w.heap.size,1,none⟩ (.string x)).setCell ⟨w.heap.size,2,none⟩ (.int .i64 p)).cell? ⟨w.heap.size,2,none⟩=some (.int .i64 p):=(((HB.out.set 0 _).set 1 _).set 2 _).cell 2
 exact bodyPost_ret (v:= .tuple #[.agg #[.int .i64 a,.string x,.int .i64 p],.int .i64 (n),.int .i64 (e)]) (by simp[results,Tryz.results97,go_sem,s0,s1,s2]) rfl ⟨by rw[HR.out],(((((Ext.refl w).alloc _).trans hx1).setCell (Nat.le_refl _) _).setCell (Nat.le_refl _) _).setCell (Nat.le_refl _) _⟩
theorem token_text (s:ByteArray) (w:World) (hs:s.size≤20000) (h0:0<s.size) (hq:s[0].toNat=39):Calls Tryz.prog 97 #[.string s] w fun e w'=>e= .returned (TRes (tokL s.data.toList))∧Ext w w':=by
 have hl:isLetter s[0]=false:=by unfold isLetter;rw[hq];rfl
 have hd:isDigit s[0]=false:=by unfold isDigit;rw[hq];rfl
 have HE:Hid (tokL s.data.toList=textL (s.data.toList.drop 1)):=by
  unfold Hid
  conv=>lhs;rw[lst_cons s h0]
  rw[tokL,if_neg (by rw[hl];decide),if_neg (by rw[hd];decide),if_pos hq]
 have HL:=hid (fun W=>letter_any s[0] W)
 rw[hl]at HL
 have HD:=hid (fun W=>digit_any s[0] W)
 rw[hd]at HD
 have HC:=hid (fun W=>text_any s W hs h0)
 have b1:((s[0].toNat:Int)==39)=true:=by rw[hq];rfl
 obtain⟨a,x,p,n,e,hsh⟩:=tres_shape (textL (s.data.toList.drop 1))
 rw[hsh]at HC
 have HR:Hid (TRes (tokL s.data.toList)= .tuple #[.agg #[.int .i64 a,.string x,.int .i64 p],.int .i64 n,.int .i64 e]):=by unfold Hid;rw[HE.out,hsh]
 generalize TRes (tokL s.data.toList)=V at*
 have HB0:=hid (Blk.of_new w 70 [.int .i64 0,.string ⟨#[]⟩,.int .i64 0])
 clear HE hsh hl hd hq
 go_enter Tryz.func97,Tryz.ntmps97
 go_wp2_with (first|(go_at_call 171;refine(HL.out _).mono ?_;rintro e' w1 ⟨rfl,rfl⟩)|(go_at_call 173;refine(HD.out _).mono ?_;rintro e' w1 ⟨rfl,rfl⟩)|(go_at_call 175;refine(HC.out _).mono ?_;rintro e' w1 ⟨rfl,hx1⟩;have HB:=hid (HB0.out.ext hx1);have hc0:=HB.out.cell 0;have hc1:=HB.out.cell 1;have hc2:=HB.out.cell 2;obtain⟨hf0,hf1,hf2,-⟩:=frz HB.out))
 have s0:(w1.setCell ⟨w.heap.size,0,none⟩ (.int .i64 a)).cell? ⟨w.heap.size,0,none⟩=some (.int .i64 a):=(HB.out.set 0 _).cell 0
 have s1:((w1.setCell ⟨w.heap.size,0,none⟩ (.int .i64 a)).setCell ⟨w.heap.size,1,none⟩ (.string x)).cell? ⟨w.heap.size,1,none⟩=some (.string x):=((HB.out.set 0 _).set 1 _).cell 1
 have s2:(((w1.setCell ⟨w.heap.size,0,none⟩ (.int .i64 a)).setCell ⟨w.heap.size,1,none⟩ (.string x)).setCell ⟨w.heap.size,2,none⟩ (.int .i64 p)).cell? ⟨w.heap.size,2,none⟩=some (.int .i64 p):=(((HB.out.set 0 _).set 1 _).set 2 _).cell 2
 exact bodyPost_ret (v:= .tuple #[.agg #[.int .i64 a,.string x,.int .i64 p],.int .i64 (n),.int .i64 (e)]) (by simp[results,Tryz.results97,go_sem,s0,s1,s2]) rfl ⟨by rw[HR.out],(((((Ext.refl w).alloc _).trans hx1).setCell (Nat.le_refl _) _).setCell (Nat.le_refl _) _).setCell (Nat.le_refl _) _⟩
def symT:Nat→List UInt8
 |0=> [60,62]
 |1=> [60,61]
 |2=> [62,61]
 |_=> []
def symS (k:Nat):ByteArray:=⟨(symT k).toArray⟩
theorem symS_cell (k:Nat) (h:k<3): [Value.string ⟨#[60,62]⟩,Value.string ⟨#[60,61]⟩,Value.string ⟨#[62,61]⟩][k]? =some (.string (symS k)):=by
 match k,h with
 |0,_=>rfl
 |1,_=>rfl
 |2,_=>rfl
theorem hp_two (k:Nat) (hk:k<3) (l:List UInt8) (h:Lib.hasPrefix l (symT k)=true):symN l=2∧l.take 2=symT k:=by
 unfold Lib.hasPrefix at h
 obtain⟨r,rfl⟩:=List.isPrefixOf_iff_prefix.1 h
 match k,hk with
 |0,_=>exact⟨sym_two 60 62 r (.inl ⟨rfl,rfl⟩),rfl⟩
 |1,_=>exact⟨sym_two 60 61 r (.inr (.inl ⟨rfl,rfl⟩)),rfl⟩
 |2,_=>exact⟨sym_two 62 61 r (.inr (.inr ⟨rfl,rfl⟩)),rfl⟩
theorem hp_no (c:UInt8) (r:List UInt8) (h:∀k,k<3→Lib.hasPrefix (c::r) (symT k)=false):symN (c::r)=if c∈syms then 1 else 0:=by
 refine sym_one c r fun d q e=>?_
 subst e
 rintro(⟨rfl,rfl⟩|⟨rfl,rfl⟩|⟨rfl,rfl⟩)
 ·have:=h 0 (by decide);simp[Lib.hasPrefix,symT,List.isPrefixOf]at this
 ·have:=h 1 (by decide);simp[Lib.hasPrefix,symT,List.isPrefixOf]at this
 ·have:=h 2 (by decide);simp[Lib.hasPrefix,symT,List.isPrefixOf]at this
theorem idx_mem (c:UInt8):∀l:List UInt8,(0≤Lib.indexByte l c)↔c∈l
 | []=>by simp[Lib.indexByte]
 |b::l=>by
  have ih:=idx_mem c l
  have hg:=Lib.indexByte_ge l c
  rw[Lib.indexByte]
  by_cases hb:b=c
  ·subst hb;simp
  ·have e:(b==c)=false:=by simpa using hb
   rw[e]
   simp only[Bool.false_eq_true,if_false,List.mem_cons]
   have hcb:¬c=b:=fun h=>hb h.symm
   by_cases hl:Lib.indexByte l c= -1
   ·rw[hl]at ih ⊢
    simp only[beq_self_eq_true,if_true,hcb,false_or]
    exact ih
   ·have e2:(Lib.indexByte l c== -1)=false:=by simpa using hl
    rw[e2]
    simp only[Bool.false_eq_true,if_false,hcb,false_or]
    rw[←ih]
    omega
theorem first_of (P:Nat→Bool):∃m,m≤3∧(∀j,j<m→P j=false)∧(m<3→P m=true):=by
 cases h0:P 0
 ·cases h1:P 1
  ·cases h2:P 2
   ·exact⟨3,Nat.le_refl _,fun j hj=>by rcases(by omega:j=0∨j=1∨j=2)with rfl|rfl|rfl<;>assumption,fun h=>absurd h (Nat.lt_irrefl _)⟩
   ·exact⟨2,by decide,fun j hj=>by rcases(by omega:j=0∨j=1)with rfl|rfl<;>assumption,fun _=>h2⟩
  ·exact⟨1,by decide,fun j hj=>by rw[show j=0 by omega];exact h0,fun _=>h1⟩
 ·exact⟨0,by decide,fun j hj=>absurd hj (Nat.not_lt_zero _),fun _=>h0⟩
theorem token_symbol (s:ByteArray) (w:World) (hs:s.size≤20000) (h0:0<s.size) (hl:isLetter s[0]=false) (hd:isDigit s[0]=false) (hq:¬s[0].toNat=39):Calls Tryz.prog 97 #[.string s] w fun e w'=>e= .returned (TRes (tokL s.data.toList))∧Ext w w':=by
 have HE:Hid (tokL s.data.toList=symL s.data.toList):=by
  unfold Hid
  rw[lst_cons s h0,tokL,if_neg (by rw[hl];decide),if_neg (by rw[hd];decide),if_neg hq]
 have HL:=hid (fun W=>letter_any s[0] W)
 rw[hl]at HL
 have HD:=hid (fun W=>digit_any s[0] W)
 rw[hd]at HD
 have b1:((s[0].toNat:Int)==39)=false:=by rw[beq_eq_false_iff_ne];omega
 have HP:Hid (∀k W,Calls Tryz.prog 169 #[.string s,.string (symS k)] W fun e w'=>e= .returned (.bool (Lib.hasPrefix s.data.toList (symT k)))∧w'=W):=fun k W=>Tryz.strings_HasPrefix s (symS k) W
 have HTW:=hid (fun k hk=>hp_two k hk s.data.toList)
 have HNO:Hid ((∀k,k<3→Lib.hasPrefix s.data.toList (symT k)=false)→symN s.data.toList=if s[0]∈syms then 1 else 0):=by
  unfold Hid
  intro h
  rw[lst_cons s h0]at h ⊢
  exact hp_no _ _ h
 generalize hPP:(fun k=>Lib.hasPrefix s.data.toList (symT k))=P at*
 have hP:∀k,Lib.hasPrefix s.data.toList (symT k)=P k:=fun k=>by rw[←hPP]
 simp only[hP]at HP HTW HNO
 clear hP hPP
 obtain⟨m,hm,hno,hyes⟩:=first_of P
 have HNM:=hid hno
 have HB0:=hid (Blk.of_new w 70 [.int .i64 0,.string ⟨#[]⟩,.int .i64 0])
 have HI:Hid (∀W,Calls Tryz.prog 170 #[.string ⟨#[40,41,44,59,46,42,43,45,47,37,61,60,62]⟩,.int .u8 s[0].toNat] W fun e w'=>e= .returned (.int .i64 (Lib.indexByte syms s[0]))∧w'=W):=by
  intro W
  have:=Tryz.strings_IndexByte ⟨#[40,41,44,59,46,42,43,45,47,37,61,60,62]⟩ (s[0].toNat:Int) W
  rw[Lib.byte_back']at this
  exact this
 have hmem:=idx_mem s[0] syms
 have HSL:Hid (symL s.data.toList=if symN s.data.toList=0 then .bad 2 else .tok 5 (s.data.toList.take (symN s.data.toList)) (symN s.data.toList)):=rfl
 have HF:Hid (s.extract 0 1=⟨(s.data.toList.take 1).toArray⟩):=by_list (by rw[front_list])
 generalize symN s.data.toList=SN at*
 clear hl hd hq
 go_enter Tryz.func97,Tryz.ntmps97
 go_wp2_with (first|(go_at_call 171;refine(HL.out _).mono ?_;rintro e' w1 ⟨rfl,rfl⟩)|(go_at_call 173;refine(HD.out _).mono ?_;rintro e' w1 ⟨rfl,rfl⟩))
 have HB:=hid (HB0.out.ext ((Ext.refl _).alloc (.cells #[.string ⟨#[60,62]⟩,.string ⟨#[60,61]⟩,.string ⟨#[62,61]⟩] 9)))
 have HB3:=hid (Blk.of_new (w.alloc (.cells #[.int .i64 0,.string ⟨#[]⟩,.int .i64 0] 70)) 9 [.string ⟨#[60,62]⟩,.string ⟨#[60,61]⟩,.string ⟨#[62,61]⟩])
 have HX:Hid (Ext w ((w.alloc (.cells #[.int .i64 0,.string ⟨#[]⟩,.int .i64 0] 70)).alloc (.cells #[.string ⟨#[60,62]⟩,.string ⟨#[60,61]⟩,.string ⟨#[62,61]⟩] 9))):=((Ext.refl _).alloc _).alloc _
 have HBs:Hid (Blk ((w.alloc (.cells #[.int .i64 0,.string ⟨#[]⟩,.int .i64 0] 70)).alloc (.cells #[.string ⟨#[60,62]⟩,.string ⟨#[60,61]⟩,.string ⟨#[62,61]⟩] 9)) (w.heap.size+1) 9 [.string ⟨#[60,62]⟩,.string ⟨#[60,61]⟩,.string ⟨#[62,61]⟩]):=by
  have:=HB3.out
  rw[World.size_alloc]at this
  exact this
 clear HB3
 generalize ((w.alloc (.cells #[.int .i64 0,.string ⟨#[]⟩,.int .i64 0] 70)).alloc (.cells #[.string ⟨#[60,62]⟩,.string ⟨#[60,61]⟩,.string ⟨#[62,61]⟩] 9))=w1 at*
 have hc0:=HB.out.cell 0
 have hc1:=HB.out.cell 1
 have hc2:=HB.out.cell 2
 obtain⟨hf0,hf1,hf2,-⟩:=frz HB.out
 go_loop [36] (fun i=> ∃k:Nat,k≤m∧i= .int .i64 k) (fun i=>3- (intOf i).toNat)
 case atStart=>exact⟨0,Nat.zero_le _,rfl⟩
 case round=>
  obtain⟨k,hk,rfl⟩:=hrel
  by_cases hlt:k<3
  ·have hcs:=HBs.out.cell_some (symS_cell k hlt)
   cases hpk:P k
   ·have hkm:k<m:=by
     rcases Nat.lt_or_ge k m with h|h
     ·exact h
     ·exfalso
      obtain rfl:k=m:=by omega
      rw[hyes hlt]at hpk
      cases hpk
    have HPK:Hid (P k=false):=hpk
    clear hpk hyes hno
    go_wp2_with (go_at_call 169;refine(HP.out k _).mono ?_;rintro e' w2 ⟨rfl,rfl⟩;rw[HPK.out])
    go_round
    case rel=>exact⟨k+1,by omega,by go_num⟩
    case measure=>simp[intOf];omega
   ·have HPK:Hid (P k=true):=hpk
    obtain⟨h1,h2⟩:=HTW.out k hlt hpk
    have HR:Hid (tokL s.data.toList= .tok 5 (symT k) 2):=by
     unfold Hid
     rw[HE.out,HSL.out,h1,if_neg (by decide),h2]
    clear hpk hyes hno h1 h2
    go_wp2_with (go_at_call 169;refine(HP.out k _).mono ?_;rintro e' w2 ⟨rfl,rfl⟩;rw[HPK.out])
    have s0:(w2.setCell ⟨w.heap.size,0,none⟩ (.int .i64 5)).cell? ⟨w.heap.size,0,none⟩=some (.int .i64 5):=(HB.out.set 0 _).cell 0
    have s1:((w2.setCell ⟨w.heap.size,0,none⟩ (.int .i64 5)).setCell ⟨w.heap.size,1,none⟩ (.string (symS k))).cell? ⟨w.heap.size,1,none⟩=some (.string (symS k)):=((HB.out.set 0 _).set 1 _).cell 1
    have s2:(((w2.setCell ⟨w.heap.size,0,none⟩ (.int .i64 5)).setCell ⟨w.heap.size,1,none⟩ (.string (symS k))).setCell ⟨w.heap.size,2,none⟩ (.int .i64 0)).cell? ⟨w.heap.size,2,none⟩=some (.int .i64 0):=(((HB.out.set 0 _).set 1 _).set 2 _).cell 2
    exact bodyPost_ret (v:= .tuple #[.agg #[.int .i64 5,.string (symS k),.int .i64 0],.int .i64 (2),.int .i64 (0)]) (by simp[results,Tryz.results97,go_sem,s0,s1,s2]) rfl ⟨by rw[HR.out];rfl,((HX.out.setCell (Nat.le_refl _) _).setCell (Nat.le_refl _) _).setCell (Nat.le_refl _) _⟩
  ·obtain rfl:k=3:=by omega
   obtain rfl:m=3:=by omega
   have HSN:Hid (SN=if s[0]∈syms then 1 else 0):=HNO.out HNM.out
   clear hyes hno
   by_cases hin:s[0]∈syms
   ·have hge:0≤Lib.indexByte syms s[0]:=hmem.2 hin
    have HR:Hid (tokL s.data.toList= .tok 5 (s.data.toList.take 1) 1):=by
     unfold Hid
     have h1:=HSN.out
     rw[if_pos hin]at h1
     rw[HE.out,HSL.out,h1,if_neg (by decide)]
    clear hin hmem
    generalize Lib.indexByte syms s[0]=I at*
    go_wp2_with (go_at_call 170;refine(HI.out _).mono ?_;rintro e' w2 ⟨rfl,rfl⟩)
    have s0:(w2.setCell ⟨w.heap.size,0,none⟩ (.int .i64 5)).cell? ⟨w.heap.size,0,none⟩=some (.int .i64 5):=(HB.out.set 0 _).cell 0
    have s1:((w2.setCell ⟨w.heap.size,0,none⟩ (.int .i64 5)).setCell ⟨w.heap.size,1,none⟩ (.string (s.extract 0 1))).cell? ⟨w.heap.size,1,none⟩=some (.string (s.extract 0 1)):=((HB.out.set 0 _).set 1 _).cell 1
    have s2:(((w2.setCell ⟨w.heap.size,0,none⟩ (.int .i64 5)).setCell ⟨w.heap.size,1,none⟩ (.string (s.extract 0 1))).setCell ⟨w.heap.size,2,none⟩ (.int .i64 0)).cell? ⟨w.heap.size,2,none⟩=some (.int .i64 0):=(((HB.out.set 0 _).set 1 _).set 2 _).cell 2
    exact bodyPost_ret (v:= .tuple #[.agg #[.int .i64 5,.string (s.extract 0 1),.int .i64 0],.int .i64 (1),.int .i64 (0)]) (by simp[results,Tryz.results97,go_sem,s0,s1,s2]) rfl ⟨by rw[HR.out,HF.out];rfl,((HX.out.setCell (Nat.le_refl _) _).setCell (Nat.le_refl _) _).setCell (Nat.le_refl _) _⟩
   ·have hge:¬0≤Lib.indexByte syms s[0]:=fun h=>hin (hmem.1 h)
    have HR:Hid (tokL s.data.toList= .bad 2):=by
     unfold Hid
     have h1:=HSN.out
     rw[if_neg hin]at h1
     rw[HE.out,HSL.out,h1,if_pos rfl]
    clear hin hmem
    generalize Lib.indexByte syms s[0]=I at*
    go_wp2_with (go_at_call 170;refine(HI.out _).mono ?_;rintro e' w2 ⟨rfl,rfl⟩)
    have s0:(w2.setCell ⟨w.heap.size,0,none⟩ (.int .i64 0)).cell? ⟨w.heap.size,0,none⟩=some (.int .i64 0):=(HB.out.set 0 _).cell 0
    have s1:((w2.setCell ⟨w.heap.size,0,none⟩ (.int .i64 0)).setCell ⟨w.heap.size,1,none⟩ (.string ⟨#[]⟩)).cell? ⟨w.heap.size,1,none⟩=some (.string ⟨#[]⟩):=((HB.out.set 0 _).set 1 _).cell 1
    have s2:(((w2.setCell ⟨w.heap.size,0,none⟩ (.int .i64 0)).setCell ⟨w.heap.size,1,none⟩ (.string ⟨#[]⟩)).setCell ⟨w.heap.size,2,none⟩ (.int .i64 0)).cell? ⟨w.heap.size,2,none⟩=some (.int .i64 0):=(((HB.out.set 0 _).set 1 _).set 2 _).cell 2
    exact bodyPost_ret (v:= .tuple #[.agg #[.int .i64 0,.string ⟨#[]⟩,.int .i64 0],.int .i64 (0),.int .i64 (2)]) (by simp[results,Tryz.results97,go_sem,s0,s1,s2]) rfl ⟨by rw[HR.out];rfl,((HX.out.setCell (Nat.le_refl _) _).setCell (Nat.le_refl _) _).setCell (Nat.le_refl _) _⟩
theorem token_any (s:ByteArray) (w:World) (hs:s.size≤20000) (h0:0<s.size) (hk:KwAt w):Calls Tryz.prog 97 #[.string s] w fun e w'=>e= .returned (TRes (tokL s.data.toList))∧Ext w w':=by
 cases hl:isLetter s[0]
 ·cases hd:isDigit s[0]
  ·by_cases hq:s[0].toNat=39
   ·exact token_text s w hs h0 hq
   ·exact token_symbol s w hs h0 hl hd hq
  ·exact token_digit s w hs h0 hl hd
 ·exact token_letter s w hs h0 hk hl
end Lx
namespace Lx
def Tk.cells (t:Tk):List Value:= [.int .i64 t.kind,.string ⟨t.text.toArray⟩,.int .i64 t.pos]
def tkc (l:List Tk):List Value:=l.flatMap Tk.cells
theorem tkc_app (l m:List Tk):tkc (l++m)=tkc l++tkc m:=by simp[tkc]
theorem tkc_one (a:Tk):tkc [a]=a.cells:=by simp[tkc]
theorem tkc_snoc (l:List Tk) (a:Tk):tkc (l++ [a])=tkc l++a.cells:=by rw[tkc_app,tkc_one]
theorem tkc_cons (a:Tk) (l:List Tk):tkc (a::l)=a.cells++tkc l:=by simp[tkc]
theorem tkc_len (l:List Tk):(tkc l).length=l.length*3:=by
 induction l with
 |nil=>rfl
 |cons a l ih=>rw[tkc_cons,List.length_append,ih];simp[Tk.cells];omega
theorem tkc_get (l:List Tk):∀(i j:Nat) (a:Tk),l[i]? =some a→j<3→(tkc l)[i*3+j]? =a.cells[j]? :=by
 induction l with
 |nil=>intro i j a h;simp at h
 |cons x l ih=>
  intro i j a h hj
  rw[tkc_cons]
  cases i with
  |zero=>
   simp at h
   subst h
   rw[List.getElem?_append_left (by simp[Tk.cells];omega)]
   simp
  |succ i=>
   rw[List.getElem?_append_right (by simp[Tk.cells];omega)]
   have e:(i+1)*3+j-x.cells.length=i*3+j:=by simp[Tk.cells];omega
   rw[e]
   exact ih i j a (by simpa using h) hj
def TksAt (w:World) (A:Option Addr) (l:List Tk):Prop:=
 ∀(i:Nat) (a:Tk),l[i]? =some a→∃b off,A=some ⟨b,off,none⟩∧w.cell? ⟨b,off+i*3,none⟩=some (.int .i64 a.kind)∧w.cell? ⟨b,off+i*3+1,none⟩=some (.string ⟨a.text.toArray⟩)∧
  w.cell? ⟨b,off+i*3+2,none⟩=some (.int .i64 a.pos)
theorem TksAt.ext {w w':World} {A:Option Addr} {l:List Tk} (h:TksAt w A l) (hx:Ext w w'):TksAt w' A l:=fun i a ht=>by
 obtain⟨b,off,hA,h0,h1,h2⟩:=h i a ht
 exact⟨b,off,hA,hx.keep h0,hx.keep h1,hx.keep h2⟩
theorem own_tks {w:World} {B e n:Nat} {v:Value} {l:List Tk} (h:w.ownsRow B e 3 v n (tkc l)):∃A c,v= .slice A n c∧TksAt w A l∧l.length=n:=by
 have hl:l.length=n:=by have:=h.1;rw[tkc_len]at this;omega
 have hc:=fun g (hg:v.ownBlock=some g)=>h.cells hg
 rcases h.2 with ⟨rfl,h0⟩|⟨g,cap,cur,rfl,_⟩
 ·refine⟨none,0,by rw[h0],?_,hl⟩
  have:l= []:=List.eq_nil_of_length_eq_zero (by omega)
  subst this
  intro i a ha
  simp at ha
 ·refine⟨_,_,rfl,fun i a ha=>?_,hl⟩
  have hc:=hc g rfl
  have hadd:∀j,(⟨g,0,none⟩:Addr).add j=⟨g,0+j,none⟩:=fun j=>by unfold Addr.add;split<;>simp_all
  refine⟨g,0,rfl,?_,?_,?_⟩
  ·have:=hc (i*3+0) (.int .i64 a.kind) (by rw[tkc_get l i 0 a ha (by omega)];rfl)
   rwa [hadd]at this
  ·have:=hc (i*3+1) (.string ⟨a.text.toArray⟩) (by rw[tkc_get l i 1 a ha (by omega)];rfl)
   rwa [hadd,←Nat.add_assoc]at this
  ·have:=hc (i*3+2) (.int .i64 a.pos) (by rw[tkc_get l i 2 a ha (by omega)];rfl)
   rwa [hadd,←Nat.add_assoc]at this
theorem ownN_ext {w w':World} {B e sz n:Nat} {v:Value} {xs:List Value} (h:w.ownsRow B e sz v n xs) (hx:Ext w w'):w'.ownsRow B e sz v n xs:=by
 obtain⟨h1,h2⟩:=h
 refine⟨h1,?_⟩
 rcases h2 with h2|⟨g,cap,cur,hv,hg,hh,r⟩
 ·exact .inl h2
 ·exact .inr ⟨g,cap,cur,hv,hg,(Below.block hx g (Array.getElem?_eq_some_iff.1 hh).1).trans hh,r⟩
theorem news_at (w:World) (cs:Array Value) (e:TypeId) (n:Nat) (hn:n=w.heap.size):∀(j:Nat) (u:Value),cs.toList[j]? =some u→(w.alloc (.cells cs e)).cell? ((⟨n,0,none⟩:Addr).add j)=some u:=by
 subst hn
 exact news_new w cs e
def lsL:Ls→List Tk
 | .bad _ _=> []
 | .ok l=>l
def lsP:Ls→Nat
 | .bad a _=>a
 | .ok _=>0
def lsE:Ls→Nat
 | .bad _ e=>e
 | .ok _=>0
def TokRes (x:Ls) (v:Value) (w:World):Prop:=∃A c,v= .tuple #[.slice A (lsL x).length c,.int .i64 (lsP x),.int .i64 (lsE x)]∧TksAt w A (lsL x)
theorem TokRes.bad (a e:Nat) (w:World):TokRes (.bad a e) (.tuple #[.slice none 0 0,.int .i64 a,.int .i64 e]) w:=⟨none,0,rfl,fun i t h=>by simp[lsL]at h⟩
theorem tok_bad (c:UInt8) (r:List UInt8) (e:Nat) (h:tokL (c::r)= .bad e):e=2∨e=3:=by
 rw[tokL]at h
 split at h
 ·unfold wordL at h
  split at h
  ·cases h
  ·split at h<;>cases h
   exact .inr rfl
 split at h
 ·unfold numL at h
  split at h
  ·cases h;exact .inl rfl
  ·split at h<;>cases h
   exact .inr rfl
 split at h
 ·unfold textL at h
  cases hl:litF r [] 1 with
  |none=>rw[hl]at h;cases h;exact .inl rfl
  |some q=>
   obtain⟨X,i⟩:=q
   rw[hl]at h
   simp only at h
   split at h<;>cases h
   exact .inr rfl
 ·unfold symL at h
  split at h<;>cases h
  exact .inl rfl
end Lx
namespace Lx
theorem own_tks2 {w:World} {B e n:Nat} {v:Value} {l:List Tk} (h:w.ownsRow B e 3 v n (tkc l)):∃A c,v= .slice A n c∧TksAt w A l∧l.length=n∧n≤c:=by
 obtain⟨A,c,rfl,h1,h2⟩:=own_tks h
 refine⟨A,c,rfl,h1,h2,?_⟩
 rcases h.2 with ⟨hv,h0⟩|⟨g,cap,cur,hv,_,_,hnc,_⟩
 ·omega
 ·simp only[Value.slice.injEq]at hv
  obtain⟨_,_,rfl⟩:=hv
  exact hnc
def TokRes2 (x:Ls) (v:Value) (w:World):Prop:=∃A c,v= .tuple #[.slice A (lsL x).length c,.int .i64 (lsP x),.int .i64 (lsE x)]∧TksAt w A (lsL x)∧(lsL x).length≤c
theorem TokRes2.bad (a e:Nat) (w:World):TokRes2 (.bad a e) (.tuple #[.slice none 0 0,.int .i64 a,.int .i64 e]) w:=⟨none,0,rfl,fun i t h=>by simp[lsL]at h,Nat.le_refl _⟩
end Lx
namespace Lx
theorem info_c37:(Tryz.prog.info? 70).map (fun i=> (i.zero,i.size,i.bytes))=some (some (.agg #[.int .i64 0,.string ⟨#[]⟩,.int .i64 0]),3,32):=by kernel_rfl
theorem tokens_cap (s:ByteArray) (w:World) (hs:s.size≤20000) (hk:KwAt w):Calls Tryz.prog 52 #[.string s] w fun e w'=> ∃v,e= .returned v∧TokRes2 (tokAll s) v w'∧Ext w w':=by
 by_cases hbig:16384<s.size
 ·have HE:Hid (tokAll s= .bad 16384 3):=if_pos hbig
  go_enter Tryz.func52,Tryz.ntmps52
  go_wp2_with fail
  go_ret3
  exact⟨_,rfl,by rw[HE.out];exact TokRes2.bad _ _ _,Ext.refl _⟩
 have HE:Hid (tokAll s=T s.data.toList 0):=if_neg hbig
 obtain⟨i0,hi,hz0,hz1,hz2⟩:=info_parts info_c37
 have hsk:skipN false s.data.toList≤s.size:=skip_le false s.data.toList
 have HSK:=hid (fun W a (ha:a≤s.size)=>skip_any s a W hs ha)
 have HSKL:Hid (∀a,a≤s.size→a+skipN false (s.data.toList.drop a)≤s.size):=fun a ha=>by
  have:=skip_le false (s.data.toList.drop a)
  rw[List.length_drop,lst_len]at this
  omega
 go_enter Tryz.func52,Tryz.ntmps52
 go_wp2_with (go_at_call 96;refine(HSK.out _ 0 (Nat.zero_le _)).mono ?_;rintro e' w1 ⟨rfl,hw1⟩;subst w1)
 go_loopw [5,6] (fun v i wr=> ∃(p:Nat) (out:List Tk),p≤s.size∧i= .int .i64 ((p+skipN false (s.data.toList.drop p):Nat):Int)∧wr.ownsRow w.heap.size 70 3 v out.length (tkc out)∧out.length≤p∧Ext w wr∧T s.data.toList 0=(T (s.data.toList.drop p) p).pre out) (fun _ i _=>s.size- (intOf i).toNat)
 case atStart=>exact⟨0,[],Nat.zero_le _,by simp,World.ownsRow_nil _ _ _ _,Nat.zero_le _,Ext.refl w,by rw[List.drop_zero];cases T s.data.toList 0<;>rfl⟩
 case round=>
  obtain⟨p,out,hp,rfl,hown,hop,hxr,hv⟩:=hrel
  have HV:=hid hv
  clear hv
  obtain⟨k,hkk⟩:∃k,p+skipN false (s.data.toList.drop p)=k:=⟨_,rfl⟩
  have hks:k≤s.size:=hkk ▸ HSKL.out p hp
  rw[hkk]
  by_cases hlt:k<s.size
  ·have hd:(s.data.toList.drop p).drop (skipN false (s.data.toList.drop p))=s[k]::s.data.toList.drop (k+1):=by rw[List.drop_drop,hkk,drop1 s k hlt]
   have hfs:(s.extract k s.size).size=s.size-k:=by rw[ByteArray.size_extract];omega
   have hC:∀W,Ext w W→Calls Tryz.prog 97 #[.string (s.extract k s.size)] W fun e w'=>e= .returned (TRes (tokL (s[k]::s.data.toList.drop (k+1))))∧Ext W w':=by
    intro W hW
    have:=token_any (s.extract k s.size) W (by omega) (by omega) (hk.ext hW)
    rw[from_list,drop1 s k hlt]at this
    exact this
   cases ht:tokL (s[k]::s.data.toList.drop (k+1))with
   |bad e=>
    have hR:T s.data.toList 0= .bad k e:=by rw[HV.out,T_bad _ p _ _ e hd ht,hkk];rfl
    have hb:=tok_bad _ _ e ht
    have b1:((e:Int) !=0)=true:=by rw[bne_iff_ne];omega
    rw[ht]at hC
    have HC:=hid hC
    have HR:=hid hR
    clear hC hR hd hb ht hfs hkk
    simp only[TRes]at HC
    go_wp2_with (go_at_call 97;refine(HC.out _ hxr).mono ?_;rintro e' w1 ⟨rfl,hx1⟩)
    go_ret3
    exact⟨_,rfl,by rw[HE.out,HR.out];exact TokRes2.bad _ _ _,(hxr.trans hx1).alloc _⟩
   |tok kd x n=>
    have hR:T s.data.toList 0=(T (s.data.toList.drop (k+n)) (k+n)).pre (out++ [⟨kd,x,k⟩]):=by
     rw[HV.out,T_tok _ p _ _ kd x n hd ht,pre_pre,hkk,←drop1 s k hlt,List.drop_drop]
    have hbd:=tok_bound _ _ kd x n ht
    have hb2:k+n≤s.size:=by
     have:=hbd.2
     rw[List.length_cons,List.length_drop,lst_len]at this
     omega
    have hb1:=hbd.1
    rw[ht]at hC
    have HC:=hid hC
    have HR:=hid hR
    have HKK:=hid hkk
    have hpk:p≤k:=by omega
    clear hC hR hd hbd ht hfs hkk
    simp only[TRes]at HC
    have HBE:∀w1:World,Ext wr w1→w.heap.size≤w1.heap.size+1+1:=fun w1 h=>by have:=h.size;have:=hxr.size;omega
    go_wp2_with (first
     |(go_at_call 97;refine(HC.out _ hxr).mono ?_;rintro e' w1 ⟨rfl,hx1⟩;have HO:=hid (ownN_ext hown ((hx1.alloc (.cells #[.int .i64 kd,.string ⟨x.toArray⟩,.int .i64 k] 70)).alloc (.cells #[.int .i64 kd,.string ⟨x.toArray⟩,.int .i64 k] 70)));have hbe:=HBE w1 hx1;clear HBE)
     |(at_builtin;refine wpList_append_own _ rfl _ _ 66 rfl w.heap.size 70 i0 (.agg #[.int .i64 0,.string ⟨#[]⟩,.int .i64 0]) 3 32 Tryz.underlying66 hi hz0 hz1 hz2 rfl (by decide) _ _ _ rfl HO.out ⟨_,0,none⟩ 1 1 (Tk.cells ⟨kd,x,k⟩) rfl rfl (news_at _ _ _ _ (by simp)) (by intro u hu;simp[Tk.cells]at hu;rcases hu with rfl|rfl|rfl<;>rfl) (by unfold maxLen;omega) (by omega) (by simp;omega) ?_;intro v' w2 hown' hgrow _)
     |(go_at_call 96;refine(HSK.out _ (k+n) hb2).mono ?_;rintro e' w3 ⟨rfl,hw3⟩;subst w3))
    go_roundw
    case rel=>
     refine⟨k+n,out++ [⟨kd,x,k⟩],hb2,rfl,by rw[tkc_snoc,List.length_append];exact hown',by rw[List.length_append];simp only[List.length_cons,List.length_nil];omega,Ext.grown ((hxr.trans hx1).alloc _|>.alloc _) hgrow (fun g hg=>own_ge hown hg),HR.out⟩
    case measure=>simp[intOf];omega
  ·have hd:(s.data.toList.drop p).drop (skipN false (s.data.toList.drop p))= []:=by rw[List.drop_drop,hkk];exact List.drop_of_length_le (by rw[lst_len];omega)
   have hR:T s.data.toList 0= .ok (out++ [⟨0,[],s.size⟩]):=by rw[HV.out,T_end _ p hd,hkk,show k=s.size by omega];rfl
   have HR:=hid hR
   have HKK:=hid hkk
   have hpk:p≤k:=by omega
   have HBE:w.heap.size≤wr.heap.size+1:=by have:=hxr.size;omega
   have HO:=hid (ownN_ext hown ((Ext.refl wr).alloc (.cells #[.int .i64 0,.string ⟨#[]⟩,.int .i64 s.size] 70)))
   clear hd hR hkk
   go_wp2_with (at_builtin;refine wpList_append_own _ rfl _ _ 66 rfl w.heap.size 70 i0 (.agg #[.int .i64 0,.string ⟨#[]⟩,.int .i64 0]) 3 32 Tryz.underlying66 hi hz0 hz1 hz2 rfl (by decide) _ _ _ rfl HO.out ⟨_,0,none⟩ 1 1 (Tk.cells ⟨0,[],s.size⟩) rfl rfl (news_at _ _ _ _ (by simp)) (by intro u hu;simp[Tk.cells]at hu;rcases hu with rfl|rfl|rfl<;>rfl) (by unfold maxLen;omega) (by omega) (by simp;omega) ?_;intro v' w2 hown' hgrow _)
   have hx2:Ext w w2:=Ext.grown (hxr.alloc _) hgrow (fun g hg=>own_ge hown hg)
   have ho2:w2.ownsRow w.heap.size 70 3 v' (out++ [(⟨0,[],s.size⟩:Tk)]).length (tkc (out++ [⟨0,[],s.size⟩])):=by rw[tkc_snoc,List.length_append];exact hown'
   obtain⟨A,c,rfl,hat,hlen,hcap⟩:=own_tks2 ho2
   go_ret3
   refine⟨_,rfl,?_,hx2⟩
   rw[HE.out,HR.out]
   exact⟨A,c,by rw[hlen];rfl,hat,by show(out++ [(⟨0,[],s.size⟩:Tk)]).length≤c;rw[hlen];exact hcap⟩
end Lx
namespace Lx
def RRes (a:Nat):TR→Value
 | .bad e=> .tuple #[.agg #[.int .i64 0,.string ⟨#[]⟩,.int .i64 0],.int .i64 0,.int .i64 e]
 | .tok k x n=> .tuple #[.agg #[.int .i64 k,.string ⟨x.toArray⟩,.int .i64 a],.int .i64 ((a+n:Nat):Int),.int .i64 0]
theorem piece_list (s:ByteArray) (a k:Nat):(s.extract a k).data.toList=(s.data.toList.drop a).take (k-a):=Lib.extract_data s a k
theorem rres_tok (a E k n:Nat) (x:List UInt8) (h:a+n=E):RRes a (.tok k x n)= .tuple #[.agg #[.int .i64 k,.string ⟨x.toArray⟩,.int .i64 a],.int .i64 E,.int .i64 0]:=by rw[←h];rfl
theorem word_parts (c:UInt8):inWord c=(isLetter c||isDigit c||c.toNat==95):=rfl
theorem next_letter (s:ByteArray) (a:Nat) (w:World) (hs:s.size≤20000) (ha:a<s.size) (hl:isLetter s[a]=true):Calls Tryz.prog 95 #[.string s,.int .i64 a] w fun e w'=>e= .returned (RRes a (tokL (s.data.toList.drop a)))∧Ext w w':=by
 have HT:Hid (tokL (s.data.toList.drop a)=wordL (s.data.toList.drop a)):=by
  unfold Hid
  rw[drop1 s a ha,tokL,if_pos hl]
 have HL:=hid (fun W=>rletter_any s[a] W)
 rw[hl]at HL
 have hle:spanN inWord (s.data.toList.drop a)≤(s.data.toList.drop a).length:=span_le inWord _
 rw[List.length_drop,lst_len]at hle
 have HW:Hid (wordL (s.data.toList.drop a)=if isKw ((s.data.toList.drop a).take (spanN inWord (s.data.toList.drop a)))=true then .tok 2 (((s.data.toList.drop a).take (spanN inWord (s.data.toList.drop a))).map upC) (spanN inWord (s.data.toList.drop a))
   else if 24<spanN inWord (s.data.toList.drop a)then .bad 3
   else .tok 1 (((s.data.toList.drop a).take (spanN inWord (s.data.toList.drop a))).map loC) (spanN inWord (s.data.toList.drop a))):=rfl
 obtain⟨n,hn⟩:∃n,spanN inWord (s.data.toList.drop a)=n:=⟨_,rfl⟩
 have HSP:=hid hn
 rw[hn]at HW hle
 clear hn
 obtain⟨E,hE⟩:∃E,a+n=E:=⟨_,rfl⟩
 have HEn:=hid hE
 have hEa:a≤E:=by omega
 have hEs:E≤s.size:=by omega
 have hna:E-a=n:=by omega
 have hps:(s.extract a E).size≤20000:=Nat.le_trans (piece_size s a E) hs
 have HU:Hid (∀W,Calls Tryz.prog 165 #[.string (s.extract a E)] W fun e w'=>e= .returned (.string ⟨(((s.data.toList.drop a).take n).map upC).toArray⟩)∧Ext W w'):=by
  intro W
  have:=rupper_any (s.extract a E) W hps
  rw[piece_list,hna]at this
  exact this
 have HO:Hid (∀W,Calls Tryz.prog 166 #[.string (s.extract a E)] W fun e w'=>e= .returned (.string ⟨(((s.data.toList.drop a).take n).map loC).toArray⟩)∧Ext W w'):=by
  intro W
  have:=rlower_any (s.extract a E) W hps
  rw[piece_list,hna]at this
  exact this
 have HK:Hid (∀W,Calls Tryz.prog 164 #[.string (s.extract a E)] W fun e w'=>e= .returned (.bool (isKw ((s.data.toList.drop a).take n)))∧Ext W w'):=by
  intro W
  have:=rkeyword_any (s.extract a E) W hps
  rw[piece_list,hna]at this
  exact this
 have HNA:=hid hna
 have HBk:=hid (Blk.of_new w 78 [.int .i64 0,.string ⟨#[]⟩,.int .i64 0])
 clear hps hle hE hna hl
 generalize hL:(s.data.toList.drop a).take n=L at*
 clear hL
 go_enter Tryz.func95,Tryz.ntmps95
 go_wp2_with (go_at_call 162;refine(HL.out _).mono ?_;rintro e' w1 ⟨rfl,rfl⟩)
 go_loop [7] (fun i=> ∃k:Nat,a≤k∧k≤s.size∧i= .int .i64 k∧E=k+spanN inWord (s.data.toList.drop k)) (fun i=>s.size- (intOf i).toNat)
 case atStart=>exact⟨a,Nat.le_refl _,Nat.le_of_lt ha,rfl,by rw[HSP.out];exact HEn.out.symm⟩
 case round=>
  obtain⟨k,hak,hk,rfl,hv⟩:=hrel
  have HVx:=hid hv
  clear hv
  by_cases hlt:k<s.size
  ·have HD:=hid (drop1 s k hlt)
   have HLk:=hid (fun W=>rletter_any s[k] W)
   have HDk:=hid (fun W=>rdigit_any s[k] W)
   have HWP:=hid (word_parts s[k])
   cases h1:isLetter s[k]
   ·rw[h1]at HLk HWP
    cases h2:isDigit s[k]
    ·rw[h2]at HDk HWP
     by_cases h3:s[k].toNat=95
     ·have b3:((s[k].toNat:Int)==95)=true:=by rw[h3];rfl
      have HV:Hid (E=k+1+spanN inWord (s.data.toList.drop (k+1))):=by
       unfold Hid
       rw[HVx.out,HD.out,spanN,if_pos (by rw[HWP.out,h3];rfl)]
       omega
      clear h1 h2 h3
      go_wp2_with (first|(go_at_call 162;refine(HLk.out _).mono ?_;rintro e' w1 ⟨rfl,rfl⟩)|(go_at_call 163;refine(HDk.out _).mono ?_;rintro e' w1 ⟨rfl,rfl⟩))
      go_round
      case rel=>exact⟨k+1,by omega,by omega,by go_num,HV.out⟩
      case measure=>simp[intOf];omega
     ·have b3:((s[k].toNat:Int)==95)=false:=by rw[beq_eq_false_iff_ne];omega
      have HV:Hid (E=k):=by
       unfold Hid
       rw[HVx.out,HD.out,spanN,if_neg (by rw[HWP.out];simpa using h3)]
       omega
      clear h1 h2 h3
      obtain rfl:k=E:=HV.out.symm
      cases hkw:isKw L
      ·by_cases h24:24<k-a
       ·have HE:Hid (tokL (s.data.toList.drop a)= .bad 3):=by unfold Hid;rw[HT.out,HW.out,hkw,if_neg (by decide),if_pos (by rw[←HNA.out];exact h24)]
        go_wp2_with (first|(go_at_call 162;refine(HLk.out _).mono ?_;rintro e' w1 ⟨rfl,rfl⟩)|(go_at_call 163;refine(HDk.out _).mono ?_;rintro e' w1 ⟨rfl,rfl⟩)|(go_at_call 164;refine(HK.out _).mono ?_;rintro e' w2 ⟨rfl,hx2⟩;rw[hkw];have HB:=hid (HBk.out.ext hx2);have hc0:=HB.out.cell 0;have hc1:=HB.out.cell 1;have hc2:=HB.out.cell 2;obtain⟨hf0,hf1,hf2,-⟩:=frz HB.out))
        have s0:(w2.setCell ⟨w.heap.size,0,none⟩ (.int .i64 0)).cell? ⟨w.heap.size,0,none⟩=some (.int .i64 0):=(HB.out.set 0 _).cell 0
        have s1:((w2.setCell ⟨w.heap.size,0,none⟩ (.int .i64 0)).setCell ⟨w.heap.size,1,none⟩ (.string ⟨#[]⟩)).cell? ⟨w.heap.size,1,none⟩=some (.string ⟨#[]⟩):=((HB.out.set 0 _).set 1 _).cell 1
        have s2:(((w2.setCell ⟨w.heap.size,0,none⟩ (.int .i64 0)).setCell ⟨w.heap.size,1,none⟩ (.string ⟨#[]⟩)).setCell ⟨w.heap.size,2,none⟩ (.int .i64 0)).cell? ⟨w.heap.size,2,none⟩=some (.int .i64 0):=(((HB.out.set 0 _).set 1 _).set 2 _).cell 2
        exact bodyPost_ret (v:= .tuple #[.agg #[.int .i64 0,.string ⟨#[]⟩,.int .i64 0],.int .i64 (0),.int .i64 (3)]) (by simp[results,Tryz.results95,go_sem,s0,s1,s2]) rfl ⟨by rw[HE.out];rfl,(((((Ext.refl w).alloc _).trans hx2).setCell (Nat.le_refl _) _).setCell (Nat.le_refl _) _).setCell (Nat.le_refl _) _⟩
       ·have HE:Hid (tokL (s.data.toList.drop a)= .tok 1 (L.map loC) n):=by unfold Hid;rw[HT.out,HW.out,hkw,if_neg (by decide),if_neg (by rw[←HNA.out];exact h24)]
        generalize L.map loC=F at*
        go_wp2_with (first|(go_at_call 162;refine(HLk.out _).mono ?_;rintro e' w1 ⟨rfl,rfl⟩)|(go_at_call 163;refine(HDk.out _).mono ?_;rintro e' w1 ⟨rfl,rfl⟩)|(go_at_call 164;refine(HK.out _).mono ?_;rintro e' w2 ⟨rfl,hx2⟩;rw[hkw])|(go_at_call 166;refine(HO.out _).mono ?_;rintro e' w3 ⟨rfl,hx3⟩;have HB:=hid ((HBk.out.ext hx2).ext hx3);have hc0:=HB.out.cell 0;have hc1:=HB.out.cell 1;have hc2:=HB.out.cell 2;obtain⟨hf0,hf1,hf2,-⟩:=frz HB.out))
        have s0:(w3.setCell ⟨w.heap.size,0,none⟩ (.int .i64 1)).cell? ⟨w.heap.size,0,none⟩=some (.int .i64 1):=(HB.out.set 0 _).cell 0
        have s1:((w3.setCell ⟨w.heap.size,0,none⟩ (.int .i64 1)).setCell ⟨w.heap.size,1,none⟩ (.string ⟨F.toArray⟩)).cell? ⟨w.heap.size,1,none⟩=some (.string ⟨F.toArray⟩):=((HB.out.set 0 _).set 1 _).cell 1
        have s2:(((w3.setCell ⟨w.heap.size,0,none⟩ (.int .i64 1)).setCell ⟨w.heap.size,1,none⟩ (.string ⟨F.toArray⟩)).setCell ⟨w.heap.size,2,none⟩ (.int .i64 a)).cell? ⟨w.heap.size,2,none⟩=some (.int .i64 a):=(((HB.out.set 0 _).set 1 _).set 2 _).cell 2
        exact bodyPost_ret (v:= .tuple #[.agg #[.int .i64 1,.string ⟨F.toArray⟩,.int .i64 a],.int .i64 (k),.int .i64 (0)]) (by simp[results,Tryz.results95,go_sem,s0,s1,s2]) rfl ⟨by rw[HE.out,rres_tok a _ _ n _ HEn.out];rfl,((((((Ext.refl w).alloc _).trans hx2).trans hx3).setCell (Nat.le_refl _) _).setCell (Nat.le_refl _) _).setCell (Nat.le_refl _) _⟩
      ·have HE:Hid (tokL (s.data.toList.drop a)= .tok 2 (L.map upC) n):=by unfold Hid;rw[HT.out,HW.out,hkw,if_pos rfl]
       generalize L.map upC=F at*
       go_wp2_with (first|(go_at_call 162;refine(HLk.out _).mono ?_;rintro e' w1 ⟨rfl,rfl⟩)|(go_at_call 163;refine(HDk.out _).mono ?_;rintro e' w1 ⟨rfl,rfl⟩)|(go_at_call 164;refine(HK.out _).mono ?_;rintro e' w2 ⟨rfl,hx2⟩;rw[hkw])|(go_at_call 165;refine(HU.out _).mono ?_;rintro e' w3 ⟨rfl,hx3⟩;have HB:=hid ((HBk.out.ext hx2).ext hx3);have hc0:=HB.out.cell 0;have hc1:=HB.out.cell 1;have hc2:=HB.out.cell 2;obtain⟨hf0,hf1,hf2,-⟩:=frz HB.out))
       have s0:(w3.setCell ⟨w.heap.size,0,none⟩ (.int .i64 2)).cell? ⟨w.heap.size,0,none⟩=some (.int .i64 2):=(HB.out.set 0 _).cell 0
       have s1:((w3.setCell ⟨w.heap.size,0,none⟩ (.int .i64 2)).setCell ⟨w.heap.size,1,none⟩ (.string ⟨F.toArray⟩)).cell? ⟨w.heap.size,1,none⟩=some (.string ⟨F.toArray⟩):=((HB.out.set 0 _).set 1 _).cell 1
       have s2:(((w3.setCell ⟨w.heap.size,0,none⟩ (.int .i64 2)).setCell ⟨w.heap.size,1,none⟩ (.string ⟨F.toArray⟩)).setCell ⟨w.heap.size,2,none⟩ (.int .i64 a)).cell? ⟨w.heap.size,2,none⟩=some (.int .i64 a):=(((HB.out.set 0 _).set 1 _).set 2 _).cell 2
       exact bodyPost_ret (v:= .tuple #[.agg #[.int .i64 2,.string ⟨F.toArray⟩,.int .i64 a],.int .i64 (k),.int .i64 (0)]) (by simp[results,Tryz.results95,go_sem,s0,s1,s2]) rfl ⟨by rw[HE.out,rres_tok a _ _ n _ HEn.out];rfl,((((((Ext.refl w).alloc _).trans hx2).trans hx3).setCell (Nat.le_refl _) _).setCell (Nat.le_refl _) _).setCell (Nat.le_refl _) _⟩
    ·rw[h2]at HDk HWP
     have HV:Hid (E=k+1+spanN inWord (s.data.toList.drop (k+1))):=by
      unfold Hid
      rw[HVx.out,HD.out,spanN,if_pos (by rw[HWP.out];rfl)]
      omega
     clear h1 h2
     go_wp2_with (first|(go_at_call 162;refine(HLk.out _).mono ?_;rintro e' w1 ⟨rfl,rfl⟩)|(go_at_call 163;refine(HDk.out _).mono ?_;rintro e' w1 ⟨rfl,rfl⟩))
     go_round
     case rel=>exact⟨k+1,by omega,by omega,by go_num,HV.out⟩
     case measure=>simp[intOf];omega
   ·rw[h1]at HLk HWP
    have HV:Hid (E=k+1+spanN inWord (s.data.toList.drop (k+1))):=by
     unfold Hid
     rw[HVx.out,HD.out,spanN,if_pos (by rw[HWP.out];rfl)]
     omega
    clear h1
    go_wp2_with (first|(go_at_call 162;refine(HLk.out _).mono ?_;rintro e' w1 ⟨rfl,rfl⟩))
    go_round
    case rel=>exact⟨k+1,by omega,by omega,by go_num,HV.out⟩
    case measure=>simp[intOf];omega
  ·have HV:Hid (E=k):=by
    unfold Hid
    rw[HVx.out,List.drop_of_length_le (by rw[lst_len];omega),spanN]
    omega
   obtain rfl:k=E:=HV.out.symm
   cases hkw:isKw L
   ·by_cases h24:24<k-a
    ·have HE:Hid (tokL (s.data.toList.drop a)= .bad 3):=by unfold Hid;rw[HT.out,HW.out,hkw,if_neg (by decide),if_pos (by rw[←HNA.out];exact h24)]
     go_wp2_with (first|(go_at_call 164;refine(HK.out _).mono ?_;rintro e' w2 ⟨rfl,hx2⟩;rw[hkw];have HB:=hid (HBk.out.ext hx2);have hc0:=HB.out.cell 0;have hc1:=HB.out.cell 1;have hc2:=HB.out.cell 2;obtain⟨hf0,hf1,hf2,-⟩:=frz HB.out))
     have s0:(w2.setCell ⟨w.heap.size,0,none⟩ (.int .i64 0)).cell? ⟨w.heap.size,0,none⟩=some (.int .i64 0):=(HB.out.set 0 _).cell 0
     have s1:((w2.setCell ⟨w.heap.size,0,none⟩ (.int .i64 0)).setCell ⟨w.heap.size,1,none⟩ (.string ⟨#[]⟩)).cell? ⟨w.heap.size,1,none⟩=some (.string ⟨#[]⟩):=((HB.out.set 0 _).set 1 _).cell 1
     have s2:(((w2.setCell ⟨w.heap.size,0,none⟩ (.int .i64 0)).setCell ⟨w.heap.size,1,none⟩ (.string ⟨#[]⟩)).setCell ⟨w.heap.size,2,none⟩ (.int .i64 0)).cell? ⟨w.heap.size,2,none⟩=some (.int .i64 0):=(((HB.out.set 0 _).set 1 _).set 2 _).cell 2
     exact bodyPost_ret (v:= .tuple #[.agg #[.int .i64 0,.string ⟨#[]⟩,.int .i64 0],.int .i64 (0),.int .i64 (3)]) (by simp[results,Tryz.results95,go_sem,s0,s1,s2]) rfl ⟨by rw[HE.out];rfl,(((((Ext.refl w).alloc _).trans hx2).setCell (Nat.le_refl _) _).setCell (Nat.le_refl _) _).setCell (Nat.le_refl _) _⟩
    ·have HE:Hid (tokL (s.data.toList.drop a)= .tok 1 (L.map loC) n):=by unfold Hid;rw[HT.out,HW.out,hkw,if_neg (by decide),if_neg (by rw[←HNA.out];exact h24)]
     generalize L.map loC=F at*
     go_wp2_with (first|(go_at_call 164;refine(HK.out _).mono ?_;rintro e' w2 ⟨rfl,hx2⟩;rw[hkw])|(go_at_call 166;refine(HO.out _).mono ?_;rintro e' w3 ⟨rfl,hx3⟩;have HB:=hid ((HBk.out.ext hx2).ext hx3);have hc0:=HB.out.cell 0;have hc1:=HB.out.cell 1;have hc2:=HB.out.cell 2;obtain⟨hf0,hf1,hf2,-⟩:=frz HB.out))
     have s0:(w3.setCell ⟨w.heap.size,0,none⟩ (.int .i64 1)).cell? ⟨w.heap.size,0,none⟩=some (.int .i64 1):=(HB.out.set 0 _).cell 0
     have s1:((w3.setCell ⟨w.heap.size,0,none⟩ (.int .i64 1)).setCell ⟨w.heap.size,1,none⟩ (.string ⟨F.toArray⟩)).cell? ⟨w.heap.size,1,none⟩=some (.string ⟨F.toArray⟩):=((HB.out.set 0 _).set 1 _).cell 1
     have s2:(((w3.setCell ⟨w.heap.size,0,none⟩ (.int .i64 1)).setCell ⟨w.heap.size,1,none⟩ (.string ⟨F.toArray⟩)).setCell ⟨w.heap.size,2,none⟩ (.int .i64 a)).cell? ⟨w.heap.size,2,none⟩=some (.int .i64 a):=(((HB.out.set 0 _).set 1 _).set 2 _).cell 2
     exact bodyPost_ret (v:= .tuple #[.agg #[.int .i64 1,.string ⟨F.toArray⟩,.int .i64 a],.int .i64 (k),.int .i64 (0)]) (by simp[results,Tryz.results95,go_sem,s0,s1,s2]) rfl ⟨by rw[HE.out,rres_tok a _ _ n _ HEn.out];rfl,((((((Ext.refl w).alloc _).trans hx2).trans hx3).setCell (Nat.le_refl _) _).setCell (Nat.le_refl _) _).setCell (Nat.le_refl _) _⟩
   ·have HE:Hid (tokL (s.data.toList.drop a)= .tok 2 (L.map upC) n):=by unfold Hid;rw[HT.out,HW.out,hkw,if_pos rfl]
    generalize L.map upC=F at*
    go_wp2_with (first|(go_at_call 164;refine(HK.out _).mono ?_;rintro e' w2 ⟨rfl,hx2⟩;rw[hkw])|(go_at_call 165;refine(HU.out _).mono ?_;rintro e' w3 ⟨rfl,hx3⟩;have HB:=hid ((HBk.out.ext hx2).ext hx3);have hc0:=HB.out.cell 0;have hc1:=HB.out.cell 1;have hc2:=HB.out.cell 2;obtain⟨hf0,hf1,hf2,-⟩:=frz HB.out))
    have s0:(w3.setCell ⟨w.heap.size,0,none⟩ (.int .i64 2)).cell? ⟨w.heap.size,0,none⟩=some (.int .i64 2):=(HB.out.set 0 _).cell 0
    have s1:((w3.setCell ⟨w.heap.size,0,none⟩ (.int .i64 2)).setCell ⟨w.heap.size,1,none⟩ (.string ⟨F.toArray⟩)).cell? ⟨w.heap.size,1,none⟩=some (.string ⟨F.toArray⟩):=((HB.out.set 0 _).set 1 _).cell 1
    have s2:(((w3.setCell ⟨w.heap.size,0,none⟩ (.int .i64 2)).setCell ⟨w.heap.size,1,none⟩ (.string ⟨F.toArray⟩)).setCell ⟨w.heap.size,2,none⟩ (.int .i64 a)).cell? ⟨w.heap.size,2,none⟩=some (.int .i64 a):=(((HB.out.set 0 _).set 1 _).set 2 _).cell 2
    exact bodyPost_ret (v:= .tuple #[.agg #[.int .i64 2,.string ⟨F.toArray⟩,.int .i64 a],.int .i64 (k),.int .i64 (0)]) (by simp[results,Tryz.results95,go_sem,s0,s1,s2]) rfl ⟨by rw[HE.out,rres_tok a _ _ n _ HEn.out];rfl,((((((Ext.refl w).alloc _).trans hx2).trans hx3).setCell (Nat.le_refl _) _).setCell (Nat.le_refl _) _).setCell (Nat.le_refl _) _⟩
end Lx
namespace Lx
theorem less_same:∀(a b:List UInt8),a.length=b.length→Op.bytesLess a b=false→Op.bytesLess b a=false→a=b
 | [],[],_,_,_=>rfl
 |c::r,d::q,hl,h1,h2=>by
  rw[Op.bytesLess,Bool.or_eq_false_iff,decide_eq_false_iff_not]at h1 h2
  have e:c=d:=by
   apply num_ext
   rw[UInt8.lt_iff_toNat_lt]at h1 h2
   omega
  subst e
  rw[beq_self_eq_true,Bool.true_and]at h1 h2
  rw[less_same r q (by simpa using hl) h1.2 h2.2]
theorem ten_big (l:List UInt8) (h10:l.length=10):(Op.bytesLess big10 l=true→Op.bytesLess l big10=false∧(l==big10)=false)∧(Op.bytesLess big10 l=false→Op.bytesLess l big10=true∨(l==big10)=true):=by
 constructor
 ·intro h
  have hne:l≠big10:=by
   rintro rfl
   exact absurd h (by decide)
  refine⟨?_,beq_eq_false_iff_ne.2 hne⟩
  cases hx:Op.bytesLess l big10
  ·rfl
  ·exfalso
   have:∀a b:List UInt8,Op.bytesLess a b=true→Op.bytesLess b a=false:=by
    intro a
    induction a with
    |nil=>intro b hb;cases b<;>rfl
    |cons c r ih=>
     intro b hb
     cases b with
     |nil=>cases hb
     |cons d q=>
      rw[Op.bytesLess,Bool.or_eq_true,decide_eq_true_eq,UInt8.lt_iff_toNat_lt,Bool.and_eq_true,beq_iff_eq]at hb
      rw[Op.bytesLess,Bool.or_eq_false_iff,decide_eq_false_iff_not,UInt8.lt_iff_toNat_lt,Bool.and_eq_false_iff,beq_eq_false_iff_ne]
      rcases hb with hb|⟨rfl,hb⟩
      ·exact⟨by omega,.inl (fun e=>by rw[e]at hb;omega)⟩
      ·exact⟨by omega,.inr (ih q hb)⟩
   rw[this l big10 hx]at h
   cases h
 ·intro h
  cases hx:Op.bytesLess l big10
  ·right
   rw[beq_iff_eq]
   exact less_same l big10 (by rw[h10];rfl) hx h
  ·left;rfl
theorem next_text (s:ByteArray) (a:Nat) (w:World) (hs:s.size≤20000) (ha:a<s.size) (hq:s[a].toNat=39):Calls Tryz.prog 95 #[.string s,.int .i64 a] w fun e w'=>e= .returned (RRes a (tokL (s.data.toList.drop a)))∧Ext w w':=by
 have hl:isLetter s[a]=false:=by unfold isLetter;rw[hq];rfl
 have hd:isDigit s[a]=false:=by unfold isDigit;rw[hq];rfl
 have HT:Hid (tokL (s.data.toList.drop a)=textL (s.data.toList.drop (a+1))):=by
  unfold Hid
  rw[drop1 s a ha,tokL,if_neg (by rw[hl];decide),if_neg (by rw[hd];decide),if_pos hq]
 have HL:=hid (fun W=>rletter_any s[a] W)
 rw[hl]at HL
 have HD0:=hid (fun W=>rdigit_any s[a] W)
 rw[hd]at HD0
 have b1:((s[a].toNat:Int)==39)=true:=by rw[hq];rfl
 have HC:=hid (fun W=>literal_any s a W hs ha)
 have hlt:litS s a=litRes ((litF (s.data.toList.drop (a+1)) [] 1).map fun q=> (q.1,q.2+a)):=by
  unfold litS
  rw[Nat.add_comm a 1,lit_off a]
 rw[hlt]at HC
 have HB0:=hid (Blk.of_new w 78 [.int .i64 0,.string ⟨#[]⟩,.int .i64 0])
 have hc0:=HB0.out.cell 0
 have hc1:=HB0.out.cell 1
 have hc2:=HB0.out.cell 2
 obtain⟨hf0,hf1,hf2,-⟩:=frz HB0.out
 clear hl hd hq hlt
 cases hx:litF (s.data.toList.drop (a+1)) [] 1 with
 |none=>
  have HE:Hid (tokL (s.data.toList.drop a)= .bad 2):=by unfold Hid;rw[HT.out];unfold textL;rw[hx]
  rw[hx]at HC
  simp only[Option.map_none,litRes]at HC
  clear hx
  go_enter Tryz.func95,Tryz.ntmps95
  go_wp2_with (first|(go_at_call 162;refine(HL.out _).mono ?_;rintro e' w1 ⟨rfl,rfl⟩)|(go_at_call 163;refine(HD0.out _).mono ?_;rintro e' w1 ⟨rfl,rfl⟩)|(go_at_call 167;refine(HC.out _).mono ?_;rintro e' w1 ⟨rfl,rfl⟩))
  exact bodyPost_ret (v:= .tuple #[.agg #[.int .i64 0,.string ⟨#[]⟩,.int .i64 0],.int .i64 0,.int .i64 (2)]) (by simp[results,Tryz.results95,go_sem,hc0,hc1,hc2]) rfl ⟨by rw[HE.out];rfl,(Ext.refl w).alloc _⟩
 |some q=>
  obtain⟨X,i⟩:=q
  rw[hx]at HC
  simp only[Option.map_some,litRes]at HC
  have HXS:Hid ((⟨X.toArray⟩:ByteArray).size=X.length):=rfl
  by_cases hX:16<X.length
  ·have HE:Hid (tokL (s.data.toList.drop a)= .bad 3):=by unfold Hid;rw[HT.out];unfold textL;rw[hx];simp only;rw[if_pos hX]
   have hX2:16<(⟨X.toArray⟩:ByteArray).size:=hX
   clear hx
   generalize (⟨X.toArray⟩:ByteArray)=F at*
   go_enter Tryz.func95,Tryz.ntmps95
   go_wp2_with (first|(go_at_call 162;refine(HL.out _).mono ?_;rintro e' w1 ⟨rfl,rfl⟩)|(go_at_call 163;refine(HD0.out _).mono ?_;rintro e' w1 ⟨rfl,rfl⟩)|(go_at_call 167;refine(HC.out _).mono ?_;rintro e' w1 ⟨rfl,rfl⟩))
   exact bodyPost_ret (v:= .tuple #[.agg #[.int .i64 0,.string ⟨#[]⟩,.int .i64 0],.int .i64 0,.int .i64 (3)]) (by simp[results,Tryz.results95,go_sem,hc0,hc1,hc2]) rfl ⟨by rw[HE.out];rfl,(Ext.refl w).alloc _⟩
  ·have HE:Hid (RRes a (tokL (s.data.toList.drop a))= .tuple #[.agg #[.int .i64 4,.string ⟨X.toArray⟩,.int .i64 a],.int .i64 ((i+a:Nat):Int),.int .i64 0]):=by
    unfold Hid
    rw[HT.out];unfold textL;rw[hx];simp only;rw[if_neg hX,Nat.add_comm i a];rfl
   have hX2:¬16<(⟨X.toArray⟩:ByteArray).size:=hX
   clear hx
   generalize (⟨X.toArray⟩:ByteArray)=F at*
   generalize i+a=M at*
   go_enter Tryz.func95,Tryz.ntmps95
   go_wp2_with (first|(go_at_call 162;refine(HL.out _).mono ?_;rintro e' w1 ⟨rfl,rfl⟩)|(go_at_call 163;refine(HD0.out _).mono ?_;rintro e' w1 ⟨rfl,rfl⟩)|(go_at_call 167;refine(HC.out _).mono ?_;rintro e' w1 ⟨rfl,rfl⟩))
   have HBn:=Blk.of_new w 78 [.int .i64 4,.string F,.int .i64 a]
   have s0:=HBn.cell 0
   have s1:=HBn.cell 1
   have s2:=HBn.cell 2
   exact bodyPost_ret (v:= .tuple #[.agg #[.int .i64 4,.string F,.int .i64 a],.int .i64 (M),.int .i64 (0)]) (by simp[results,Tryz.results95,go_sem,s0,s1,s2]) rfl ⟨by rw[HE.out],(Ext.refl w).alloc _⟩
theorem next_symbol (s:ByteArray) (a:Nat) (w:World) (hs:s.size≤20000) (ha:a<s.size) (hl:isLetter s[a]=false) (hd:isDigit s[a]=false) (hq:¬s[a].toNat=39):Calls Tryz.prog 95 #[.string s,.int .i64 a] w fun e w'=>e= .returned (RRes a (tokL (s.data.toList.drop a)))∧Ext w w':=by
 have HT:Hid (tokL (s.data.toList.drop a)=symL (s.data.toList.drop a)):=by
  unfold Hid
  rw[drop1 s a ha,tokL,if_neg (by rw[hl];decide),if_neg (by rw[hd];decide),if_neg hq]
 have HL:=hid (fun W=>rletter_any s[a] W)
 rw[hl]at HL
 have HD0:=hid (fun W=>rdigit_any s[a] W)
 rw[hd]at HD0
 have b1:((s[a].toNat:Int)==39)=false:=by rw[beq_eq_false_iff_ne];omega
 have HC:=hid (fun W=>symbol_any s a W hs ha)
 have hle:symN (s.data.toList.drop a)≤(s.data.toList.drop a).length:=sym_le _
 rw[List.length_drop,lst_len]at hle
 have HSL:Hid (symL (s.data.toList.drop a)=if symN (s.data.toList.drop a)=0 then .bad 2 else .tok 5 ((s.data.toList.drop a).take (symN (s.data.toList.drop a))) (symN (s.data.toList.drop a))):=rfl
 generalize symN (s.data.toList.drop a)=n at*
 have HBk:=hid (Blk.of_new w 78 [.int .i64 0,.string ⟨#[]⟩,.int .i64 0])
 clear hl hd hq
 by_cases hn:n=0
 ·have HE:Hid (tokL (s.data.toList.drop a)= .bad 2):=by unfold Hid;rw[HT.out,HSL.out,if_pos hn]
  have b2:((n:Int)==0)=true:=by rw[hn];rfl
  clear hn
  go_enter Tryz.func95,Tryz.ntmps95
  go_wp2_with (first|(go_at_call 162;refine(HL.out _).mono ?_;rintro e' w1 ⟨rfl,rfl⟩)|(go_at_call 163;refine(HD0.out _).mono ?_;rintro e' w1 ⟨rfl,rfl⟩)|(go_at_call 168;refine(HC.out _).mono ?_;rintro e' w1 ⟨rfl,hx1⟩;have HB:=hid (HBk.out.ext hx1);have hc0:=HB.out.cell 0;have hc1:=HB.out.cell 1;have hc2:=HB.out.cell 2;obtain⟨hf0,hf1,hf2,-⟩:=frz HB.out))
  have s0:(w1.setCell ⟨w.heap.size,0,none⟩ (.int .i64 0)).cell? ⟨w.heap.size,0,none⟩=some (.int .i64 0):=(HB.out.set 0 _).cell 0
  have s1:((w1.setCell ⟨w.heap.size,0,none⟩ (.int .i64 0)).setCell ⟨w.heap.size,1,none⟩ (.string ⟨#[]⟩)).cell? ⟨w.heap.size,1,none⟩=some (.string ⟨#[]⟩):=((HB.out.set 0 _).set 1 _).cell 1
  have s2:(((w1.setCell ⟨w.heap.size,0,none⟩ (.int .i64 0)).setCell ⟨w.heap.size,1,none⟩ (.string ⟨#[]⟩)).setCell ⟨w.heap.size,2,none⟩ (.int .i64 0)).cell? ⟨w.heap.size,2,none⟩=some (.int .i64 0):=(((HB.out.set 0 _).set 1 _).set 2 _).cell 2
  exact bodyPost_ret (v:= .tuple #[.agg #[.int .i64 0,.string ⟨#[]⟩,.int .i64 0],.int .i64 (0),.int .i64 (2)]) (by simp[results,Tryz.results95,go_sem,s0,s1,s2]) rfl ⟨by rw[HE.out];rfl,(((((Ext.refl w).alloc _).trans hx1).setCell (Nat.le_refl _) _).setCell (Nat.le_refl _) _).setCell (Nat.le_refl _) _⟩
 ·have b2:((n:Int)==0)=false:=by rw[beq_eq_false_iff_ne];omega
  have HE:Hid (RRes a (tokL (s.data.toList.drop a))= .tuple #[.agg #[.int .i64 5,.string (s.extract a (a+n)),.int .i64 a],.int .i64 ((a:Int)+(n:Int)),.int .i64 0]):=by
   unfold Hid
   rw[HT.out,HSL.out,if_neg hn]
   have:s.extract a (a+n)=⟨((s.data.toList.drop a).take n).toArray⟩:=by_list (by rw[piece_list,Nat.add_sub_cancel_left])
   rw[this]
   rfl
  have hn0:a+n≤s.size:=by omega
  go_enter Tryz.func95,Tryz.ntmps95
  go_wp2_with (first|(go_at_call 162;refine(HL.out _).mono ?_;rintro e' w1 ⟨rfl,rfl⟩)|(go_at_call 163;refine(HD0.out _).mono ?_;rintro e' w1 ⟨rfl,rfl⟩)|(go_at_call 168;refine(HC.out _).mono ?_;rintro e' w1 ⟨rfl,hx1⟩;have HB:=hid (HBk.out.ext hx1);have hc0:=HB.out.cell 0;have hc1:=HB.out.cell 1;have hc2:=HB.out.cell 2;obtain⟨hf0,hf1,hf2,-⟩:=frz HB.out))
  have s0:(w1.setCell ⟨w.heap.size,0,none⟩ (.int .i64 5)).cell? ⟨w.heap.size,0,none⟩=some (.int .i64 5):=(HB.out.set 0 _).cell 0
  have s1:((w1.setCell ⟨w.heap.size,0,none⟩ (.int .i64 5)).setCell ⟨w.heap.size,1,none⟩ (.string (s.extract a (a+n)))).cell? ⟨w.heap.size,1,none⟩=some (.string (s.extract a (a+n))):=((HB.out.set 0 _).set 1 _).cell 1
  have s2:(((w1.setCell ⟨w.heap.size,0,none⟩ (.int .i64 5)).setCell ⟨w.heap.size,1,none⟩ (.string (s.extract a (a+n)))).setCell ⟨w.heap.size,2,none⟩ (.int .i64 a)).cell? ⟨w.heap.size,2,none⟩=some (.int .i64 a):=(((HB.out.set 0 _).set 1 _).set 2 _).cell 2
  exact bodyPost_ret (v:= .tuple #[.agg #[.int .i64 5,.string (s.extract a (a+n)),.int .i64 a],.int .i64 ((a:Int)+(n:Int)),.int .i64 (0)]) (by simp[results,Tryz.results95,go_sem,s0,s1,s2]) rfl ⟨by rw[HE.out],(((((Ext.refl w).alloc _).trans hx1).setCell (Nat.le_refl _) _).setCell (Nat.le_refl _) _).setCell (Nat.le_refl _) _⟩
end Lx
end Go.Proofs.YtjigcpfjhfoheaaGreatDoor
