/- Walks over the lexer: one token; Tokens: their cells, slices of them; Slices of tokens with the room behind them; Walks over the lexer: Tokens; Walks over the lexer's reference: one token; Walks over the lexer's reference: one tok. -/
import Derived.Test.YtjigcpfjhfoheaaGreatDoorVab
namespace Go.Proofs.YtjigcpfjhfoheaaGreatDoor
open Go.RowKit List Go.Proofs.Tryz
set_option maxHeartbeats 4000000
set_option maxRecDepth 100000
set_option linter.unusedVariables false
set_option linter.unusedSimpArgs false
namespace Lx
theorem ll (t:TR):∃(a:Int) (x:BA) (p n e:Int),TRes t= .tuple #[.agg #[i4 a,.string x,i4 p],i4 n,i4 e]:=by
 cases t with
 |bad e=>exact⟨0,⟨#[]⟩,0,0,e,rfl⟩
 |tok k x n=>exact⟨k,⟨x.toArray⟩,0,n,0,rfl⟩
theorem sD (s:BA) (w:World) (hs:s.size≤20000) (u:0<s.size) (E:KwAt w) (k:isLetter s[0]=true):Cl 97 #[.string s] w fun e w'=>e= .returned (TRes (tokL s.data.toList))∧Ext w w':=by
 have m:Hid (tokL s.data.toList=wordL s.data.toList):=by
  unfold Hid
  rw[iF s u,tokL,if_pos k]
 have o:=hid (fun W=>gw s[0] W)
 rw[k]at o
 have l:=hid (fun W (h:Ext w W)=>word_any s W hs (E.ext h))
 obtain⟨a,x,p,n,e,f⟩:=ll (wordL s.data.toList)
 rw[f]at l
 have r:Hid (TRes (tokL s.data.toList)= .tuple #[.agg #[i4 a,.string x,i4 p],i4 n,i4 e]):=by unfold Hid;rw[m.out,f]
 generalize TRes (tokL s.data.toList)=V at*
 have j:=hid (Blk.of_new w 70 [i4 0,.string ⟨#[]⟩,i4 0])
 clear m f k
 go_enter func97,ntmps97
 go_wp2_with (first|(go_at_call 171;refine(o _).mono ?_;rintro t i ⟨rfl,rfl⟩)|(go_at_call 172;refine(l _ (x10 w _)).mono ?_;rintro t i ⟨rfl,g⟩;have b:=hid (j.ext g);have y:=b.cell 0;have z:=b.cell 1;have A:=b.cell 2;obtain⟨B,C,D,-⟩:=frz b))
 have F:(i.setCell ⟨w.heap.size,0,none⟩ (i4 a)).cell? ⟨w.heap.size,0,none⟩=some (i4 a):=(b.set 0 _).cell 0
 have G:((i.setCell ⟨w.heap.size,0,none⟩ (i4 a)).setCell ⟨w.heap.size,1,none⟩ (.string x)).cell? ⟨w.heap.size,1,none⟩=some (.string x):=((b.set 0 _).set 1 _).cell 1
 have H:(((i.setCell ⟨w.heap.size,0,none⟩ (i4 a)).setCell ⟨w.heap.size,1,none⟩ (.string x)).setCell ⟨w.heap.size,2,none⟩ (i4 p)).cell? ⟨w.heap.size,2,none⟩=some (i4 p):=(((b.set 0 _).set 1 _).set 2 _).cell 2
 exact bodyPost_ret (v:= .tuple #[.agg #[i4 a,.string x,i4 p],i4 (n),i4 (e)]) (by simp[results,results97,go_sem,F,G,H]) rfl ⟨by rw[r.out],((((x10 w _).trans g).setCell (Nat.le_refl _) _).setCell (Nat.le_refl _) _).setCell (Nat.le_refl _) _⟩
theorem um (s:BA) (w:World) (hs:s.size≤20000) (t:0<s.size) (j:isLetter s[0]=false) (hd:isDigit s[0]=true):Cl 97 #[.string s] w fun e w'=>e= .returned (TRes (tokL s.data.toList))∧Ext w w':=by
 have m:Hid (tokL s.data.toList=numL s.data.toList):=by
  unfold Hid
  rw[iF s t,tokL,if_neg (by rw[j];decide),if_pos hd]
 have o:=hid (fun W=>gw s[0] W)
 rw[j]at o
 have l:=hid (fun W=>gg s[0] W)
 rw[hd]at l
 have k:=hid (fun W=>number_any s W hs t)
 obtain⟨a,x,p,n,e,f⟩:=ll (numL s.data.toList)
 rw[f]at k
 have u:Hid (TRes (tokL s.data.toList)= .tuple #[.agg #[i4 a,.string x,i4 p],i4 n,i4 e]):=by unfold Hid;rw[m.out,f]
 generalize TRes (tokL s.data.toList)=V at*
 have i:=hid (Blk.of_new w 70 [i4 0,.string ⟨#[]⟩,i4 0])
 clear m f j hd
 go_enter func97,ntmps97
 go_wp2_with (first|(go_at_call 171;refine(o _).mono ?_;rintro r h ⟨rfl,rfl⟩)|(go_at_call 173;refine(l _).mono ?_;rintro r h ⟨rfl,rfl⟩)|(go_at_call 174;refine(k _).mono ?_;rintro r h ⟨rfl,g⟩;have b:=hid (i.ext g);have y:=b.cell 0;have z:=b.cell 1;have A:=b.cell 2;obtain⟨B,C,D,-⟩:=frz b))
 have E:(h.setCell ⟨w.heap.size,0,none⟩ (i4 a)).cell? ⟨w.heap.size,0,none⟩=some (i4 a):=(b.set 0 _).cell 0
 have F:((h.setCell ⟨w.heap.size,0,none⟩ (i4 a)).setCell ⟨w.heap.size,1,none⟩ (.string x)).cell? ⟨w.heap.size,1,none⟩=some (.string x):=((b.set 0 _).set 1 _).cell 1
 have G:(((h.setCell ⟨w.heap.size,0,none⟩ (i4 a)).setCell ⟨w.heap.size,1,none⟩ (.string x)).setCell ⟨w.heap.size,2,none⟩ (i4 p)).cell? ⟨w.heap.size,2,none⟩=some (i4 p):=(((b.set 0 _).set 1 _).set 2 _).cell 2
 exact bodyPost_ret (v:= .tuple #[.agg #[i4 a,.string x,i4 p],i4 (n),i4 (e)]) (by simp[results,results97,go_sem,E,F,G]) rfl ⟨by rw[u.out],((((x10 w _).trans g).setCell (Nat.le_refl _) _).setCell (Nat.le_refl _) _).setCell (Nat.le_refl _) _⟩
theorem ww (s:BA) (w:World) (hs:s.size≤20000) (u:0<s.size) (g:s[0].toNat=39):Cl 97 #[.string s] w fun e w'=>e= .returned (TRes (tokL s.data.toList))∧Ext w w':=by
 have k:isLetter s[0]=false:=by unfold isLetter;rw[g];rfl
 have hd:isDigit s[0]=false:=by unfold isDigit;rw[g];rfl
 have o:Hid (tokL s.data.toList=textL (s.data.toList.drop 1)):=by
  unfold Hid
  conv=>lhs;rw[iF s u]
  rw[tokL,if_neg (by rw[k];decide),if_neg (by rw[hd];decide),if_pos g]
 have r:=hid (fun W=>gw s[0] W)
 rw[k]at r
 have m:=hid (fun W=>gg s[0] W)
 rw[hd]at m
 have l:=hid (fun W=>text_any s W hs u)
 have I:((s[0].toNat:Int)==39)=true:=by rw[g];rfl
 obtain⟨a,x,p,n,e,f⟩:=ll (textL (s.data.toList.drop 1))
 rw[f]at l
 have y:Hid (TRes (tokL s.data.toList)= .tuple #[.agg #[i4 a,.string x,i4 p],i4 n,i4 e]):=by unfold Hid;rw[o.out,f]
 generalize TRes (tokL s.data.toList)=V at*
 have j:=hid (Blk.of_new w 70 [i4 0,.string ⟨#[]⟩,i4 0])
 clear o f k hd g
 go_enter func97,ntmps97
 go_wp2_with (first|(go_at_call 171;refine(r _).mono ?_;rintro t i ⟨rfl,rfl⟩)|(go_at_call 173;refine(m _).mono ?_;rintro t i ⟨rfl,rfl⟩)|(go_at_call 175;refine(l _).mono ?_;rintro t i ⟨rfl,h⟩;have b:=hid (j.ext h);have z:=b.cell 0;have A:=b.cell 1;have B:=b.cell 2;obtain⟨C,D,E,-⟩:=frz b))
 have F:(i.setCell ⟨w.heap.size,0,none⟩ (i4 a)).cell? ⟨w.heap.size,0,none⟩=some (i4 a):=(b.set 0 _).cell 0
 have G:((i.setCell ⟨w.heap.size,0,none⟩ (i4 a)).setCell ⟨w.heap.size,1,none⟩ (.string x)).cell? ⟨w.heap.size,1,none⟩=some (.string x):=((b.set 0 _).set 1 _).cell 1
 have H:(((i.setCell ⟨w.heap.size,0,none⟩ (i4 a)).setCell ⟨w.heap.size,1,none⟩ (.string x)).setCell ⟨w.heap.size,2,none⟩ (i4 p)).cell? ⟨w.heap.size,2,none⟩=some (i4 p):=(((b.set 0 _).set 1 _).set 2 _).cell 2
 exact bodyPost_ret (v:= .tuple #[.agg #[i4 a,.string x,i4 p],i4 (n),i4 (e)]) (by simp[results,results97,go_sem,F,G,H]) rfl ⟨by rw[y.out],((((x10 w _).trans h).setCell (Nat.le_refl _) _).setCell (Nat.le_refl _) _).setCell (Nat.le_refl _) _⟩
def oM:Nat→List UInt8
 |0=> [60,62]
 |1=> [60,61]
 |2=> [62,61]
 |_=> []
def symS (k:Nat):BA:=⟨(oM k).toArray⟩
theorem symS_cell (k:Nat) (h:k<3): [Value.string ⟨#[60,62]⟩,Value.string ⟨#[60,61]⟩,Value.string ⟨#[62,61]⟩][k]? =some (.string (symS k)):=by
 match k,h with
 |0,_=>rfl
 |1,_=>rfl
 |2,_=>rfl
theorem hp_two (k:Nat) (a:k<3) (l:List UInt8) (h:Lib.hasPrefix l (oM k)=true):symN l=2∧l.take 2=oM k:=by
 unfold Lib.hasPrefix at h
 obtain⟨r,rfl⟩:=List.isPrefixOf_iff_prefix.1 h
 match k,a with
 |0,_=>exact⟨oR 60 62 r (.inl ⟨rfl,rfl⟩),rfl⟩
 |1,_=>exact⟨oR 60 61 r (.inr (.inl ⟨rfl,rfl⟩)),rfl⟩
 |2,_=>exact⟨oR 62 61 r (.inr (.inr ⟨rfl,rfl⟩)),rfl⟩
theorem hp_no (c:UInt8) (r:List UInt8) (h:∀k,k<3→Lib.hasPrefix (c::r) (oM k)=false):symN (c::r)=if c∈syms then 1 else 0:=by
 refine sB c r fun d q e=>?_
 subst e
 rintro(⟨rfl,rfl⟩|⟨rfl,rfl⟩|⟨rfl,rfl⟩)
 ·have:=h 0 (by decide);simp[Lib.hasPrefix,oM,List.isPrefixOf]at this
 ·have:=h 1 (by decide);simp[Lib.hasPrefix,oM,List.isPrefixOf]at this
 ·have:=h 2 (by decide);simp[Lib.hasPrefix,oM,List.isPrefixOf]at this
theorem idx_mem (c:UInt8):∀l:List UInt8,(0≤Lib.indexByte l c)↔c∈l
 | []=>by simp[Lib.indexByte]
 |b::l=>by
  have g:=idx_mem c l
  have k:=Lib.indexByte_ge l c
  rw[Lib.indexByte]
  by_cases f:b=c
  ·subst f;simp
  ·have e:(b==c)=false:=by simpa using f
   rw[e]
   simp only[Bool.false_eq_true,if_false,mem_cons]
   have a:¬c=b:=fun h=>f h.symm
   by_cases i:Lib.indexByte l c= -1
   ·rw[i]at g ⊢
    simp only[beq_self_eq_true,if_true,a,false_or]
    exact g
   ·have j:(Lib.indexByte l c== -1)=false:=by simpa using i
    rw[j]
    simp only[Bool.false_eq_true,if_false,a,false_or]
    rw[←g]
    omega
theorem first_of (P:Nat→Bool):∃m,m≤3∧(∀j,j<m→P j=false)∧(m<3→P m=true):=by
 cases b:P 0
 ·cases e:P 1
  ·cases f:P 2
   ·exact⟨3,Nat.le_refl _,fun j a=>by rcases(by omega:j=0∨j=1∨j=2)with rfl|rfl|rfl<;>assumption,fun h=>absurd h (Nat.lt_irrefl _)⟩
   ·exact⟨2,by decide,fun j a=>by rcases(by omega:j=0∨j=1)with rfl|rfl<;>assumption,fun _=>f⟩
  ·exact⟨1,by decide,fun j a=>by rw[show j=0 by omega];exact b,fun _=>e⟩
 ·exact⟨0,by decide,fun j a=>absurd a (Nat.not_lt_zero _),fun _=>b⟩
theorem sE (s:BA) (w:World) (hs:s.size≤20000) (Y:0<s.size) (R:isLetter s[0]=false) (hd:isDigit s[0]=false) (hq:¬s[0].toNat=39):Cl 97 #[.string s] w fun e w'=>e= .returned (TRes (tokL s.data.toList))∧Ext w w':=by
 have J:Hid (tokL s.data.toList=symL s.data.toList):=by
  unfold Hid
  rw[iF s Y,tokL,if_neg (by rw[R];decide),if_neg (by rw[hd];decide),if_neg hq]
 have X:=hid (fun W=>gw s[0] W)
 rw[R]at X
 have U:=hid (fun W=>gg s[0] W)
 rw[hd]at U
 have b1:((s[0].toNat:Int)==39)=false:=by rw[beq_eq_false_iff_ne];omega
 have L:Hid (∀k W,Cl 169 #[.string s,.string (symS k)] W fun e w'=>e= .returned (.bool (Lib.hasPrefix s.data.toList (oM k)))∧w'=W):=fun k W=>Tryz.strings_HasPrefix s (symS k) W
 have A:=hid (fun k hk=>hp_two k hk s.data.toList)
 have x:Hid ((∀k,k<3→Lib.hasPrefix s.data.toList (oM k)=false)→symN s.data.toList=if s[0]∈syms then 1 else 0):=by
  unfold Hid
  intro h
  rw[iF s Y]at h ⊢
  exact hp_no _ _ h
 generalize C:(fun k=>Lib.hasPrefix s.data.toList (oM k))=P at*
 have hP:∀k,Lib.hasPrefix s.data.toList (oM k)=P k:=fun k=>by rw[←C]
 simp only[hP]at L A x
 clear hP C
 obtain⟨m,hm,n,f⟩:=first_of P
 have K:=hid n
 have G:=hid (Blk.of_new w 70 [i4 0,.string ⟨#[]⟩,i4 0])
 have V:Hid (∀W,Cl 170 #[.string ⟨#[40,41,44,59,46,42,43,45,47,37,61,60,62]⟩,.int .u8 s[0].toNat] W fun e w'=>e= .returned (i4 (Lib.indexByte syms s[0]))∧w'=W):=by
  intro W
  have:=Tryz.strings_IndexByte ⟨#[40,41,44,59,46,42,43,45,47,37,61,60,62]⟩ (s[0].toNat:Int) W
  rw[Lib.byte_back']at this
  exact this
 have b:=idx_mem s[0] syms
 have r:Hid (symL s.data.toList=if symN s.data.toList=0 then .bad 2 else .tok 5 (s.data.toList.take (symN s.data.toList)) (symN s.data.toList)):=rfl
 have HF:Hid (s.extract 0 1=⟨(s.data.toList.take 1).toArray⟩):=ma (by rw[fj])
 generalize symN s.data.toList=SN at*
 clear R hd hq
 go_enter func97,ntmps97
 go_wp2_with (first|(go_at_call 171;refine(X _).mono ?_;rintro B w1 ⟨rfl,rfl⟩)|(go_at_call 173;refine(U _).mono ?_;rintro B w1 ⟨rfl,rfl⟩))
 have g:=hid (G.ext (x10 _ (.cells #[.string ⟨#[60,62]⟩,.string ⟨#[60,61]⟩,.string ⟨#[62,61]⟩] 9)))
 have u:=hid (Blk.of_new (w.alloc (.cells #[i4 0,.string ⟨#[]⟩,i4 0] 70)) 9 [.string ⟨#[60,62]⟩,.string ⟨#[60,61]⟩,.string ⟨#[62,61]⟩])
 have O:Hid (Ext w ((w.alloc (.cells #[i4 0,.string ⟨#[]⟩,i4 0] 70)).alloc (.cells #[.string ⟨#[60,62]⟩,.string ⟨#[60,61]⟩,.string ⟨#[62,61]⟩] 9))):=(x10 _ _).alloc _
 have H:Hid (Blk ((w.alloc (.cells #[i4 0,.string ⟨#[]⟩,i4 0] 70)).alloc (.cells #[.string ⟨#[60,62]⟩,.string ⟨#[60,61]⟩,.string ⟨#[62,61]⟩] 9)) (w.heap.size+1) 9 [.string ⟨#[60,62]⟩,.string ⟨#[60,61]⟩,.string ⟨#[62,61]⟩]):=by
  have:=u.out
  rw[World.size_alloc]at this
  exact this
 clear u
 generalize ((w.alloc (.cells #[i4 0,.string ⟨#[]⟩,i4 0] 70)).alloc (.cells #[.string ⟨#[60,62]⟩,.string ⟨#[60,61]⟩,.string ⟨#[62,61]⟩] 9))=w1 at*
 have ac:=g.cell 0
 have ad:=g.cell 1
 have ag:=g.cell 2
 obtain⟨ax,aS,a0,-⟩:=frz g
 go_loop [36] (fun i=> ∃k:Nat,k≤m∧i= i4 k) (fun i=>3- (intOf i).toNat)
 case atStart=>exact⟨0,Nat.zero_le _,rfl⟩
 case round=>
  obtain⟨k,hk,rfl⟩:=hrel
  by_cases t:k<3
  ·have an:=H.cell_some (symS_cell k t)
   cases a:P k
   ·have a1:k<m:=by
     rcases Nat.lt_or_ge k m with h|h
     ·exact h
     ·exfalso
      obtain rfl:k=m:=by omega
      rw[f t]at a
      cases a
    have p:Hid (P k=false):=a
    clear a f n
    go_wp2_with (go_at_call 169;refine(L k _).mono ?_;rintro B l ⟨rfl,rfl⟩;rw[p.out])
    go_round
    case rel=>exact⟨k+1,by omega,by go_num⟩
    case measure=>simp[intOf];omega
   ·have p:Hid (P k=true):=a
    obtain⟨o,Z⟩:=A k t a
    have y:Hid (tokL s.data.toList= .tok 5 (oM k) 2):=by
     unfold Hid
     rw[J.out,r.out,o,if_neg (by decide),Z]
    clear a f n o Z
    go_wp2_with (go_at_call 169;refine(L k _).mono ?_;rintro B l ⟨rfl,rfl⟩;rw[p.out])
    have D:(l.setCell ⟨w.heap.size,0,none⟩ (i4 5)).cell? ⟨w.heap.size,0,none⟩=some (i4 5):=(g.set 0 _).cell 0
    have E:((l.setCell ⟨w.heap.size,0,none⟩ (i4 5)).setCell ⟨w.heap.size,1,none⟩ (.string (symS k))).cell? ⟨w.heap.size,1,none⟩=some (.string (symS k)):=((g.set 0 _).set 1 _).cell 1
    have F:(((l.setCell ⟨w.heap.size,0,none⟩ (i4 5)).setCell ⟨w.heap.size,1,none⟩ (.string (symS k))).setCell ⟨w.heap.size,2,none⟩ (i4 0)).cell? ⟨w.heap.size,2,none⟩=some (i4 0):=(((g.set 0 _).set 1 _).set 2 _).cell 2
    exact bodyPost_ret (v:= .tuple #[.agg #[i4 5,.string (symS k),i4 0],i4 (2),i4 (0)]) (by simp[results,results97,go_sem,D,E,F]) rfl ⟨by rw[y.out];rfl,((O.setCell (Nat.le_refl _) _).setCell (Nat.le_refl _) _).setCell (Nat.le_refl _) _⟩
  ·obtain rfl:k=3:=by omega
   obtain rfl:m=3:=by omega
   have z:Hid (SN=if s[0]∈syms then 1 else 0):=x K
   clear f n
   by_cases j:s[0]∈syms
   ·have Q:0≤Lib.indexByte syms s[0]:=b.2 j
    have y:Hid (tokL s.data.toList= .tok 5 (s.data.toList.take 1) 1):=by
     unfold Hid
     have o:=z.out
     rw[if_pos j]at o
     rw[J.out,r.out,o,if_neg (by decide)]
    clear j b
    generalize Lib.indexByte syms s[0]=I at*
    go_wp2_with (go_at_call 170;refine(V _).mono ?_;rintro B l ⟨rfl,rfl⟩)
    have D:(l.setCell ⟨w.heap.size,0,none⟩ (i4 5)).cell? ⟨w.heap.size,0,none⟩=some (i4 5):=(g.set 0 _).cell 0
    have E:((l.setCell ⟨w.heap.size,0,none⟩ (i4 5)).setCell ⟨w.heap.size,1,none⟩ (.string (s.extract 0 1))).cell? ⟨w.heap.size,1,none⟩=some (.string (s.extract 0 1)):=((g.set 0 _).set 1 _).cell 1
    have F:(((l.setCell ⟨w.heap.size,0,none⟩ (i4 5)).setCell ⟨w.heap.size,1,none⟩ (.string (s.extract 0 1))).setCell ⟨w.heap.size,2,none⟩ (i4 0)).cell? ⟨w.heap.size,2,none⟩=some (i4 0):=(((g.set 0 _).set 1 _).set 2 _).cell 2
    exact bodyPost_ret (v:= .tuple #[.agg #[i4 5,.string (s.extract 0 1),i4 0],i4 (1),i4 (0)]) (by simp[results,results97,go_sem,D,E,F]) rfl ⟨by rw[y.out,HF.out];rfl,((O.setCell (Nat.le_refl _) _).setCell (Nat.le_refl _) _).setCell (Nat.le_refl _) _⟩
   ·have Q:¬0≤Lib.indexByte syms s[0]:=fun h=>j (b.1 h)
    have y:Hid (tokL s.data.toList= .bad 2):=by
     unfold Hid
     have o:=z.out
     rw[if_neg j]at o
     rw[J.out,r.out,o,if_pos rfl]
    clear j b
    generalize Lib.indexByte syms s[0]=I at*
    go_wp2_with (go_at_call 170;refine(V _).mono ?_;rintro B l ⟨rfl,rfl⟩)
    have D:(l.setCell ⟨w.heap.size,0,none⟩ (i4 0)).cell? ⟨w.heap.size,0,none⟩=some (i4 0):=(g.set 0 _).cell 0
    have E:((l.setCell ⟨w.heap.size,0,none⟩ (i4 0)).setCell ⟨w.heap.size,1,none⟩ (.string ⟨#[]⟩)).cell? ⟨w.heap.size,1,none⟩=some (.string ⟨#[]⟩):=((g.set 0 _).set 1 _).cell 1
    have F:(((l.setCell ⟨w.heap.size,0,none⟩ (i4 0)).setCell ⟨w.heap.size,1,none⟩ (.string ⟨#[]⟩)).setCell ⟨w.heap.size,2,none⟩ (i4 0)).cell? ⟨w.heap.size,2,none⟩=some (i4 0):=(((g.set 0 _).set 1 _).set 2 _).cell 2
    exact bodyPost_ret (v:= .tuple #[.agg #[i4 0,.string ⟨#[]⟩,i4 0],i4 (0),i4 (2)]) (by simp[results,results97,go_sem,D,E,F]) rfl ⟨by rw[y.out];rfl,((O.setCell (Nat.le_refl _) _).setCell (Nat.le_refl _) _).setCell (Nat.le_refl _) _⟩
theorem token_any (s:BA) (w:World) (hs:s.size≤20000) (a:0<s.size) (g:KwAt w):Cl 97 #[.string s] w fun e w'=>e= .returned (TRes (tokL s.data.toList))∧Ext w w':=by
 cases b:isLetter s[0]
 ·cases hd:isDigit s[0]
  ·by_cases f:s[0].toNat=39
   ·exact ww s w hs a f
   ·exact sE s w hs a b hd f
  ·exact um s w hs a b hd
 ·exact sD s w hs a g b
end Lx
namespace Lx
def Tk.cells (t:Tk):LV:= [i4 t.kind,.string ⟨t.text.toArray⟩,i4 t.pos]
def tkc (l:List Tk):LV:=l.flatMap Tk.cells
theorem tkc_app (l m:List Tk):tkc (l++m)=tkc l++tkc m:=by simp[tkc]
theorem tkc_one (a:Tk):tkc [a]=a.cells:=by simp[tkc]
theorem mb (l:List Tk) (a:Tk):tkc (l++ [a])=tkc l++a.cells:=by rw[tkc_app,tkc_one]
theorem un (a:Tk) (l:List Tk):tkc (a::l)=a.cells++tkc l:=by simp[tkc]
theorem tkc_len (l:List Tk):(tkc l).length=l.length*3:=by
 induction l with
 |nil=>rfl
 |cons a l ih=>rw[un,length_append,ih];simp[Tk.cells];omega
theorem sF (l:List Tk):∀(i j:Nat) (a:Tk),l[i]? =some a→j<3→(tkc l)[i*3+j]? =a.cells[j]? :=by
 induction l with
 |nil=>intro i j a h;simp at h
 |cons x l ih=>
  intro i j a h b
  rw[un]
  cases i with
  |zero=>
   simp at h
   subst h
   rw[getElem?_append_left (by simp[Tk.cells];omega)]
   simp
  |succ i=>
   rw[getElem?_append_right (by simp[Tk.cells];omega)]
   have e:(i+1)*3+j-x.cells.length=i*3+j:=by simp[Tk.cells];omega
   rw[e]
   exact ih i j a (by simpa using h) b
def pg (w:World) (A:OA) (l:List Tk):Prop:=
 ∀(i:Nat) (a:Tk),l[i]? =some a→∃b off,A=some ⟨b,off,none⟩∧w.cell? ⟨b,off+i*3,none⟩=some (i4 a.kind)∧w.cell? ⟨b,off+i*3+1,none⟩=some (.string ⟨a.text.toArray⟩)∧
  w.cell? ⟨b,off+i*3+2,none⟩=some (i4 a.pos)
theorem pg.ext {w w':World} {A:OA} {l:List Tk} (h:pg w A l) (e:Ext w w'):pg w' A l:=fun i a n=>by
 obtain⟨b,f,m,g,j,k⟩:=h i a n
 exact⟨b,f,m,e.keep g,e.keep j,e.keep k⟩
theorem own_tks {w:World} {B e n:Nat} {v:Value} {l:List Tk} (h:w.ownsRow B e 3 v n (tkc l)):∃A c,v= .slice A n c∧pg w A l∧l.length=n:=by
 have m:l.length=n:=by have:=h.1;rw[tkc_len]at this;omega
 have k:=fun g (o:v.ownBlock=some g)=>h.cells o
 rcases h.2 with ⟨rfl,h0⟩|⟨g,cap,cur,rfl,_⟩
 ·refine⟨none,0,by rw[h0],?_,m⟩
  have:l= []:=eq_nil_of_length_eq_zero (by omega)
  subst this
  intro i a f
  simp at f
 ·refine⟨_,_,rfl,fun i a f=>?_,m⟩
  have k:=k g rfl
  have b:∀j,(⟨g,0,none⟩:Addr).add j=⟨g,0+j,none⟩:=fun j=>by unfold Addr.add;split<;>simp_all
  refine⟨g,0,rfl,?_,?_,?_⟩
  ·have:=k (i*3+0) (i4 a.kind) (by rw[sF l i 0 a f (by omega)];rfl)
   rwa [b]at this
  ·have:=k (i*3+1) (.string ⟨a.text.toArray⟩) (by rw[sF l i 1 a f (by omega)];rfl)
   rwa [b,←Nat.add_assoc]at this
  ·have:=k (i*3+2) (i4 a.pos) (by rw[sF l i 2 a f (by omega)];rfl)
   rwa [b,←Nat.add_assoc]at this
theorem ownN_ext {w w':World} {B e sz n:Nat} {v:Value} {b:LV} (h:w.ownsRow B e sz v n b) (i:Ext w w'):w'.ownsRow B e sz v n b:=by
 obtain⟨f,a⟩:=h
 refine⟨f,?_⟩
 rcases a with a|⟨g,cap,cur,hv,hg,hh,r⟩
 ·exact .inl a
 ·exact .inr ⟨g,cap,cur,hv,hg,(Below.block i g (Array.getElem?_eq_some_iff.1 hh).1).trans hh,r⟩
theorem news_at (w:World) (cs:Array Value) (e:TypeId) (n:Nat) (a:n=w.heap.size):∀(j:Nat) (u:Value),cs.toList[j]? =some u→(w.alloc (.cells cs e)).cell? ((⟨n,0,none⟩:Addr).add j)=some u:=by
 subst a
 exact lV w cs e
def lsL:Ls→List Tk
 | .bad _ _=> []
 | .ok l=>l
def lsP:Ls→Nat
 | .bad a _=>a
 | .ok _=>0
def lsE:Ls→Nat
 | .bad _ e=>e
 | .ok _=>0
def TokRes (x:Ls) (v:Value) (w:World):Prop:=∃A c,v= .tuple #[.slice A (lsL x).length c,i4 (lsP x),i4 (lsE x)]∧pg w A (lsL x)
theorem TokRes.bad (a e:Nat) (w:World):TokRes (.bad a e) (.tuple #[.slice none 0 0,i4 a,i4 e]) w:=⟨none,0,rfl,fun i t h=>by simp[lsL]at h⟩
theorem tok_bad (c:UInt8) (r:List UInt8) (e:Nat) (h:tokL (c::r)= .bad e):e=2∨e=3:=by
 rw[tokL]at h
 split at h
 ·unfold wordL at h
  split at h
  ·cases h
  ·split at h<;>cases h
   exact .inr rfl
 split at h
 ·unfold numL at h
  split at h
  ·cases h;exact .inl rfl
  ·split at h<;>cases h
   exact .inr rfl
 split at h
 ·unfold textL at h
  cases a:litF r [] 1 with
  |none=>rw[a]at h;cases h;exact .inl rfl
  |some q=>
   obtain⟨X,i⟩:=q
   rw[a]at h
   simp only at h
   split at h<;>cases h
   exact .inr rfl
 ·unfold symL at h
  split at h<;>cases h
  exact .inl rfl
end Lx
namespace Lx
theorem uo {w:World} {B e n:Nat} {v:Value} {l:List Tk} (h:w.ownsRow B e 3 v n (tkc l)):∃A c,v= .slice A n c∧pg w A l∧l.length=n∧n≤c:=by
 obtain⟨A,c,rfl,a,b⟩:=own_tks h
 refine⟨A,c,rfl,a,b,?_⟩
 rcases h.2 with ⟨hv,h0⟩|⟨g,cap,cur,hv,_,_,hnc,_⟩
 ·omega
 ·simp only[Value.slice.injEq]at hv
  obtain⟨_,_,rfl⟩:=hv
  exact hnc
def ic (x:Ls) (v:Value) (w:World):Prop:=∃A c,v= .tuple #[.slice A (lsL x).length c,i4 (lsP x),i4 (lsE x)]∧pg w A (lsL x)∧(lsL x).length≤c
theorem ic.bad (a e:Nat) (w:World):ic (.bad a e) (.tuple #[.slice none 0 0,i4 a,i4 e]) w:=⟨none,0,rfl,fun i t h=>by simp[lsL]at h,Nat.le_refl _⟩
end Lx
namespace Lx
theorem info_c37:(prog.info? 70).map (fun i=> (i.zero,i.size,i.bytes))=some (some (.agg #[i4 0,.string ⟨#[]⟩,i4 0]),3,32):=by kernel_rfl
theorem tokens_cap (s:BA) (w:World) (hs:s.size≤20000) (hk:KwAt w):Cl 52 #[.string s] w fun e w'=> ∃v,e= .returned v∧ic (tokAll s) v w'∧Ext w w':=by
 by_cases y:16384<s.size
 ·have X:Hid (tokAll s= .bad 16384 3):=if_pos y
  go_enter func52,ntmps52
  go_wp2_with fail
  go_ret3
  exact⟨_,rfl,by rw[X.out];exact ic.bad _ _ _,Ext.refl _⟩
 have X:Hid (tokAll s=T s.data.toList 0):=if_neg y
 obtain⟨i0,hi,R,U,V⟩:=info_parts info_c37
 have a2:skipN false s.data.toList≤s.size:=skip_le false s.data.toList
 have J:=hid (fun W a (ha:a≤s.size)=>skip_any s a W hs ha)
 have K:Hid (∀a,a≤s.size→a+skipN false (s.data.toList.drop a)≤s.size):=fun a ha=>by
  have:=skip_le false (s.data.toList.drop a)
  rw[length_drop,bJ]at this
  omega
 go_enter func52,ntmps52
 go_wp2_with (go_at_call 96;refine(J _ 0 (Nat.zero_le _)).mono ?_;rintro e' C ⟨rfl,a3⟩;subst C)
 go_loopw [5,6] (fun v i wr=> ∃(p:Nat) (f:List Tk),p≤s.size∧i= i4 ((p+skipN false (s.data.toList.drop p):Nat):Int)∧wr.ownsRow w.heap.size 70 3 v f.length (tkc f)∧f.length≤p∧Ext w wr∧T s.data.toList 0=(T (s.data.toList.drop p) p).pre f) (fun _ i _=>s.size- (intOf i).toNat)
 case atStart=>exact⟨0,[],Nat.zero_le _,by simp,World.ownsRow_nil _ _ _ _,Nat.zero_le _,Ext.refl w,by rw[drop_zero];cases T s.data.toList 0<;>rfl⟩
 case round=>
  obtain⟨p,f,hp,rfl,o,a1,m,hv⟩:=hrel
  have HV:=hid hv
  clear hv
  obtain⟨k,b⟩:∃k,p+skipN false (s.data.toList.drop p)=k:=⟨_,rfl⟩
  have a0:k≤s.size:=b ▸ K p hp
  rw[b]
  by_cases F:k<s.size
  ·have hd:(s.data.toList.drop p).drop (skipN false (s.data.toList.drop p))=s[k]::s.data.toList.drop (k+1):=by rw[drop_drop,b,bM s k F]
   have P:(s.extract k s.size).size=s.size-k:=by rw[ByteArray.size_extract];omega
   have G:∀W,Ext w W→Cl 97 #[.string (s.extract k s.size)] W fun e w'=>e= .returned (TRes (tokL (s[k]::s.data.toList.drop (k+1))))∧Ext W w':=by
    intro W hW
    have:=token_any (s.extract k s.size) W (by omega) (by omega) (hk.ext hW)
    rw[nh,bM s k F]at this
    exact this
   cases B:tokL (s[k]::s.data.toList.drop (k+1))with
   |bad e=>
    have t:T s.data.toList 0= .bad k e:=by rw[HV.out,T_bad _ p _ _ e hd B,b];rfl
    have hb:=tok_bad _ _ e B
    have b1:((e:Int) !=0)=true:=by rw[bne_iff_ne];omega
    rw[B]at G
    have H:=hid G
    have I:=hid t
    clear G t hd hb B P b
    simp only[TRes]at H
    go_wp2_with (go_at_call 97;refine(H _ m).mono ?_;rintro e' C ⟨rfl,r⟩)
    go_ret3
    exact⟨_,rfl,by rw[X.out,I.out];exact ic.bad _ _ _,(m.trans r).alloc _⟩
   |tok kd x n=>
    have t:T s.data.toList 0=(T (s.data.toList.drop (k+n)) (k+n)).pre (f++ [⟨kd,x,k⟩]):=by
     rw[HV.out,T_tok _ p _ _ kd x n hd B,pre_pre,b,←bM s k F,drop_drop]
    have E:=tok_bound _ _ kd x n B
    have L:k+n≤s.size:=by
     have:=E.2
     rw[length_cons,length_drop,bJ]at this
     omega
    have ax:=E.1
    rw[B]at G
    have H:=hid G
    have I:=hid t
    have Y:=hid b
    have ag:p≤k:=by omega
    clear G t hd E B P b
    simp only[TRes]at H
    have D:∀C:World,Ext wr C→w.heap.size≤C.heap.size+1+1:=fun C h=>by have:=h.size;have:=m.size;omega
    go_wp2_with (first
     |(go_at_call 97;refine(H _ m).mono ?_;rintro e' C ⟨rfl,r⟩;have Z:=hid (ownN_ext o ((r.alloc (.cells #[i4 kd,.string ⟨x.toArray⟩,i4 k] 70)).alloc (.cells #[i4 kd,.string ⟨x.toArray⟩,i4 k] 70)));have aS:=D C r;clear D)
     |(at_builtin;refine wpList_append_own _ rfl _ _ 66 rfl w.heap.size 70 i0 (.agg #[i4 0,.string ⟨#[]⟩,i4 0]) 3 32 underlying66 hi R U V rfl (by decide) _ _ _ rfl Z.out ⟨_,0,none⟩ 1 1 (Tk.cells ⟨kd,x,k⟩) rfl rfl (news_at _ _ _ _ (by simp)) (by intro u Q;simp[Tk.cells]at Q;rcases Q with rfl|rfl|rfl<;>rfl) (by unfold maxLen;omega) (by omega) (by simp;omega) ?_;intro v' w2 l j _)
     |(go_at_call 96;refine(J _ (k+n) L).mono ?_;rintro e' w3 ⟨rfl,a4⟩;subst w3))
    go_roundw
    case rel=>
     refine⟨k+n,f++ [⟨kd,x,k⟩],L,rfl,by rw[mb,length_append];exact l,by rw[length_append];simp only[length_cons,length_nil];omega,Ext.grown ((m.trans r).alloc _|>.alloc _) j (fun g hg=>dH o hg),I.out⟩
    case measure=>simp[intOf];omega
  ·have hd:(s.data.toList.drop p).drop (skipN false (s.data.toList.drop p))= []:=by rw[drop_drop,b];exact drop_of_length_le (by rw[bJ];omega)
   have t:T s.data.toList 0= .ok (f++ [⟨0,[],s.size⟩]):=by rw[HV.out,T_end _ p hd,b,show k=s.size by omega];rfl
   have I:=hid t
   have Y:=hid b
   have ag:p≤k:=by omega
   have D:w.heap.size≤wr.heap.size+1:=by have:=m.size;omega
   have Z:=hid (ownN_ext o (x10 wr (.cells #[i4 0,.string ⟨#[]⟩,i4 s.size] 70)))
   clear hd t b
   go_wp2_with (at_builtin;refine wpList_append_own _ rfl _ _ 66 rfl w.heap.size 70 i0 (.agg #[i4 0,.string ⟨#[]⟩,i4 0]) 3 32 underlying66 hi R U V rfl (by decide) _ _ _ rfl Z.out ⟨_,0,none⟩ 1 1 (Tk.cells ⟨0,[],s.size⟩) rfl rfl (news_at _ _ _ _ (by simp)) (by intro u Q;simp[Tk.cells]at Q;rcases Q with rfl|rfl|rfl<;>rfl) (by unfold maxLen;omega) (by omega) (by simp;omega) ?_;intro v' w2 l j _)
   have an:Ext w w2:=Ext.grown (m.alloc _) j (fun g hg=>dH o hg)
   have ad:w2.ownsRow w.heap.size 70 3 v' (f++ [(⟨0,[],s.size⟩:Tk)]).length (tkc (f++ [⟨0,[],s.size⟩])):=by rw[mb,length_append];exact l
   obtain⟨A,c,rfl,ac,z,O⟩:=uo ad
   go_ret3
   refine⟨_,rfl,?_,an⟩
   rw[X.out,I.out]
   exact⟨A,c,by rw[z];rfl,ac,by show(f++ [(⟨0,[],s.size⟩:Tk)]).length≤c;rw[z];exact O⟩
end Lx
namespace Lx
def RRes (a:Nat):TR→Value
 | .bad e=> .tuple #[.agg #[i4 0,.string ⟨#[]⟩,i4 0],i4 0,i4 e]
 | .tok k x n=> .tuple #[.agg #[i4 k,.string ⟨x.toArray⟩,i4 a],i4 ((a+n:Nat):Int),i4 0]
theorem gA (s:BA) (a k:Nat):(s.extract a k).data.toList=(s.data.toList.drop a).take (k-a):=Lib.extract_data s a k
theorem dZ (a E k n:Nat) (x:List UInt8) (h:a+n=E):RRes a (.tok k x n)= .tuple #[.agg #[i4 k,.string ⟨x.toArray⟩,i4 a],i4 E,i4 0]:=by rw[←h];rfl
theorem ph (c:UInt8):inWord c=(isLetter c||isDigit c||c.toNat==95):=rfl
theorem uq (s:BA) (a:Nat) (w:World) (hs:s.size≤20000) (ha:a<s.size) (hl:isLetter s[a]=true):Cl 95 #[.string s,i4 a] w fun e w'=>e= .returned (RRes a (tokL (s.data.toList.drop a)))∧Ext w w':=by
 have Z:Hid (tokL (s.data.toList.drop a)=wordL (s.data.toList.drop a)):=by
  unfold Hid
  rw[bM s a ha,tokL,if_pos hl]
 have HL:=hid (fun W=>ew s[a] W)
 rw[hl]at HL
 have X:spanN inWord (s.data.toList.drop a)≤(s.data.toList.drop a).length:=span_le inWord _
 rw[length_drop,bJ]at X
 have V:Hid (wordL (s.data.toList.drop a)=if isKw ((s.data.toList.drop a).take (spanN inWord (s.data.toList.drop a)))=true then .tok 2 (((s.data.toList.drop a).take (spanN inWord (s.data.toList.drop a))).map upC) (spanN inWord (s.data.toList.drop a))
   else if 24<spanN inWord (s.data.toList.drop a)then .bad 3
   else .tok 1 (((s.data.toList.drop a).take (spanN inWord (s.data.toList.drop a))).map loC) (spanN inWord (s.data.toList.drop a))):=rfl
 obtain⟨n,hn⟩:∃n,spanN inWord (s.data.toList.drop a)=n:=⟨_,rfl⟩
 have ac:=hid hn
 rw[hn]at V X
 clear hn
 obtain⟨E,hE⟩:∃E,a+n=E:=⟨_,rfl⟩
 have u:=hid hE
 have ag:a≤E:=by omega
 have an:E≤s.size:=by omega
 have H:E-a=n:=by omega
 have U:(s.extract a E).size≤20000:=Nat.le_trans (pd s a E) hs
 have HU:Hid (∀W,Cl 165 #[.string (s.extract a E)] W fun e w'=>e= .returned (.string ⟨(((s.data.toList.drop a).take n).map upC).toArray⟩)∧Ext W w'):=by
  intro W
  have:=lj (s.extract a E) W U
  rw[gA,H]at this
  exact this
 have HO:Hid (∀W,Cl 166 #[.string (s.extract a E)] W fun e w'=>e= .returned (.string ⟨(((s.data.toList.drop a).take n).map loC).toArray⟩)∧Ext W w'):=by
  intro W
  have:=wm (s.extract a E) W U
  rw[gA,H]at this
  exact this
 have Y:Hid (∀W,Cl 164 #[.string (s.extract a E)] W fun e w'=>e= .returned (.bool (isKw ((s.data.toList.drop a).take n)))∧Ext W w'):=by
  intro W
  have:=sA (s.extract a E) W U
  rw[gA,H]at this
  exact this
 have Q:=hid H
 have r:=hid (Blk.of_new w 78 [i4 0,.string ⟨#[]⟩,i4 0])
 clear U X hE H hl
 generalize hL:(s.data.toList.drop a).take n=L at*
 clear hL
 go_enter func95,ntmps95
 go_wp2_with (go_at_call 162;refine(HL _).mono ?_;rintro j O ⟨rfl,rfl⟩)
 go_loop [7] (fun i=> ∃k:Nat,a≤k∧k≤s.size∧i= i4 k∧E=k+spanN inWord (s.data.toList.drop k)) (fun i=>s.size- (intOf i).toNat)
 case atStart=>exact⟨a,Nat.le_refl _,Nat.le_of_lt ha,rfl,by rw[ac.out];exact u.symm⟩
 case round=>
  obtain⟨k,ax,hk,rfl,hv⟩:=hrel
  have x:=hid hv
  clear hv
  by_cases ad:k<s.size
  ·have HD:=hid (bM s k ad)
   have l:=hid (fun W=>ew s[k] W)
   have o:=hid (fun W=>gx s[k] W)
   have m:=hid (ph s[k])
   cases h1:isLetter s[k]
   ·rw[h1]at l m
    cases h2:isDigit s[k]
    ·rw[h2]at o m
     by_cases h3:s[k].toNat=95
     ·have b3:((s[k].toNat:Int)==95)=true:=by rw[h3];rfl
      have R:Hid (E=k+1+spanN inWord (s.data.toList.drop (k+1))):=by
       unfold Hid
       rw[x.out,HD.out,spanN,if_pos (by rw[m.out,h3];rfl)]
       omega
      clear h1 h2 h3
      go_wp2_with (first|(go_at_call 162;refine(l _).mono ?_;rintro j O ⟨rfl,rfl⟩)|(go_at_call 163;refine(o _).mono ?_;rintro j O ⟨rfl,rfl⟩))
      go_round
      case rel=>exact⟨k+1,by omega,by omega,by go_num,R⟩
      case measure=>simp[intOf];omega
     ·have b3:((s[k].toNat:Int)==95)=false:=by rw[beq_eq_false_iff_ne];omega
      have R:Hid (E=k):=by
       unfold Hid
       rw[x.out,HD.out,spanN,if_neg (by rw[m.out];simpa using h3)]
       omega
      clear h1 h2 h3
      obtain rfl:k=E:=R.symm
      cases g:isKw L
      ·by_cases y:24<k-a
       ·have t:Hid (tokL (s.data.toList.drop a)= .bad 3):=by unfold Hid;rw[Z.out,V.out,g,if_neg (by decide),if_pos (by rw[←Q.out];exact y)]
        go_wp2_with (first|(go_at_call 162;refine(l _).mono ?_;rintro j O ⟨rfl,rfl⟩)|(go_at_call 163;refine(o _).mono ?_;rintro j O ⟨rfl,rfl⟩)|(go_at_call 164;refine(Y _).mono ?_;rintro j P ⟨rfl,f⟩;rw[g];have b:=hid (r.ext f);have z:=b.cell 0;have A:=b.cell 1;have B:=b.cell 2;obtain⟨C,D,G,-⟩:=frz b))
        have I:(P.setCell ⟨w.heap.size,0,none⟩ (i4 0)).cell? ⟨w.heap.size,0,none⟩=some (i4 0):=(b.set 0 _).cell 0
        have J:((P.setCell ⟨w.heap.size,0,none⟩ (i4 0)).setCell ⟨w.heap.size,1,none⟩ (.string ⟨#[]⟩)).cell? ⟨w.heap.size,1,none⟩=some (.string ⟨#[]⟩):=((b.set 0 _).set 1 _).cell 1
        have K:(((P.setCell ⟨w.heap.size,0,none⟩ (i4 0)).setCell ⟨w.heap.size,1,none⟩ (.string ⟨#[]⟩)).setCell ⟨w.heap.size,2,none⟩ (i4 0)).cell? ⟨w.heap.size,2,none⟩=some (i4 0):=(((b.set 0 _).set 1 _).set 2 _).cell 2
        exact bodyPost_ret (v:= .tuple #[.agg #[i4 0,.string ⟨#[]⟩,i4 0],i4 (0),i4 (3)]) (by simp[results,results95,go_sem,I,J,K]) rfl ⟨by rw[t.out];rfl,((((x10 w _).trans f).setCell (Nat.le_refl _) _).setCell (Nat.le_refl _) _).setCell (Nat.le_refl _) _⟩
       ·have t:Hid (tokL (s.data.toList.drop a)= .tok 1 (L.map loC) n):=by unfold Hid;rw[Z.out,V.out,g,if_neg (by decide),if_neg (by rw[←Q.out];exact y)]
        generalize L.map loC=F at*
        go_wp2_with (first|(go_at_call 162;refine(l _).mono ?_;rintro j O ⟨rfl,rfl⟩)|(go_at_call 163;refine(o _).mono ?_;rintro j O ⟨rfl,rfl⟩)|(go_at_call 164;refine(Y _).mono ?_;rintro j P ⟨rfl,f⟩;rw[g])|(go_at_call 166;refine(HO _).mono ?_;rintro j p ⟨rfl,h⟩;have b:=hid ((r.ext f).ext h);have z:=b.cell 0;have A:=b.cell 1;have B:=b.cell 2;obtain⟨C,D,G,-⟩:=frz b))
        have I:(p.setCell ⟨w.heap.size,0,none⟩ (i4 1)).cell? ⟨w.heap.size,0,none⟩=some (i4 1):=(b.set 0 _).cell 0
        have J:((p.setCell ⟨w.heap.size,0,none⟩ (i4 1)).setCell ⟨w.heap.size,1,none⟩ (.string ⟨F.toArray⟩)).cell? ⟨w.heap.size,1,none⟩=some (.string ⟨F.toArray⟩):=((b.set 0 _).set 1 _).cell 1
        have K:(((p.setCell ⟨w.heap.size,0,none⟩ (i4 1)).setCell ⟨w.heap.size,1,none⟩ (.string ⟨F.toArray⟩)).setCell ⟨w.heap.size,2,none⟩ (i4 a)).cell? ⟨w.heap.size,2,none⟩=some (i4 a):=(((b.set 0 _).set 1 _).set 2 _).cell 2
        exact bodyPost_ret (v:= .tuple #[.agg #[i4 1,.string ⟨F.toArray⟩,i4 a],i4 (k),i4 (0)]) (by simp[results,results95,go_sem,I,J,K]) rfl ⟨by rw[t.out,dZ a _ _ n _ u.out];rfl,(((((x10 w _).trans f).trans h).setCell (Nat.le_refl _) _).setCell (Nat.le_refl _) _).setCell (Nat.le_refl _) _⟩
      ·have t:Hid (tokL (s.data.toList.drop a)= .tok 2 (L.map upC) n):=by unfold Hid;rw[Z.out,V.out,g,if_pos rfl]
       generalize L.map upC=F at*
       go_wp2_with (first|(go_at_call 162;refine(l _).mono ?_;rintro j O ⟨rfl,rfl⟩)|(go_at_call 163;refine(o _).mono ?_;rintro j O ⟨rfl,rfl⟩)|(go_at_call 164;refine(Y _).mono ?_;rintro j P ⟨rfl,f⟩;rw[g])|(go_at_call 165;refine(HU _).mono ?_;rintro j p ⟨rfl,h⟩;have b:=hid ((r.ext f).ext h);have z:=b.cell 0;have A:=b.cell 1;have B:=b.cell 2;obtain⟨C,D,G,-⟩:=frz b))
       have I:(p.setCell ⟨w.heap.size,0,none⟩ (i4 2)).cell? ⟨w.heap.size,0,none⟩=some (i4 2):=(b.set 0 _).cell 0
       have J:((p.setCell ⟨w.heap.size,0,none⟩ (i4 2)).setCell ⟨w.heap.size,1,none⟩ (.string ⟨F.toArray⟩)).cell? ⟨w.heap.size,1,none⟩=some (.string ⟨F.toArray⟩):=((b.set 0 _).set 1 _).cell 1
       have K:(((p.setCell ⟨w.heap.size,0,none⟩ (i4 2)).setCell ⟨w.heap.size,1,none⟩ (.string ⟨F.toArray⟩)).setCell ⟨w.heap.size,2,none⟩ (i4 a)).cell? ⟨w.heap.size,2,none⟩=some (i4 a):=(((b.set 0 _).set 1 _).set 2 _).cell 2
       exact bodyPost_ret (v:= .tuple #[.agg #[i4 2,.string ⟨F.toArray⟩,i4 a],i4 (k),i4 (0)]) (by simp[results,results95,go_sem,I,J,K]) rfl ⟨by rw[t.out,dZ a _ _ n _ u.out];rfl,(((((x10 w _).trans f).trans h).setCell (Nat.le_refl _) _).setCell (Nat.le_refl _) _).setCell (Nat.le_refl _) _⟩
    ·rw[h2]at o m
     have R:Hid (E=k+1+spanN inWord (s.data.toList.drop (k+1))):=by
      unfold Hid
      rw[x.out,HD.out,spanN,if_pos (by rw[m.out];rfl)]
      omega
     clear h1 h2
     go_wp2_with (first|(go_at_call 162;refine(l _).mono ?_;rintro j O ⟨rfl,rfl⟩)|(go_at_call 163;refine(o _).mono ?_;rintro j O ⟨rfl,rfl⟩))
     go_round
     case rel=>exact⟨k+1,by omega,by omega,by go_num,R⟩
     case measure=>simp[intOf];omega
   ·rw[h1]at l m
    have R:Hid (E=k+1+spanN inWord (s.data.toList.drop (k+1))):=by
     unfold Hid
     rw[x.out,HD.out,spanN,if_pos (by rw[m.out];rfl)]
     omega
    clear h1
    go_wp2_with (first|(go_at_call 162;refine(l _).mono ?_;rintro j O ⟨rfl,rfl⟩))
    go_round
    case rel=>exact⟨k+1,by omega,by omega,by go_num,R⟩
    case measure=>simp[intOf];omega
  ·have R:Hid (E=k):=by
    unfold Hid
    rw[x.out,drop_of_length_le (by rw[bJ];omega),spanN]
    omega
   obtain rfl:k=E:=R.symm
   cases g:isKw L
   ·by_cases y:24<k-a
    ·have t:Hid (tokL (s.data.toList.drop a)= .bad 3):=by unfold Hid;rw[Z.out,V.out,g,if_neg (by decide),if_pos (by rw[←Q.out];exact y)]
     go_wp2_with (first|(go_at_call 164;refine(Y _).mono ?_;rintro j P ⟨rfl,f⟩;rw[g];have b:=hid (r.ext f);have z:=b.cell 0;have A:=b.cell 1;have B:=b.cell 2;obtain⟨C,D,G,-⟩:=frz b))
     have I:(P.setCell ⟨w.heap.size,0,none⟩ (i4 0)).cell? ⟨w.heap.size,0,none⟩=some (i4 0):=(b.set 0 _).cell 0
     have J:((P.setCell ⟨w.heap.size,0,none⟩ (i4 0)).setCell ⟨w.heap.size,1,none⟩ (.string ⟨#[]⟩)).cell? ⟨w.heap.size,1,none⟩=some (.string ⟨#[]⟩):=((b.set 0 _).set 1 _).cell 1
     have K:(((P.setCell ⟨w.heap.size,0,none⟩ (i4 0)).setCell ⟨w.heap.size,1,none⟩ (.string ⟨#[]⟩)).setCell ⟨w.heap.size,2,none⟩ (i4 0)).cell? ⟨w.heap.size,2,none⟩=some (i4 0):=(((b.set 0 _).set 1 _).set 2 _).cell 2
     exact bodyPost_ret (v:= .tuple #[.agg #[i4 0,.string ⟨#[]⟩,i4 0],i4 (0),i4 (3)]) (by simp[results,results95,go_sem,I,J,K]) rfl ⟨by rw[t.out];rfl,((((x10 w _).trans f).setCell (Nat.le_refl _) _).setCell (Nat.le_refl _) _).setCell (Nat.le_refl _) _⟩
    ·have t:Hid (tokL (s.data.toList.drop a)= .tok 1 (L.map loC) n):=by unfold Hid;rw[Z.out,V.out,g,if_neg (by decide),if_neg (by rw[←Q.out];exact y)]
     generalize L.map loC=F at*
     go_wp2_with (first|(go_at_call 164;refine(Y _).mono ?_;rintro j P ⟨rfl,f⟩;rw[g])|(go_at_call 166;refine(HO _).mono ?_;rintro j p ⟨rfl,h⟩;have b:=hid ((r.ext f).ext h);have z:=b.cell 0;have A:=b.cell 1;have B:=b.cell 2;obtain⟨C,D,G,-⟩:=frz b))
     have I:(p.setCell ⟨w.heap.size,0,none⟩ (i4 1)).cell? ⟨w.heap.size,0,none⟩=some (i4 1):=(b.set 0 _).cell 0
     have J:((p.setCell ⟨w.heap.size,0,none⟩ (i4 1)).setCell ⟨w.heap.size,1,none⟩ (.string ⟨F.toArray⟩)).cell? ⟨w.heap.size,1,none⟩=some (.string ⟨F.toArray⟩):=((b.set 0 _).set 1 _).cell 1
     have K:(((p.setCell ⟨w.heap.size,0,none⟩ (i4 1)).setCell ⟨w.heap.size,1,none⟩ (.string ⟨F.toArray⟩)).setCell ⟨w.heap.size,2,none⟩ (i4 a)).cell? ⟨w.heap.size,2,none⟩=some (i4 a):=(((b.set 0 _).set 1 _).set 2 _).cell 2
     exact bodyPost_ret (v:= .tuple #[.agg #[i4 1,.string ⟨F.toArray⟩,i4 a],i4 (k),i4 (0)]) (by simp[results,results95,go_sem,I,J,K]) rfl ⟨by rw[t.out,dZ a _ _ n _ u.out];rfl,(((((x10 w _).trans f).trans h).setCell (Nat.le_refl _) _).setCell (Nat.le_refl _) _).setCell (Nat.le_refl _) _⟩
   ·have t:Hid (tokL (s.data.toList.drop a)= .tok 2 (L.map upC) n):=by unfold Hid;rw[Z.out,V.out,g,if_pos rfl]
    generalize L.map upC=F at*
    go_wp2_with (first|(go_at_call 164;refine(Y _).mono ?_;rintro j P ⟨rfl,f⟩;rw[g])|(go_at_call 165;refine(HU _).mono ?_;rintro j p ⟨rfl,h⟩;have b:=hid ((r.ext f).ext h);have z:=b.cell 0;have A:=b.cell 1;have B:=b.cell 2;obtain⟨C,D,G,-⟩:=frz b))
    have I:(p.setCell ⟨w.heap.size,0,none⟩ (i4 2)).cell? ⟨w.heap.size,0,none⟩=some (i4 2):=(b.set 0 _).cell 0
    have J:((p.setCell ⟨w.heap.size,0,none⟩ (i4 2)).setCell ⟨w.heap.size,1,none⟩ (.string ⟨F.toArray⟩)).cell? ⟨w.heap.size,1,none⟩=some (.string ⟨F.toArray⟩):=((b.set 0 _).set 1 _).cell 1
    have K:(((p.setCell ⟨w.heap.size,0,none⟩ (i4 2)).setCell ⟨w.heap.size,1,none⟩ (.string ⟨F.toArray⟩)).setCell ⟨w.heap.size,2,none⟩ (i4 a)).cell? ⟨w.heap.size,2,none⟩=some (i4 a):=(((b.set 0 _).set 1 _).set 2 _).cell 2
    exact bodyPost_ret (v:= .tuple #[.agg #[i4 2,.string ⟨F.toArray⟩,i4 a],i4 (k),i4 (0)]) (by simp[results,results95,go_sem,I,J,K]) rfl ⟨by rw[t.out,dZ a _ _ n _ u.out];rfl,(((((x10 w _).trans f).trans h).setCell (Nat.le_refl _) _).setCell (Nat.le_refl _) _).setCell (Nat.le_refl _) _⟩
end Lx
namespace Lx
theorem rc:∀(a b:List UInt8),a.length=b.length→Op.bytesLess a b=false→Op.bytesLess b a=false→a=b
 | [],[],_,_,_=>rfl
 |c::r,d::q,hl,h1,h2=>by
  rw[Op.bytesLess,Bool.or_eq_false_iff,decide_eq_false_iff_not]at h1 h2
  have e:c=d:=by
   apply num_ext
   rw[UInt8.lt_iff_toNat_lt]at h1 h2
   omega
  subst e
  rw[beq_self_eq_true,Bool.true_and]at h1 h2
  rw[rc r q (by simpa using hl) h1.2 h2.2]
theorem ten_big (l:List UInt8) (g:l.length=10):(Op.bytesLess fc l=true→Op.bytesLess l fc=false∧(l==fc)=false)∧(Op.bytesLess fc l=false→Op.bytesLess l fc=true∨(l==fc)=true):=by
 constructor
 ·intro h
  have i:l≠fc:=by
   rintro rfl
   exact absurd h (by decide)
  refine⟨?_,beq_eq_false_iff_ne.2 i⟩
  cases j:Op.bytesLess l fc
  ·rfl
  ·exfalso
   have:∀a b:List UInt8,Op.bytesLess a b=true→Op.bytesLess b a=false:=by
    intro a
    induction a with
    |nil=>intro b f;cases b<;>rfl
    |cons c r ih=>
     intro b f
     cases b with
     |nil=>cases f
     |cons d q=>
      rw[Op.bytesLess,Bool.or_eq_true,decide_eq_true_eq,UInt8.lt_iff_toNat_lt,Bool.and_eq_true,beq_iff_eq]at f
      rw[Op.bytesLess,Bool.or_eq_false_iff,decide_eq_false_iff_not,UInt8.lt_iff_toNat_lt,Bool.and_eq_false_iff,beq_eq_false_iff_ne]
      rcases f with f|⟨rfl,f⟩
      ·exact⟨by omega,.inl (fun e=>by rw[e]at f;omega)⟩
      ·exact⟨by omega,.inr (ih q f)⟩
   rw[this l fc j]at h
   cases h
 ·intro h
  cases j:Op.bytesLess l fc
  ·right
   rw[beq_iff_eq]
   exact rc l fc (by rw[g];rfl) j h
  ·left;rfl
theorem next_text (s:BA) (a:Nat) (w:World) (hs:s.size≤20000) (B:a<s.size) (t:s[a].toNat=39):Cl 95 #[.string s,i4 a] w fun e w'=>e= .returned (RRes a (tokL (s.data.toList.drop a)))∧Ext w w':=by
 have A:isLetter s[a]=false:=by unfold isLetter;rw[t];rfl
 have hd:isDigit s[a]=false:=by unfold isDigit;rw[t];rfl
 have y:Hid (tokL (s.data.toList.drop a)=textL (s.data.toList.drop (a+1))):=by
  unfold Hid
  rw[bM s a B,tokL,if_neg (by rw[A];decide),if_neg (by rw[hd];decide),if_pos t]
 have u:=hid (fun W=>ew s[a] W)
 rw[A]at u
 have f:=hid (fun W=>gx s[a] W)
 rw[hd]at f
 have K:((s[a].toNat:Int)==39)=true:=by rw[t];rfl
 have g:=hid (fun W=>literal_any s a W hs B)
 have r:litS s a=li ((litF (s.data.toList.drop (a+1)) [] 1).map fun q=> (q.1,q.2+a)):=by
  unfold litS
  rw[Nat.add_comm a 1,su a]
 rw[r]at g
 have b:=hid (Blk.of_new w 78 [i4 0,.string ⟨#[]⟩,i4 0])
 have n:=b.cell 0
 have o:=b.cell 1
 have p:=b.cell 2
 obtain⟨D,E,G,-⟩:=frz b
 clear A hd t r
 cases j:litF (s.data.toList.drop (a+1)) [] 1 with
 |none=>
  have m:Hid (tokL (s.data.toList.drop a)= .bad 2):=by unfold Hid;rw[y.out];unfold textL;rw[j]
  rw[j]at g
  simp only[Option.map_none,li]at g
  clear j
  go_enter func95,ntmps95
  go_wp2_with (first|(go_at_call 162;refine(u _).mono ?_;rintro h k ⟨rfl,rfl⟩)|(go_at_call 163;refine(f _).mono ?_;rintro h k ⟨rfl,rfl⟩)|(go_at_call 167;refine(g _).mono ?_;rintro h k ⟨rfl,rfl⟩))
  exact bodyPost_ret (v:= .tuple #[.agg #[i4 0,.string ⟨#[]⟩,i4 0],i4 0,i4 (2)]) (by simp[results,results95,go_sem,n,o,p]) rfl ⟨by rw[m.out];rfl,x10 w _⟩
 |some q=>
  obtain⟨X,i⟩:=q
  rw[j]at g
  simp only[Option.map_some,li]at g
  have C:Hid ((⟨X.toArray⟩:BA).size=X.length):=rfl
  by_cases x:16<X.length
  ·have m:Hid (tokL (s.data.toList.drop a)= .bad 3):=by unfold Hid;rw[y.out];unfold textL;rw[j];simp only;rw[if_pos x]
   have z:16<(⟨X.toArray⟩:BA).size:=x
   clear j
   generalize (⟨X.toArray⟩:BA)=F at*
   go_enter func95,ntmps95
   go_wp2_with (first|(go_at_call 162;refine(u _).mono ?_;rintro h k ⟨rfl,rfl⟩)|(go_at_call 163;refine(f _).mono ?_;rintro h k ⟨rfl,rfl⟩)|(go_at_call 167;refine(g _).mono ?_;rintro h k ⟨rfl,rfl⟩))
   exact bodyPost_ret (v:= .tuple #[.agg #[i4 0,.string ⟨#[]⟩,i4 0],i4 0,i4 (3)]) (by simp[results,results95,go_sem,n,o,p]) rfl ⟨by rw[m.out];rfl,x10 w _⟩
  ·have m:Hid (RRes a (tokL (s.data.toList.drop a))= .tuple #[.agg #[i4 4,.string ⟨X.toArray⟩,i4 a],i4 ((i+a:Nat):Int),i4 0]):=by
    unfold Hid
    rw[y.out];unfold textL;rw[j];simp only;rw[if_neg x,Nat.add_comm i a];rfl
   have z:¬16<(⟨X.toArray⟩:BA).size:=x
   clear j
   generalize (⟨X.toArray⟩:BA)=F at*
   generalize i+a=M at*
   go_enter func95,ntmps95
   go_wp2_with (first|(go_at_call 162;refine(u _).mono ?_;rintro h k ⟨rfl,rfl⟩)|(go_at_call 163;refine(f _).mono ?_;rintro h k ⟨rfl,rfl⟩)|(go_at_call 167;refine(g _).mono ?_;rintro h k ⟨rfl,rfl⟩))
   have l:=Blk.of_new w 78 [i4 4,.string F,i4 a]
   have H:=l.cell 0
   have I:=l.cell 1
   have J:=l.cell 2
   exact bodyPost_ret (v:= .tuple #[.agg #[i4 4,.string F,i4 a],i4 (M),i4 (0)]) (by simp[results,results95,go_sem,H,I,J]) rfl ⟨by rw[m.out],x10 w _⟩
theorem ur (s:BA) (a:Nat) (w:World) (hs:s.size≤20000) (G:a<s.size) (z:isLetter s[a]=false) (hd:isDigit s[a]=false) (H:¬s[a].toNat=39):Cl 95 #[.string s,i4 a] w fun e w'=>e= .returned (RRes a (tokL (s.data.toList.drop a)))∧Ext w w':=by
 have F:Hid (tokL (s.data.toList.drop a)=symL (s.data.toList.drop a)):=by
  unfold Hid
  rw[bM s a G,tokL,if_neg (by rw[z];decide),if_neg (by rw[hd];decide),if_neg H]
 have o:=hid (fun W=>ew s[a] W)
 rw[z]at o
 have h:=hid (fun W=>gx s[a] W)
 rw[hd]at h
 have K:((s[a].toNat:Int)==39)=false:=by rw[beq_eq_false_iff_ne];omega
 have E:=hid (fun W=>wu s a W hs G)
 have A:symN (s.data.toList.drop a)≤(s.data.toList.drop a).length:=sym_le _
 rw[length_drop,bJ]at A
 have j:Hid (symL (s.data.toList.drop a)=if symN (s.data.toList.drop a)=0 then .bad 2 else .tok 5 ((s.data.toList.drop a).take (symN (s.data.toList.drop a))) (symN (s.data.toList.drop a))):=rfl
 generalize symN (s.data.toList.drop a)=n at*
 have i:=hid (Blk.of_new w 78 [i4 0,.string ⟨#[]⟩,i4 0])
 clear z hd H
 by_cases l:n=0
 ·have m:Hid (tokL (s.data.toList.drop a)= .bad 2):=by unfold Hid;rw[F.out,j.out,if_pos l]
  have I:((n:Int)==0)=true:=by rw[l];rfl
  clear l
  go_enter func95,ntmps95
  go_wp2_with (first|(go_at_call 162;refine(o _).mono ?_;rintro k g ⟨rfl,rfl⟩)|(go_at_call 163;refine(h _).mono ?_;rintro k g ⟨rfl,rfl⟩)|(go_at_call 168;refine(E _).mono ?_;rintro k g ⟨rfl,f⟩;have b:=hid (i.ext f);have p:=b.cell 0;have r:=b.cell 1;have t:=b.cell 2;obtain⟨u,x,y,-⟩:=frz b))
  have B:(g.setCell ⟨w.heap.size,0,none⟩ (i4 0)).cell? ⟨w.heap.size,0,none⟩=some (i4 0):=(b.set 0 _).cell 0
  have C:((g.setCell ⟨w.heap.size,0,none⟩ (i4 0)).setCell ⟨w.heap.size,1,none⟩ (.string ⟨#[]⟩)).cell? ⟨w.heap.size,1,none⟩=some (.string ⟨#[]⟩):=((b.set 0 _).set 1 _).cell 1
  have D:(((g.setCell ⟨w.heap.size,0,none⟩ (i4 0)).setCell ⟨w.heap.size,1,none⟩ (.string ⟨#[]⟩)).setCell ⟨w.heap.size,2,none⟩ (i4 0)).cell? ⟨w.heap.size,2,none⟩=some (i4 0):=(((b.set 0 _).set 1 _).set 2 _).cell 2
  exact bodyPost_ret (v:= .tuple #[.agg #[i4 0,.string ⟨#[]⟩,i4 0],i4 (0),i4 (2)]) (by simp[results,results95,go_sem,B,C,D]) rfl ⟨by rw[m.out];rfl,((((x10 w _).trans f).setCell (Nat.le_refl _) _).setCell (Nat.le_refl _) _).setCell (Nat.le_refl _) _⟩
 ·have I:((n:Int)==0)=false:=by rw[beq_eq_false_iff_ne];omega
  have m:Hid (RRes a (tokL (s.data.toList.drop a))= .tuple #[.agg #[i4 5,.string (s.extract a (a+n)),i4 a],i4 ((a:Int)+(n:Int)),i4 0]):=by
   unfold Hid
   rw[F.out,j.out,if_neg l]
   have:s.extract a (a+n)=⟨((s.data.toList.drop a).take n).toArray⟩:=ma (by rw[gA,Nat.add_sub_cancel_left])
   rw[this]
   rfl
  have J:a+n≤s.size:=by omega
  go_enter func95,ntmps95
  go_wp2_with (first|(go_at_call 162;refine(o _).mono ?_;rintro k g ⟨rfl,rfl⟩)|(go_at_call 163;refine(h _).mono ?_;rintro k g ⟨rfl,rfl⟩)|(go_at_call 168;refine(E _).mono ?_;rintro k g ⟨rfl,f⟩;have b:=hid (i.ext f);have p:=b.cell 0;have r:=b.cell 1;have t:=b.cell 2;obtain⟨u,x,y,-⟩:=frz b))
  have B:(g.setCell ⟨w.heap.size,0,none⟩ (i4 5)).cell? ⟨w.heap.size,0,none⟩=some (i4 5):=(b.set 0 _).cell 0
  have C:((g.setCell ⟨w.heap.size,0,none⟩ (i4 5)).setCell ⟨w.heap.size,1,none⟩ (.string (s.extract a (a+n)))).cell? ⟨w.heap.size,1,none⟩=some (.string (s.extract a (a+n))):=((b.set 0 _).set 1 _).cell 1
  have D:(((g.setCell ⟨w.heap.size,0,none⟩ (i4 5)).setCell ⟨w.heap.size,1,none⟩ (.string (s.extract a (a+n)))).setCell ⟨w.heap.size,2,none⟩ (i4 a)).cell? ⟨w.heap.size,2,none⟩=some (i4 a):=(((b.set 0 _).set 1 _).set 2 _).cell 2
  exact bodyPost_ret (v:= .tuple #[.agg #[i4 5,.string (s.extract a (a+n)),i4 a],i4 ((a:Int)+(n:Int)),i4 (0)]) (by simp[results,results95,go_sem,B,C,D]) rfl ⟨by rw[m.out],((((x10 w _).trans f).setCell (Nat.le_refl _) _).setCell (Nat.le_refl _) _).setCell (Nat.le_refl _) _⟩
end Lx
namespace Lx
theorem wy (s:BA) (a:Nat) (w:World) (hs:s.size≤20000) (ha:a<s.size) (hl:isLetter s[a]=false) (hd:isDigit s[a]=true):Cl 95 #[.string s,i4 a] w fun e w'=>e= .returned (RRes a (tokL (s.data.toList.drop a)))∧Ext w w':=by
 have HT:Hid (tokL (s.data.toList.drop a)=numL (s.data.toList.drop a)):=by
  unfold Hid
  rw[bM s a ha,tokL,if_neg (by rw[hl];decide),if_pos hd]
 have HL:=hid (fun W=>ew s[a] W)
 rw[hl]at HL
 have a0:=hid (fun W=>gx s[a] W)
 rw[hd]at a0
 have ax:spanN isDigit (s.data.toList.drop a)≤(s.data.toList.drop a).length:=span_le isDigit _
 rw[length_drop,bJ]at ax
 have a3:1≤spanN isDigit (s.data.toList.drop a):=by rw[bM s a ha];exact span_pos isDigit _ _ hd
 have a1:=hid (span_all isDigit (s.data.toList.drop a))
 have a2:=hid (qZ isDigit (s.data.toList.drop a))
 have HW:Hid (numL (s.data.toList.drop a)=if (1<spanN isDigit (s.data.toList.drop a)∧(s.data.toList.drop a).head? =some 48)∨headW ((s.data.toList.drop a).drop (spanN isDigit (s.data.toList.drop a)))=true then .bad 2
   else if 2147483648<digVal ((s.data.toList.drop a).take (spanN isDigit (s.data.toList.drop a)))then .bad 3
   else .tok 3 ((s.data.toList.drop a).take (spanN isDigit (s.data.toList.drop a))) (spanN isDigit (s.data.toList.drop a))):=rfl
 have HH:Hid ((s.data.toList.drop a).head? =some s[a]):=by unfold Hid;rw[bM s a ha];rfl
 obtain⟨n,hn⟩:∃n,spanN isDigit (s.data.toList.drop a)=n:=⟨_,rfl⟩
 have a4:=hid hn
 rw[hn]at HW ax a1 a2 a3
 clear hn
 obtain⟨E,hE⟩:∃E,a+n=E:=⟨_,rfl⟩
 have C:=hid hE
 have a6:a+1≤E:=by omega
 have a7:E≤s.size:=by omega
 have aS:E-a=n:=by omega
 have L:=hid aS
 rw[drop_drop,hE]at HW a2
 have ac:=hid (uk s E)
 have O:Hid ((s.extract a E).data.toList=(s.data.toList.drop a).take n):=by unfold Hid;rw[gA,aS]
 have y:Hid (((s.data.toList.drop a).take n).length=E-a):=by unfold Hid;rw[length_take,length_drop,bJ];omega
 have ad:=hid (dv_big _ a1)
 have K:=hid (ten_big ((s.data.toList.drop a).take n))
 have Z:=hid (Blk.of_new w 78 [i4 0,.string ⟨#[]⟩,i4 0])
 have z:=Z.cell 0
 have A:=Z.cell 1
 have B:=Z.cell 2
 obtain⟨a9,ba,bd,-⟩:=frz Z
 clear ax hE aS hl hd
 go_enter func95,ntmps95
 go_wp2_with (first|(go_at_call 162;refine(HL _).mono ?_;rintro u x ⟨rfl,rfl⟩)|(go_at_call 163;refine(a0 _).mono ?_;rintro u x ⟨rfl,rfl⟩))
 go_loop [7] (fun i=> ∃k:Nat,a≤k∧k≤s.size∧i= i4 k∧E=k+spanN isDigit (s.data.toList.drop k)) (fun i=>s.size- (intOf i).toNat)
 case atStart=>exact⟨a,Nat.le_refl _,Nat.le_of_lt ha,rfl,by rw[a4.out];exact C.symm⟩
 case round=>
  obtain⟨k,a8,hk,rfl,hv⟩:=hrel
  have an:=hid hv
  clear hv
  by_cases U:k<s.size
  ·have HD:=hid (bM s k U)
   have p:=hid (fun W=>ew s[k] W)
   have o:=hid (fun W=>gx s[k] W)
   have D:=hid (ph s[k])
   cases t:isDigit s[k]
   ·rw[t]at o D
    have HV:Hid (E=k):=by
     unfold Hid
     rw[an.out,HD.out,spanN,if_neg (by rw[t];decide)]
     omega
    clear t
    obtain rfl:k=E:=HV.symm
    by_cases J:1<k-a∧s[a].toNat=48
    ·have m:Hid (tokL (s.data.toList.drop a)= .bad 2):=by unfold Hid;rw[HT.out,HW.out,if_pos (.inl ⟨by rw[←L.out];exact J.1,by rw[HH.out,num_ext s[a] 48 J.2]⟩)]
     have Q:((s[a].toNat:Int)==48)=true:=by rw[J.2];rfl
     obtain⟨a5,_⟩:=J
     go_wp2_with (first|(go_at_call 163;refine(o _).mono ?_;rintro u x ⟨rfl,rfl⟩)|(go_at_call 162;refine(p _).mono ?_;rintro u x ⟨rfl,rfl⟩))
     exact bodyPost_ret (v:= .tuple #[.agg #[i4 0,.string ⟨#[]⟩,i4 0],i4 0,i4 (2)]) (by simp[results,results95,go_sem,z,A,B]) rfl ⟨by rw[m.out];rfl,x10 w _⟩
    ·have g:k-a≤1∨(1<k-a∧((s[a].toNat:Int)==48)=false):=by
      rcases Nat.lt_or_ge 1 (k-a)with h|h
      ·right;exact⟨h,by rw[beq_eq_false_iff_ne];intro e;exact J ⟨h,by omega⟩⟩
      ·left;omega
     have HZ:Hid (¬(1<n∧(s.data.toList.drop a).head? =some 48)):=by
      unfold Hid
      rw[HH.out,←L.out]
      rintro⟨j,t⟩
      injection t with t
      exact J ⟨j,by rw[t];rfl⟩
     clear J
     cases j:isLetter s[k]
     ·rw[j]at p D
      by_cases h3:s[k].toNat=95
      ·have b3:((s[k].toNat:Int)==95)=true:=by rw[h3];rfl
       have m:Hid (tokL (s.data.toList.drop a)= .bad 2):=by
        unfold Hid
        rw[HT.out,HW.out,if_pos (.inr (by rw[ac.out,dif_pos U,D.out,h3];rfl))]
       clear j h3
       rcases g with j|⟨j,Q⟩
       all_goals
        go_wp2_with (first|(go_at_call 163;refine(o _).mono ?_;rintro u x ⟨rfl,rfl⟩)|(go_at_call 162;refine(p _).mono ?_;rintro u x ⟨rfl,rfl⟩))
        exact bodyPost_ret (v:= .tuple #[.agg #[i4 0,.string ⟨#[]⟩,i4 0],i4 0,i4 (2)]) (by simp[results,results95,go_sem,z,A,B]) rfl ⟨by rw[m.out];rfl,x10 w _⟩
      ·have b3:((s[k].toNat:Int)==95)=false:=by rw[beq_eq_false_iff_ne];omega
       have HF:Hid (headW (s.data.toList.drop k)=false):=by
        unfold Hid
        rw[ac.out,dif_pos U,D.out]
        simpa using h3
       clear j h3
       have HG:Hid (tokL (s.data.toList.drop a)=if 2147483648<digVal ((s.data.toList.drop a).take n)then .bad 3 else .tok 3 ((s.data.toList.drop a).take n) n):=by
        unfold Hid
        rw[HT.out,HW.out,if_neg]
        rintro(h|h)
        ·exact HZ h
        ·rw[HF.out]at h;cases h
       have b:=ad (by
        intro j t
        refine HZ ⟨by rw[y.out,L.out]at j;exact j,?_⟩
        rw[HH.out]
        rw[bM s a ha]at t
        have:n=(n-1)+1:=by omega
        rw[this,take_succ_cons,head?_cons]at t
        exact t)
       rw[y.out]at b
       have F:Hid (s.extract a k=⟨((s.data.toList.drop a).take n).toArray⟩):=ma (by rw[O.out])
       by_cases G:10<k-a
       ·have m:Hid (tokL (s.data.toList.drop a)= .bad 3):=by unfold Hid;rw[HG.out,if_pos (b.2 (.inl G))]
        clear b
        rcases g with j|⟨j,Q⟩
        ·omega
        ·go_wp2_with (first|(go_at_call 163;refine(o _).mono ?_;rintro u x ⟨rfl,rfl⟩)|(go_at_call 162;refine(p _).mono ?_;rintro u x ⟨rfl,rfl⟩))
         exact bodyPost_ret (v:= .tuple #[.agg #[i4 0,.string ⟨#[]⟩,i4 0],i4 0,i4 (3)]) (by simp[results,results95,go_sem,z,A,B]) rfl ⟨by rw[m.out];rfl,x10 w _⟩
       ·by_cases l:k-a=10
        ·cases P:Op.bytesLess fc ((s.data.toList.drop a).take n)
         ·have m:Hid (tokL (s.data.toList.drop a)= .tok 3 ((s.data.toList.drop a).take n) n):=by
           unfold Hid
           rw[HG.out,if_neg]
           intro h
           rcases b.1 h with h|⟨_,h⟩
           ·exact G h
           ·rw[P]at h;cases h
          have ht:=(K (by rw[y.out];exact l)).2 P
          have r:(s.extract a k).toList=(s.data.toList.drop a).take n:=by rw[ByteArray.toList_eq,O.out]
          rw[←r]at ht
          clear b P r
          have b4:(!(Op.bytesLess (s.extract a k).toList [50,49,52,55,52,56,51,54,52,56]||(s.extract a k).toList== [50,49,52,55,52,56,51,54,52,56]))=false:=by
           rcases ht with h|h
           ·have R:Op.bytesLess (s.extract a k).toList [50,49,52,55,52,56,51,54,52,56]=true:=h
            rw[R];rfl
           ·have R:((s.extract a k).toList== [50,49,52,55,52,56,51,54,52,56])=true:=h
            rw[R,Bool.or_true];rfl
          have b5:Op.bytesLess (s.extract a k).toList [50,49,52,55,52,56,51,54,52,56]=false→((s.extract a k).toList== [50,49,52,55,52,56,51,54,52,56])=true:=by
           intro R
           rcases ht with h|h
           ·rw[show fc= [50,49,52,55,52,56,51,54,52,56] from rfl,R]at h;cases h
           ·exact h
          clear ht
          have ag:=hid b5
          clear b5
          rcases g with j|⟨j,Q⟩
          ·omega
          ·cases b6:Op.bytesLess (s.extract a k).toList [50,49,52,55,52,56,51,54,52,56]
           ·have b7:=ag b6
            clear b4
            go_wp2_with (first|(go_at_call 163;refine(o _).mono ?_;rintro u x ⟨rfl,rfl⟩)|(go_at_call 162;refine(p _).mono ?_;rintro u x ⟨rfl,rfl⟩))
            have f:=Blk.of_new w 78 [i4 3,.string (s.extract a k),i4 a]
            have V:=f.cell 0
            have X:=f.cell 1
            have Y:=f.cell 2
            exact bodyPost_ret (v:= .tuple #[.agg #[i4 3,.string (s.extract a k),i4 a],i4 (k),i4 (0)]) (by simp[results,results95,go_sem,V,X,Y]) rfl ⟨by rw[m.out,dZ a _ _ n _ C.out,F.out];rfl,x10 w _⟩
           ·clear b4
            go_wp2_with (first|(go_at_call 163;refine(o _).mono ?_;rintro u x ⟨rfl,rfl⟩)|(go_at_call 162;refine(p _).mono ?_;rintro u x ⟨rfl,rfl⟩))
            have f:=Blk.of_new w 78 [i4 3,.string (s.extract a k),i4 a]
            have V:=f.cell 0
            have X:=f.cell 1
            have Y:=f.cell 2
            exact bodyPost_ret (v:= .tuple #[.agg #[i4 3,.string (s.extract a k),i4 a],i4 (k),i4 (0)]) (by simp[results,results95,go_sem,V,X,Y]) rfl ⟨by rw[m.out,dZ a _ _ n _ C.out,F.out];rfl,x10 w _⟩
         ·have m:Hid (tokL (s.data.toList.drop a)= .bad 3):=by unfold Hid;rw[HG.out,if_pos (b.2 (.inr ⟨l,P⟩))]
          obtain⟨H,I⟩:=(K (by rw[y.out];exact l)).1 P
          have r:(s.extract a k).toList=(s.data.toList.drop a).take n:=by rw[ByteArray.toList_eq,O.out]
          rw[←r]at H I
          have b6:Op.bytesLess (s.extract a k).toList [50,49,52,55,52,56,51,54,52,56]=false:=H
          have b7:((s.extract a k).toList== [50,49,52,55,52,56,51,54,52,56])=false:=I
          clear b P r H I
          rcases g with j|⟨j,Q⟩
          ·omega
          ·go_wp2_with (first|(go_at_call 163;refine(o _).mono ?_;rintro u x ⟨rfl,rfl⟩)|(go_at_call 162;refine(p _).mono ?_;rintro u x ⟨rfl,rfl⟩))
           exact bodyPost_ret (v:= .tuple #[.agg #[i4 0,.string ⟨#[]⟩,i4 0],i4 0,i4 (3)]) (by simp[results,results95,go_sem,z,A,B]) rfl ⟨by rw[m.out];rfl,x10 w _⟩
        ·have m:Hid (tokL (s.data.toList.drop a)= .tok 3 ((s.data.toList.drop a).take n) n):=by
          unfold Hid
          rw[HG.out,if_neg]
          intro h
          rcases b.1 h with h|⟨h,_⟩
          ·exact G h
          ·exact l h
         clear b
         rcases g with j|⟨j,Q⟩
         all_goals
          go_wp2_with (first|(go_at_call 163;refine(o _).mono ?_;rintro u x ⟨rfl,rfl⟩)|(go_at_call 162;refine(p _).mono ?_;rintro u x ⟨rfl,rfl⟩))
          have f:=Blk.of_new w 78 [i4 3,.string (s.extract a k),i4 a]
          have V:=f.cell 0
          have X:=f.cell 1
          have Y:=f.cell 2
          exact bodyPost_ret (v:= .tuple #[.agg #[i4 3,.string (s.extract a k),i4 a],i4 (k),i4 (0)]) (by simp[results,results95,go_sem,V,X,Y]) rfl ⟨by rw[m.out,dZ a _ _ n _ C.out,F.out];rfl,x10 w _⟩
     ·rw[j]at p D
      have m:Hid (tokL (s.data.toList.drop a)= .bad 2):=by
       unfold Hid
       rw[HT.out,HW.out,if_pos (.inr (by rw[ac.out,dif_pos U,D.out];rfl))]
      clear j
      rcases g with j|⟨j,Q⟩
      all_goals
       go_wp2_with (first|(go_at_call 163;refine(o _).mono ?_;rintro u x ⟨rfl,rfl⟩)|(go_at_call 162;refine(p _).mono ?_;rintro u x ⟨rfl,rfl⟩))
       exact bodyPost_ret (v:= .tuple #[.agg #[i4 0,.string ⟨#[]⟩,i4 0],i4 0,i4 (2)]) (by simp[results,results95,go_sem,z,A,B]) rfl ⟨by rw[m.out];rfl,x10 w _⟩
   ·rw[t]at o D
    have HV:Hid (E=k+1+spanN isDigit (s.data.toList.drop (k+1))):=by
     unfold Hid
     rw[an.out,HD.out,spanN,if_pos t]
     omega
    clear t
    go_wp2_with (first|(go_at_call 163;refine(o _).mono ?_;rintro u x ⟨rfl,rfl⟩)|(go_at_call 162;refine(p _).mono ?_;rintro u x ⟨rfl,rfl⟩))
    go_round
    case rel=>exact⟨k+1,by omega,by omega,by go_num,HV⟩
    case measure=>simp[intOf];omega
  ·have HV:Hid (E=k):=by
    unfold Hid
    rw[an.out,drop_of_length_le (by rw[bJ];omega),spanN]
    omega
   obtain rfl:k=E:=HV.symm
   by_cases J:1<k-a∧s[a].toNat=48
   ·have m:Hid (tokL (s.data.toList.drop a)= .bad 2):=by unfold Hid;rw[HT.out,HW.out,if_pos (.inl ⟨by rw[←L.out];exact J.1,by rw[HH.out,num_ext s[a] 48 J.2]⟩)]
    have Q:((s[a].toNat:Int)==48)=true:=by rw[J.2];rfl
    obtain⟨a5,_⟩:=J
    go_wp2_with fail
    exact bodyPost_ret (v:= .tuple #[.agg #[i4 0,.string ⟨#[]⟩,i4 0],i4 0,i4 (2)]) (by simp[results,results95,go_sem,z,A,B]) rfl ⟨by rw[m.out];rfl,x10 w _⟩
   ·have g:k-a≤1∨(1<k-a∧((s[a].toNat:Int)==48)=false):=by
     rcases Nat.lt_or_ge 1 (k-a)with h|h
     ·right;exact⟨h,by rw[beq_eq_false_iff_ne];intro e;exact J ⟨h,by omega⟩⟩
     ·left;omega
    have HZ:Hid (¬(1<n∧(s.data.toList.drop a).head? =some 48)):=by
     unfold Hid
     rw[HH.out,←L.out]
     rintro⟨j,t⟩
     injection t with t
     exact J ⟨j,by rw[t];rfl⟩
    clear J
    have HF:Hid (headW (s.data.toList.drop k)=false):=by
     unfold Hid
     rw[ac.out,dif_neg U]
    have HG:Hid (tokL (s.data.toList.drop a)=if 2147483648<digVal ((s.data.toList.drop a).take n)then .bad 3 else .tok 3 ((s.data.toList.drop a).take n) n):=by
     unfold Hid
     rw[HT.out,HW.out,if_neg]
     rintro(h|h)
     ·exact HZ h
     ·rw[HF.out]at h;cases h
    have b:=ad (by
     intro j t
     refine HZ ⟨by rw[y.out,L.out]at j;exact j,?_⟩
     rw[HH.out]
     rw[bM s a ha]at t
     have:n=(n-1)+1:=by omega
     rw[this,take_succ_cons,head?_cons]at t
     exact t)
    rw[y.out]at b
    have F:Hid (s.extract a k=⟨((s.data.toList.drop a).take n).toArray⟩):=ma (by rw[O.out])
    by_cases G:10<k-a
    ·have m:Hid (tokL (s.data.toList.drop a)= .bad 3):=by unfold Hid;rw[HG.out,if_pos (b.2 (.inl G))]
     clear b
     rcases g with j|⟨j,Q⟩
     ·omega
     ·go_wp2_with fail
      exact bodyPost_ret (v:= .tuple #[.agg #[i4 0,.string ⟨#[]⟩,i4 0],i4 0,i4 (3)]) (by simp[results,results95,go_sem,z,A,B]) rfl ⟨by rw[m.out];rfl,x10 w _⟩
    ·by_cases l:k-a=10
     ·cases P:Op.bytesLess fc ((s.data.toList.drop a).take n)
      ·have m:Hid (tokL (s.data.toList.drop a)= .tok 3 ((s.data.toList.drop a).take n) n):=by
        unfold Hid
        rw[HG.out,if_neg]
        intro h
        rcases b.1 h with h|⟨_,h⟩
        ·exact G h
        ·rw[P]at h;cases h
       have ht:=(K (by rw[y.out];exact l)).2 P
       have r:(s.extract a k).toList=(s.data.toList.drop a).take n:=by rw[ByteArray.toList_eq,O.out]
       rw[←r]at ht
       clear b P r
       have b4:(!(Op.bytesLess (s.extract a k).toList [50,49,52,55,52,56,51,54,52,56]||(s.extract a k).toList== [50,49,52,55,52,56,51,54,52,56]))=false:=by
        rcases ht with h|h
        ·have R:Op.bytesLess (s.extract a k).toList [50,49,52,55,52,56,51,54,52,56]=true:=h
         rw[R];rfl
        ·have R:((s.extract a k).toList== [50,49,52,55,52,56,51,54,52,56])=true:=h
         rw[R,Bool.or_true];rfl
       have b5:Op.bytesLess (s.extract a k).toList [50,49,52,55,52,56,51,54,52,56]=false→((s.extract a k).toList== [50,49,52,55,52,56,51,54,52,56])=true:=by
        intro R
        rcases ht with h|h
        ·rw[show fc= [50,49,52,55,52,56,51,54,52,56] from rfl,R]at h;cases h
        ·exact h
       clear ht
       have ag:=hid b5
       clear b5
       rcases g with j|⟨j,Q⟩
       ·omega
       ·cases b6:Op.bytesLess (s.extract a k).toList [50,49,52,55,52,56,51,54,52,56]
        ·have b7:=ag b6
         clear b4
         go_wp2_with fail
         have f:=Blk.of_new w 78 [i4 3,.string (s.extract a k),i4 a]
         have V:=f.cell 0
         have X:=f.cell 1
         have Y:=f.cell 2
         exact bodyPost_ret (v:= .tuple #[.agg #[i4 3,.string (s.extract a k),i4 a],i4 (k),i4 (0)]) (by simp[results,results95,go_sem,V,X,Y]) rfl ⟨by rw[m.out,dZ a _ _ n _ C.out,F.out];rfl,x10 w _⟩
        ·clear b4
         go_wp2_with fail
         have f:=Blk.of_new w 78 [i4 3,.string (s.extract a k),i4 a]
         have V:=f.cell 0
         have X:=f.cell 1
         have Y:=f.cell 2
         exact bodyPost_ret (v:= .tuple #[.agg #[i4 3,.string (s.extract a k),i4 a],i4 (k),i4 (0)]) (by simp[results,results95,go_sem,V,X,Y]) rfl ⟨by rw[m.out,dZ a _ _ n _ C.out,F.out];rfl,x10 w _⟩
      ·have m:Hid (tokL (s.data.toList.drop a)= .bad 3):=by unfold Hid;rw[HG.out,if_pos (b.2 (.inr ⟨l,P⟩))]
       obtain⟨H,I⟩:=(K (by rw[y.out];exact l)).1 P
       have r:(s.extract a k).toList=(s.data.toList.drop a).take n:=by rw[ByteArray.toList_eq,O.out]
       rw[←r]at H I
       have b6:Op.bytesLess (s.extract a k).toList [50,49,52,55,52,56,51,54,52,56]=false:=H
       have b7:((s.extract a k).toList== [50,49,52,55,52,56,51,54,52,56])=false:=I
       clear b P r H I
       rcases g with j|⟨j,Q⟩
       ·omega
       ·go_wp2_with fail
        exact bodyPost_ret (v:= .tuple #[.agg #[i4 0,.string ⟨#[]⟩,i4 0],i4 0,i4 (3)]) (by simp[results,results95,go_sem,z,A,B]) rfl ⟨by rw[m.out];rfl,x10 w _⟩
     ·have m:Hid (tokL (s.data.toList.drop a)= .tok 3 ((s.data.toList.drop a).take n) n):=by
       unfold Hid
       rw[HG.out,if_neg]
       intro h
       rcases b.1 h with h|⟨h,_⟩
       ·exact G h
       ·exact l h
      clear b
      rcases g with j|⟨j,Q⟩
      all_goals
       go_wp2_with fail
       have f:=Blk.of_new w 78 [i4 3,.string (s.extract a k),i4 a]
       have V:=f.cell 0
       have X:=f.cell 1
       have Y:=f.cell 2
       exact bodyPost_ret (v:= .tuple #[.agg #[i4 3,.string (s.extract a k),i4 a],i4 (k),i4 (0)]) (by simp[results,results95,go_sem,V,X,Y]) rfl ⟨by rw[m.out,dZ a _ _ n _ C.out,F.out];rfl,x10 w _⟩
theorem next_any (s:BA) (a:Nat) (w:World) (hs:s.size≤20000) (b:a<s.size):Cl 95 #[.string s,i4 a] w fun e w'=>e= .returned (RRes a (tokL (s.data.toList.drop a)))∧Ext w w':=by
 cases f:isLetter s[a]
 ·cases hd:isDigit s[a]
  ·by_cases g:s[a].toNat=39
   ·exact next_text s a w hs b g
   ·exact ur s a w hs b f hd g
  ·exact wy s a w hs b f hd
 ·exact uq s a w hs b f
end Lx
namespace Lx
theorem info_c43:(prog.info? 78).map (fun i=> (i.zero,i.size,i.bytes))=some (some (.agg #[i4 0,.string ⟨#[]⟩,i4 0]),3,32):=by kernel_rfl
theorem rtokens_cap (s:BA) (w:World) (hs:s.size≤20000):Cl 51 #[.string s] w fun e w'=> ∃v,e= .returned v∧ic (tokAll s) v w'∧Ext w w':=by
 by_cases z:16384<s.size
 ·have V:Hid (tokAll s= .bad 16384 3):=if_pos z
  go_enter func51,ntmps51
  go_wp2_with fail
  go_ret3
  exact⟨_,rfl,by rw[V.out];exact ic.bad _ _ _,Ext.refl _⟩
 have V:Hid (tokAll s=T s.data.toList 0):=if_neg z
 obtain⟨i0,hi,Q,R,U⟩:=info_parts info_c43
 have a2:skipN false s.data.toList≤s.size:=skip_le false s.data.toList
 have J:=hid (fun W a (ha:a≤s.size)=>rskip_any s a W hs ha)
 have K:Hid (∀a,a≤s.size→a+skipN false (s.data.toList.drop a)≤s.size):=fun a ha=>by
  have:=skip_le false (s.data.toList.drop a)
  rw[length_drop,bJ]at this
  omega
 go_enter func51,ntmps51
 go_wp2_with (go_at_call 94;refine(J _ 0 (Nat.zero_le _)).mono ?_;rintro e' D ⟨rfl,a3⟩;subst D)
 go_loopw [5,6] (fun v i wr=> ∃(p:Nat) (f:List Tk),p≤s.size∧i= i4 ((p+skipN false (s.data.toList.drop p):Nat):Int)∧wr.ownsRow w.heap.size 78 3 v f.length (tkc f)∧f.length≤p∧Ext w wr∧T s.data.toList 0=(T (s.data.toList.drop p) p).pre f) (fun _ i _=>s.size- (intOf i).toNat)
 case atStart=>exact⟨0,[],Nat.zero_le _,by simp,World.ownsRow_nil _ _ _ _,Nat.zero_le _,Ext.refl w,by rw[drop_zero];cases T s.data.toList 0<;>rfl⟩
 case round=>
  obtain⟨p,f,hp,rfl,m,a1,r,hv⟩:=hrel
  have Z:=hid hv
  clear hv
  obtain⟨k,b⟩:∃k,p+skipN false (s.data.toList.drop p)=k:=⟨_,rfl⟩
  have a0:k≤s.size:=b ▸ K p hp
  rw[b]
  by_cases t:k<s.size
  ·have hd:(s.data.toList.drop p).drop (skipN false (s.data.toList.drop p))=s[k]::s.data.toList.drop (k+1):=by rw[drop_drop,b,bM s k t]
   have G:∀W,Cl 95 #[.string s,i4 k] W fun e w'=>e= .returned (RRes k (tokL (s[k]::s.data.toList.drop (k+1))))∧Ext W w':=by
    intro W
    have:=next_any s k W hs t
    rw[bM s k t]at this
    exact this
   cases C:tokL (s[k]::s.data.toList.drop (k+1))with
   |bad e=>
    have y:T s.data.toList 0= .bad k e:=by rw[Z.out,T_bad _ p _ _ e hd C,b];rfl
    have hb:=tok_bad _ _ e C
    have b1:((e:Int) !=0)=true:=by rw[bne_iff_ne];omega
    rw[C]at G
    have H:=hid G
    have I:=hid y
    clear G y hd hb C b
    simp only[RRes]at H
    go_wp2_with (go_at_call 95;refine(H _).mono ?_;rintro e' D ⟨rfl,o⟩)
    go_ret3
    exact⟨_,rfl,by rw[V.out,I.out];exact ic.bad _ _ _,(r.trans o).alloc _⟩
   |tok kd x n=>
    have y:T s.data.toList 0=(T (s.data.toList.drop (k+n)) (k+n)).pre (f++ [⟨kd,x,k⟩]):=by
     rw[Z.out,T_tok _ p _ _ kd x n hd C,pre_pre,b,←bM s k t,drop_drop]
    have F:=tok_bound _ _ kd x n C
    have L:k+n≤s.size:=by
     have:=F.2
     rw[length_cons,length_drop,bJ]at this
     omega
    have ax:=F.1
    rw[C]at G
    have H:=hid G
    have I:=hid y
    have X:=hid b
    have ag:p≤k:=by omega
    clear G y hd F C b
    simp only[RRes]at H
    have E:∀D:World,Ext wr D→w.heap.size≤D.heap.size+1+1:=fun D h=>by have:=h.size;have:=r.size;omega
    go_wp2_with (first
     |(go_at_call 95;refine(H _).mono ?_;rintro e' D ⟨rfl,o⟩;have Y:=hid (ownN_ext m ((o.alloc (.cells #[i4 kd,.string ⟨x.toArray⟩,i4 k] 78)).alloc (.cells #[i4 kd,.string ⟨x.toArray⟩,i4 k] 78)));have aS:=E D o;clear E)
     |(at_builtin;refine wpList_append_own _ rfl _ _ 75 rfl w.heap.size 78 i0 (.agg #[i4 0,.string ⟨#[]⟩,i4 0]) 3 32 underlying75 hi Q R U rfl (by decide) _ _ _ rfl Y.out ⟨_,0,none⟩ 1 1 (Tk.cells ⟨kd,x,k⟩) rfl rfl (news_at _ _ _ _ (by simp)) (by intro u P;simp[Tk.cells]at P;rcases P with rfl|rfl|rfl<;>rfl) (by unfold maxLen;omega) (by omega) (by simp;omega) ?_;intro v' w2 l j _)
     |(go_at_call 94;refine(J _ (k+n) L).mono ?_;rintro e' w3 ⟨rfl,a4⟩;subst w3))
    go_roundw
    case rel=>
     refine⟨k+n,f++ [⟨kd,x,k⟩],L,rfl,by rw[mb,length_append];exact l,by rw[length_append];simp only[length_cons,length_nil];omega,Ext.grown ((r.trans o).alloc _|>.alloc _) j (fun g hg=>dH m hg),I.out⟩
    case measure=>simp[intOf];omega
  ·have hd:(s.data.toList.drop p).drop (skipN false (s.data.toList.drop p))= []:=by rw[drop_drop,b];exact drop_of_length_le (by rw[bJ];omega)
   have y:T s.data.toList 0= .ok (f++ [⟨0,[],s.size⟩]):=by rw[Z.out,T_end _ p hd,b,show k=s.size by omega];rfl
   have I:=hid y
   have X:=hid b
   have ag:p≤k:=by omega
   have E:w.heap.size≤wr.heap.size+1:=by have:=r.size;omega
   have Y:=hid (ownN_ext m (x10 wr (.cells #[i4 0,.string ⟨#[]⟩,i4 s.size] 78)))
   clear hd y b
   go_wp2_with (at_builtin;refine wpList_append_own _ rfl _ _ 75 rfl w.heap.size 78 i0 (.agg #[i4 0,.string ⟨#[]⟩,i4 0]) 3 32 underlying75 hi Q R U rfl (by decide) _ _ _ rfl Y.out ⟨_,0,none⟩ 1 1 (Tk.cells ⟨0,[],s.size⟩) rfl rfl (news_at _ _ _ _ (by simp)) (by intro u P;simp[Tk.cells]at P;rcases P with rfl|rfl|rfl<;>rfl) (by unfold maxLen;omega) (by omega) (by simp;omega) ?_;intro v' w2 l j _)
   have an:Ext w w2:=Ext.grown (r.alloc _) j (fun g hg=>dH m hg)
   have ad:w2.ownsRow w.heap.size 78 3 v' (f++ [(⟨0,[],s.size⟩:Tk)]).length (tkc (f++ [⟨0,[],s.size⟩])):=by rw[mb,length_append];exact l
   obtain⟨A,c,rfl,ac,B,O⟩:=uo ad
   go_ret3
   refine⟨_,rfl,?_,an⟩
   rw[V.out,I.out]
   exact⟨A,c,by rw[B];rfl,ac,by show(f++ [(⟨0,[],s.size⟩:Tk)]).length≤c;rw[B];exact O⟩
end Lx
end Go.Proofs.YtjigcpfjhfoheaaGreatDoor
