/- Walks over the lexer: the classes of bytes; Walks over the lexer's reference: Text; Walks over the lexer: span; Plain laws: a pure lexer; Plain laws over the pure lexer: offsets shifted, two strings joined, the case of letters; Pl. -/
import Derived.Test.YtjigcpfjhfoheaaGreatDoorEaa
import Derived.WalkSmall
import Derived.Test.YtjigcpfjhfoheaaGreatDoorProg
import Derived.Shelf.Spec.SearchS
import Derived.BigQuiet
namespace Go.Proofs.YtjigcpfjhfoheaaGreatDoor
open Go.RowKit
set_option maxHeartbeats 4000000
set_option maxRecDepth 100000
set_option linter.unusedVariables false
set_option linter.unusedSimpArgs false
namespace Lx
def isLetter (c:UInt8):Bool:=(97≤c.toNat&&c.toNat≤122)||(65≤c.toNat&&c.toNat≤90)
def isDigit (c:UInt8):Bool:=48≤c.toNat&&c.toNat≤57
def inWord (c:UInt8):Bool:=isLetter c||isDigit c||c.toNat==95
theorem letter_any (c:UInt8) (w:World):Calls Tryz.prog 171 #[.int .u8 c.toNat] w fun e w'=>e= .returned (.bool (isLetter c))∧w'=w:=by
 go_enter Tryz.func171,Tryz.ntmps171
 go_wp2_with fail
 all_goals
  go_ret
  refine⟨ret_bool ?_,rfl⟩
  unfold isLetter
  grind
theorem digit_any (c:UInt8) (w:World):Calls Tryz.prog 173 #[.int .u8 c.toNat] w fun e w'=>e= .returned (.bool (isDigit c))∧w'=w:=by
 go_enter Tryz.func173,Tryz.ntmps173
 go_wp2_with fail
 all_goals
  go_ret
  refine⟨ret_bool ?_,rfl⟩
  unfold isDigit
  grind
theorem rletter_any (c:UInt8) (w:World):Calls Tryz.prog 162 #[.int .u8 c.toNat] w fun e w'=>e= .returned (.bool (isLetter c))∧w'=w:=by
 go_enter Tryz.func162,Tryz.ntmps162
 go_wp2_with fail
 all_goals
  go_ret
  refine⟨ret_bool ?_,rfl⟩
  unfold isLetter
  grind
theorem rdigit_any (c:UInt8) (w:World):Calls Tryz.prog 163 #[.int .u8 c.toNat] w fun e w'=>e= .returned (.bool (isDigit c))∧w'=w:=by
 go_enter Tryz.func163,Tryz.ntmps163
 go_wp2_with fail
 all_goals
  go_ret
  refine⟨ret_bool ?_,rfl⟩
  unfold isDigit
  grind
theorem inword_any (c:UInt8) (w:World):Calls Tryz.prog 228 #[.int .u8 c.toNat] w fun e w'=>e= .returned (.bool (inWord c))∧w'=w:=by
 have HL:=hid (letter_any c)
 have HD:=hid (digit_any c)
 cases hl:isLetter c<;>cases hd:isDigit c
 all_goals
  go_enter Tryz.func228,Tryz.ntmps228
  go_wp2_with (first
   |(go_at_call 171;refine(HL.out _).mono ?_;rintro e w1 ⟨rfl,rfl⟩;rw[hl])
   |(go_at_call 173;refine(HD.out _).mono ?_;rintro e w1 ⟨rfl,rfl⟩;rw[hd]))
  all_goals
   go_ret
   refine⟨ret_bool ?_,rfl⟩
   unfold inWord
   rw[hl,hd]
   grind
def isSpace (c:UInt8):Bool:=c.toNat==32||c.toNat==9||c.toNat==10
theorem rspace_any (c:UInt8) (w:World):Calls Tryz.prog 161 #[.int .u8 c.toNat] w fun e w'=>e= .returned (.bool (isSpace c))∧w'=w:=by
 go_enter Tryz.func161,Tryz.ntmps161
 go_wp2_with fail
 all_goals
  go_ret
  refine⟨ret_bool ?_,rfl⟩
  unfold isSpace
  grind
end Lx
namespace Lx
theorem take1 (t:ByteArray) (k:Nat) (h:k<t.size):t.data.toList.take (k+1)=t.data.toList.take k++ [t[k]]:=by
 have hk':k<t.data.toList.length:=by simpa using h
 rw[List.take_succ_eq_append_getElem hk']
 rfl
end Lx
namespace Lx
def spanN (f:UInt8→Bool):List UInt8→Nat
 | []=>0
 |c::r=>if f c=true then spanN f r+1 else 0
theorem span_word (s:ByteArray) (w:World) (hs:s.size≤maxLen):Calls Tryz.prog 227 #[.string s,.func (.func 228) #[] #[]] w fun e w'=>e= .returned (.int .i64 (spanN inWord s.data.toList))∧w'=w:=by
 unfold maxLen at hs
 go_enter Tryz.func227,Tryz.ntmps227
 go_wp2_with fail
 go_loop [5] (fun i=> ∃k:Nat,k≤s.size∧i= .int .i64 k∧spanN inWord s.data.toList=k+spanN inWord (s.data.toList.drop k)) (fun i=>s.size- (intOf i).toNat)
 case atStart=>exact⟨0,Nat.zero_le _,rfl,by simp⟩
 case round=>
  obtain⟨k,hk,rfl,hv⟩:=hrel
  have HV:=hid hv
  clear hv
  by_cases hlt:k<s.size
  ·have HD:Hid (s.data.toList.drop k=s[k]::s.data.toList.drop (k+1)):=List.drop_eq_getElem_cons (show k<s.data.toList.length from hlt)
   cases hc:inWord s[k]
   ·go_wp2_with (go_at_call 228;refine(inword_any s[k] _).mono ?_;rintro e w1 ⟨rfl,rfl⟩;rw[hc])
    go_ret
    refine⟨ret_int ?_,rfl⟩
    rw[HV.out,HD.out,spanN,if_neg (by rw[hc];decide)]
    omega
   ·go_wp2_with (go_at_call 228;refine(inword_any s[k] _).mono ?_;rintro e w1 ⟨rfl,rfl⟩;rw[hc])
    go_round
    case rel=>
     refine⟨k+1,by omega,by go_num,?_⟩
     rw[HV.out,HD.out,spanN,if_pos hc]
     omega
    case measure=>simp[intOf];omega
  ·obtain rfl:k=s.size:=by omega
   go_wp2_with fail
   go_ret
   refine⟨ret_int ?_,rfl⟩
   rw[HV.out,List.drop_of_length_le (show s.data.toList.length≤s.size from Nat.le_refl _),spanN]
   omega
theorem span_digit (s:ByteArray) (w:World) (hs:s.size≤maxLen):Calls Tryz.prog 227 #[.string s,.func (.func 173) #[] #[]] w fun e w'=>e= .returned (.int .i64 (spanN isDigit s.data.toList))∧w'=w:=by
 unfold maxLen at hs
 go_enter Tryz.func227,Tryz.ntmps227
 go_wp2_with fail
 go_loop [5] (fun i=> ∃k:Nat,k≤s.size∧i= .int .i64 k∧spanN isDigit s.data.toList=k+spanN isDigit (s.data.toList.drop k)) (fun i=>s.size- (intOf i).toNat)
 case atStart=>exact⟨0,Nat.zero_le _,rfl,by simp⟩
 case round=>
  obtain⟨k,hk,rfl,hv⟩:=hrel
  have HV:=hid hv
  clear hv
  by_cases hlt:k<s.size
  ·have HD:Hid (s.data.toList.drop k=s[k]::s.data.toList.drop (k+1)):=List.drop_eq_getElem_cons (show k<s.data.toList.length from hlt)
   cases hc:isDigit s[k]
   ·go_wp2_with (go_at_call 173;refine(digit_any s[k] _).mono ?_;rintro e w1 ⟨rfl,rfl⟩;rw[hc])
    go_ret
    refine⟨ret_int ?_,rfl⟩
    rw[HV.out,HD.out,spanN,if_neg (by rw[hc];decide)]
    omega
   ·go_wp2_with (go_at_call 173;refine(digit_any s[k] _).mono ?_;rintro e w1 ⟨rfl,rfl⟩;rw[hc])
    go_round
    case rel=>
     refine⟨k+1,by omega,by go_num,?_⟩
     rw[HV.out,HD.out,spanN,if_pos hc]
     omega
    case measure=>simp[intOf];omega
  ·obtain rfl:k=s.size:=by omega
   go_wp2_with fail
   go_ret
   refine⟨ret_int ?_,rfl⟩
   rw[HV.out,List.drop_of_length_le (show s.data.toList.length≤s.size from Nat.le_refl _),spanN]
   omega
def isPrint (c:UInt8):Bool:=32≤c.toNat&&c.toNat≤126
end Lx
namespace Lx
def upC (c:UInt8):UInt8:=if 97≤c.toNat∧c.toNat≤122 then c-32 else c
def loC (c:UInt8):UInt8:=if 65≤c.toNat∧c.toNat≤90 then c+32 else c
def kwNames:List (List UInt8):= [
 [65,78,68],
 [65,83],
 [65,83,67],
 [66,69,71,73,78],
 [66,69,84,87,69,69,78],
 [66,89],
 [67,72,69,67,75],
 [67,79,77,77,73,84],
 [67,79,85,78,84],
 [67,82,69,65,84,69],
 [68,69,76,69,84,69],
 [68,69,83,67],
 [70,79,82,69,73,71,78],
 [70,82,79,77],
 [71,82,79,85,80],
 [73,78],
 [73,78,83,69,82,84],
 [73,78,84,69,71,69,82],
 [73,78,84,79],
 [73,83],
 [74,79,73,78],
 [75,69,89],
 [76,69,78,71,84,72],
 [76,73,75,69],
 [76,73,77,73,84],
 [77,65,88],
 [77,73,78],
 [78,79,84],
 [78,85,76,76],
 [79,78],
 [79,82],
 [79,82,68,69,82],
 [80,82,73,77,65,82,89],
 [82,69,70,69,82,69,78,67,69,83],
 [82,69,76,69,65,83,69],
 [82,79,76,76,66,65,67,75],
 [83,65,86,69,80,79,73,78,84],
 [83,69,76,69,67,84],
 [83,69,84],
 [83,85,77],
 [84,65,66,76,69],
 [84,69,88,84],
 [84,79],
 [85,78,73,81,85,69],
 [85,80,68,65,84,69],
 [86,65,76,85,69,83],
 [87,72,69,82,69]]
def isKw (l:List UInt8):Bool:=decide (l.map upC∈kwNames)
def digVal (l:List UInt8):Nat:=l.foldl (fun v c=>10*v+(c.toNat-48)) 0
def syms:List UInt8:= [40,41,44,59,46,42,43,45,47,37,61,60,62]
def symN:List UInt8→Nat
 | []=>0
 | [c]=>if c∈syms then 1 else 0
 |c::d::_=>if (c=60∧d=62)∨(c=60∧d=61)∨(c=62∧d=61)then 2 else if c∈syms then 1 else 0
def litF:List UInt8→List UInt8→Nat→Option (List UInt8×Nat)
 | [],_,_=>none
 |c::r,X,i=>
  if isPrint c=false then none
  else if c.toNat=39 then
   match r with
   | []=>some (X,i+1)
   |d::r'=>if d.toNat=39 then litF r' (X++ [d]) (i+1+1)else some (X,i+1)
  else litF r (X++ [c]) (i+1)
theorem lit_cons (c:UInt8) (r X:List UInt8) (i:Nat):litF (c::r) X i=
  if isPrint c=false then none
  else if c.toNat=39 then
   (match r with
   | []=>some (X,i+1)
   |d::r'=>if d.toNat=39 then litF r' (X++ [d]) (i+1+1)else some (X,i+1))
  else litF r (X++ [c]) (i+1):=by rw[litF.eq_def]
inductive TR where
 |bad (e:Nat)
 |tok (kind:Nat) (text:List UInt8) (n:Nat)
def headW:List UInt8→Bool
 | []=>false
 |c::_=>inWord c
def wordL (l:List UInt8):TR:=
 if isKw (l.take (spanN inWord l))=true then .tok 2 ((l.take (spanN inWord l)).map upC) (spanN inWord l)
 else if 24<spanN inWord l then .bad 3
 else .tok 1 ((l.take (spanN inWord l)).map loC) (spanN inWord l)
def numL (l:List UInt8):TR:=
 if (1<spanN isDigit l∧l.head? =some 48)∨headW (l.drop (spanN isDigit l))=true then .bad 2
 else if 2147483648<digVal (l.take (spanN isDigit l))then .bad 3
 else .tok 3 (l.take (spanN isDigit l)) (spanN isDigit l)
def textL (r:List UInt8):TR:=
 match litF r [] 1 with
 |none=> .bad 2
 |some (X,i)=>if 16<X.length then .bad 3 else .tok 4 X i
def symL (l:List UInt8):TR:=if symN l=0 then .bad 2 else .tok 5 (l.take (symN l)) (symN l)
def tokL:List UInt8→TR
 | []=> .bad 2
 |c::r=>
  if isLetter c=true then wordL (c::r)
  else if isDigit c=true then numL (c::r)
  else if c.toNat=39 then textL r
  else symL (c::r)
def skipN:Bool→List UInt8→Nat
 |_,[]=>0
 |true,c::r=>if c.toNat=10 then skipN false r+1 else skipN true r+1
 |false,c::r=>
  if c.toNat=32∨c.toNat=9∨c.toNat=10 then skipN false r+1
  else if c.toNat=45∧r.head? =some 45 then skipN true r+1
  else 0
structure Tk where
 kind:Nat
 text:List UInt8
 pos:Nat
inductive Ls where
 |bad (at_ e:Nat)
 |ok (l:List Tk)
def Ls.pre (o:List Tk):Ls→Ls
 | .bad a e=> .bad a e
 | .ok l=> .ok (o++l)
def toksF:Nat→List UInt8→Nat→Ls
 |0,_,p=> .bad p 0
 |f+1,l,p=>
  match l.drop (skipN false l)with
  | []=> .ok [⟨0,[],p+skipN false l⟩]
  |c::r=>
   match tokL (c::r)with
   | .bad e=> .bad (p+skipN false l) e
   | .tok k x n=> (toksF f ((c::r).drop n) (p+skipN false l+n)).pre [⟨k,x,p+skipN false l⟩]
def T (l:List UInt8) (p:Nat):Ls:=toksF (l.length+1) l p
theorem span_le (f:UInt8→Bool):∀l:List UInt8,spanN f l≤l.length
 | []=>Nat.le_refl _
 |c::r=>by
  rw[spanN]
  have:=span_le f r
  split
  ·rw[List.length_cons];omega
  ·exact Nat.zero_le _
theorem span_all (f:UInt8→Bool):∀l:List UInt8,∀c∈l.take (spanN f l),f c=true
 | []=>by intro c h;simp at h
 |d::r=>by
  intro c h
  rw[spanN]at h
  split at h
  ·rw[List.take_succ_cons]at h
   rcases List.mem_cons.1 h with rfl|h
   ·assumption
   ·exact span_all f r c h
  ·simp at h
theorem span_pos (f:UInt8→Bool) (c:UInt8) (r:List UInt8) (h:f c=true):1≤spanN f (c::r):=by
 rw[spanN,if_pos h];omega
theorem span_head (f:UInt8→Bool):∀l:List UInt8,∀c,(l.drop (spanN f l)).head? =some c→f c=false
 | []=>by intro c h;simp at h
 |d::r=>by
  intro c h
  rw[spanN]at h
  split at h
  ·rw[List.drop_succ_cons]at h
   exact span_head f r c h
  ·rw[List.drop_zero,List.head?_cons,Option.some.injEq]at h
   subst h
   rename_i hn
   exact Bool.eq_false_iff.2 hn
theorem skip_le:∀(b:Bool) (l:List UInt8),skipN b l≤l.length
 |_,[]=>by cases ‹Bool› <;>exact Nat.le_refl _
 |true,c::r=>by
  rw[skipN,List.length_cons]
  have h1:=skip_le true r
  have h2:=skip_le false r
  split<;>omega
 |false,c::r=>by
  rw[skipN,List.length_cons]
  have h1:=skip_le true r
  have h2:=skip_le false r
  split
  ·omega
  ·split<;>omega
theorem sym_le (l:List UInt8):symN l≤l.length:=by
 match l with
 | []=>exact Nat.le_refl _
 | [c]=>rw[symN];split<;>simp
 |c::d::r=>
  rw[symN]
  simp only[List.length_cons]
  split
  ·omega
  ·split<;>omega
theorem lit_bound:∀(l X:List UInt8) (i:Nat) (Y:List UInt8) (j:Nat),litF l X i=some (Y,j)→i+1≤j∧j≤i+l.length∧Y.length+i+1≤X.length+j
 | [],X,i,Y,j=>by intro h;simp[litF]at h
 | [c],X,i,Y,j=>by
  intro h
  rw[litF]at h
  split at h
  ·exact absurd h (by simp)
  split at h
  ·simp only[Option.some.injEq,Prod.mk.injEq]at h
   obtain⟨rfl,rfl⟩:=h
   simp only[List.length_cons,List.length_nil]
   omega
  ·simp[litF]at h
 |c::d::r,X,i,Y,j=>by
  intro h
  rw[litF]at h
  simp only[List.length_cons]
  split at h
  ·exact absurd h (by simp)
  split at h
  ·split at h
   ·have:=lit_bound r _ _ Y j h
    simp only[List.length_append,List.length_cons,List.length_nil]at this
    omega
   ·simp only[Option.some.injEq,Prod.mk.injEq]at h
    obtain⟨rfl,rfl⟩:=h
    omega
  ·have:=lit_bound (d::r) _ _ Y j h
   simp only[List.length_append,List.length_cons,List.length_nil]at this
   omega
theorem tok_bound (c:UInt8) (r:List UInt8) (k:Nat) (x:List UInt8) (n:Nat) (h:tokL (c::r)= .tok k x n):1≤n∧n≤(c::r).length:=by
 rw[tokL]at h
 split at h
 ·rename_i hc
  have hw:inWord c=true:=by unfold inWord;rw[hc];rfl
  have h1:=span_pos inWord c r hw
  have h2:=span_le inWord (c::r)
  unfold wordL at h
  split at h
  ·cases h;exact⟨h1,h2⟩
  ·split at h
   ·cases h
   ·cases h;exact⟨h1,h2⟩
 split at h
 ·rename_i hc
  have h1:=span_pos isDigit c r hc
  have h2:=span_le isDigit (c::r)
  unfold numL at h
  split at h
  ·cases h
  ·split at h
   ·cases h
   ·cases h;exact⟨h1,h2⟩
 split at h
 ·unfold textL at h
  cases hl:litF r [] 1 with
  |none=>rw[hl]at h;cases h
  |some q=>
   obtain⟨X,i⟩:=q
   have:=lit_bound r [] 1 X i hl
   rw[hl]at h
   simp only at h
   split at h
   ·cases h
   ·cases h
    rw[List.length_cons];omega
 ·unfold symL at h
  have h2:=sym_le (c::r)
  split at h
  ·cases h
  ·cases h
   omega
theorem toksF_eq:∀(f g:Nat) (l:List UInt8) (p:Nat),l.length<f→l.length<g→toksF f l p=toksF g l p
 |0,_,l,p=>by intro h;omega
 |_+1,0,l,p=>by intro _ h;omega
 |f+1,g+1,l,p=>by
  intro hf hg
  rw[toksF,toksF]
  cases hd:l.drop (skipN false l)with
  |nil=>rfl
  |cons c r=>
   simp only
   cases ht:tokL (c::r)with
   |bad e=>rfl
   |tok k x n=>
    simp only
    have hb:=tok_bound c r k x n ht
    have hl:(c::r).length≤l.length:=by rw[←hd,List.length_drop];omega
    rw[toksF_eq f g _ _ (by rw[List.length_drop];omega) (by rw[List.length_drop];omega)]
theorem T_eq (l:List UInt8) (p:Nat):T l p=
  (match l.drop (skipN false l)with
  | []=> .ok [⟨0,[],p+skipN false l⟩]
  |c::r=>
   match tokL (c::r)with
   | .bad e=> .bad (p+skipN false l) e
   | .tok k x n=> (T ((c::r).drop n) (p+skipN false l+n)).pre [⟨k,x,p+skipN false l⟩]):=by
 unfold T
 rw[toksF]
 cases hd:l.drop (skipN false l)with
 |nil=>rfl
 |cons c r=>
  simp only
  cases ht:tokL (c::r)with
  |bad e=>rfl
  |tok k x n=>
   simp only
   have hb:=tok_bound c r k x n ht
   have hl:(c::r).length≤l.length:=by rw[←hd,List.length_drop];omega
   rw[toksF_eq l.length (((c::r).drop n).length+1) _ _ (by rw[List.length_drop];omega) (by omega)]
theorem T_end (l:List UInt8) (p:Nat) (h:l.drop (skipN false l)= []):T l p= .ok [⟨0,[],p+skipN false l⟩]:=by
 rw[T_eq,h]
theorem T_bad (l:List UInt8) (p:Nat) (c:UInt8) (r:List UInt8) (e:Nat) (h:l.drop (skipN false l)=c::r) (ht:tokL (c::r)= .bad e):T l p= .bad (p+skipN false l) e:=by
 rw[T_eq,h];simp only;rw[ht]
theorem T_tok (l:List UInt8) (p:Nat) (c:UInt8) (r:List UInt8) (k:Nat) (x:List UInt8) (n:Nat) (h:l.drop (skipN false l)=c::r) (ht:tokL (c::r)= .tok k x n):
  T l p=(T ((c::r).drop n) (p+skipN false l+n)).pre [⟨k,x,p+skipN false l⟩]:=by
 rw[T_eq,h];simp only;rw[ht]
theorem pre_pre (a b:List Tk) (x:Ls):(x.pre b).pre a=x.pre (a++b):=by
 cases x<;>simp[Ls.pre]
def tokAll (s:ByteArray):Ls:=if 16384<s.size then .bad 16384 3 else T s.data.toList 0
end Lx
namespace Lx
def Tk.sh (d:Nat) (t:Tk):Tk:=⟨t.kind,t.text,t.pos+d⟩
def Ls.sh (d:Nat):Ls→Ls
 | .bad a e=> .bad (a+d) e
 | .ok l=> .ok (l.map (Tk.sh d))
theorem upC_num (c:UInt8):(upC c).toNat=if 97≤c.toNat∧c.toNat≤122 then c.toNat-32 else c.toNat:=by
 unfold upC
 split
 ·rename_i h
  rw[UInt8.toNat_sub_of_le _ _ (by rw[UInt8.le_iff_toNat_le];have:(32:UInt8).toNat=32:=rfl;omega)]
  rfl
 ·rfl
theorem loC_num (c:UInt8):(loC c).toNat=if 65≤c.toNat∧c.toNat≤90 then c.toNat+32 else c.toNat:=by
 unfold loC
 split
 ·rename_i h
  rw[UInt8.toNat_add]
  have:(32:UInt8).toNat=32:=rfl
  omega
 ·rfl
theorem num_ext (c d:UInt8) (h:c.toNat=d.toNat):c=d:=UInt8.toNat_inj.1 h
theorem up_letter (c:UInt8):isLetter (upC c)=isLetter c:=by
 unfold isLetter
 have h:=upC_num c
 split at h<;>grind
end Lx
namespace Lx
def lowW (c:UInt8):Bool:=(97≤c.toNat&&c.toNat≤122)||isDigit c||c.toNat==95
def nameP (l:List UInt8):Bool:=
 match l with
 | []=>false
 |c::r=>decide (l.length≤24) && (decide (97≤c.toNat) &&decide (c.toNat≤122)) &&l.all lowW&&!(isKw l)
theorem letter_word (c:UInt8) (h:isLetter c=true):inWord c=true:=by unfold inWord;rw[h];rfl
def flat:List UInt8→List UInt8
 | []=> []
 |c::r=>if c.toNat=39 then c::c::flat r else c::flat r
theorem lit_off (d:Nat):∀(l X:List UInt8) (i:Nat),litF l X (i+d)=(litF l X i).map fun q=> (q.1,q.2+d)
 | [],X,i=>by rw[litF,litF];rfl
 | [c],X,i=>by
  rw[lit_cons c [],lit_cons c []]
  by_cases h1:isPrint c=false
  ·rw[if_pos h1,if_pos h1];rfl
  rw[if_neg h1,if_neg h1]
  by_cases h2:c.toNat=39
  ·rw[if_pos h2,if_pos h2]
   simp only[Option.map_some,Option.some.injEq,Prod.mk.injEq,true_and];omega
  ·rw[if_neg h2,if_neg h2,litF,litF];rfl
 |c::e::r,X,i=>by
  rw[lit_cons c (e::r),lit_cons c (e::r)]
  by_cases h1:isPrint c=false
  ·rw[if_pos h1,if_pos h1];rfl
  rw[if_neg h1,if_neg h1]
  by_cases h2:c.toNat=39
  ·rw[if_pos h2,if_pos h2]
   simp only
   by_cases h3:e.toNat=39
   ·rw[if_pos h3,if_pos h3,show i+d+1+1=i+1+1+d by omega,lit_off d r]
   ·rw[if_neg h3,if_neg h3]
    simp only[Option.map_some,Option.some.injEq,Prod.mk.injEq,true_and];omega
  ·rw[if_neg h2,if_neg h2,show i+d+1=i+1+d by omega,lit_off d (e::r)]
theorem dv_from (l:List UInt8):∀v,l.foldl (fun v c=>10*v+(c.toNat-48)) v=v*10^l.length+digVal l:=by
 unfold digVal
 induction l with
 |nil=>intro v;simp
 |cons c r ih=>
  intro v
  rw[List.foldl_cons,List.foldl_cons,ih,ih (10*0+_),List.length_cons,Nat.pow_succ,Nat.add_mul]
  have:10*v*10^r.length=v* (10^r.length*10):=by rw[Nat.mul_comm 10 v,Nat.mul_assoc,Nat.mul_comm 10]
  rw[this]
  simp only[Nat.mul_zero,Nat.zero_add]
  omega
theorem dv_cons (c:UInt8) (r:List UInt8):digVal (c::r)=(c.toNat-48)*10^r.length+digVal r:=by
 have:=dv_from r (10*0+(c.toNat-48))
 rw[Nat.mul_zero,Nat.zero_add]at this
 rw[←this]
 show List.foldl _ _ _=_
 rw[List.foldl_cons,Nat.mul_zero,Nat.zero_add]
theorem dv_lt:∀l:List UInt8,(∀c∈l,isDigit c=true)→digVal l<10^l.length
 | [],_=>by decide
 |c::r,h=>by
  have h1:=dv_lt r fun x hx=>h x (List.mem_cons_of_mem _ hx)
  have h2:=h c List.mem_cons_self
  rw[dv_cons,List.length_cons,Nat.pow_succ]
  have h3:c.toNat-48≤9:=by unfold isDigit at h2;grind
  have h4:(c.toNat-48)*10^r.length≤9*10^r.length:=Nat.mul_le_mul_right _ h3
  omega
theorem dv_less:∀(a b:List UInt8),a.length=b.length→(∀c∈a,isDigit c=true)→(∀c∈b,isDigit c=true)→Op.bytesLess a b=decide (digVal a<digVal b)
 | [],[],_,_,_=>by decide
 |c::r,d::q,hl,ha,hb=>by
  have hl':r.length=q.length:=by simpa using hl
  have ha':∀x∈r,isDigit x=true:=fun x hx=>ha x (List.mem_cons_of_mem _ hx)
  have hb':∀x∈q,isDigit x=true:=fun x hx=>hb x (List.mem_cons_of_mem _ hx)
  have h1:=dv_lt r ha'
  have h2:=dv_lt q hb'
  have h3:=ha c List.mem_cons_self
  have h4:=hb d List.mem_cons_self
  have hc:48≤c.toNat∧c.toNat≤57:=by unfold isDigit at h3;grind
  have hd:48≤d.toNat∧d.toNat≤57:=by unfold isDigit at h4;grind
  rw[Op.bytesLess,dv_less r q hl' ha' hb',dv_cons,dv_cons,hl']
  rw[hl']at h1
  generalize 10^q.length=P at*
  rcases Nat.lt_trichotomy c.toNat d.toNat with h|h|h
  ·have e1:decide (c<d)=true:=decide_eq_true (UInt8.lt_iff_toNat_lt.2 h)
   rw[e1,Bool.true_or]
   symm
   apply decide_eq_true
   have:(c.toNat-48+1)*P≤(d.toNat-48)*P:=Nat.mul_le_mul_right _ (by omega)
   rw[Nat.add_mul,Nat.one_mul]at this
   omega
  ·have e0:=num_ext c d h
   subst e0
   have e1:decide (c<c)=false:=decide_eq_false (by rw[UInt8.lt_iff_toNat_lt];omega)
   rw[e1,Bool.false_or,beq_self_eq_true,Bool.true_and]
   apply decide_eq_decide.2
   omega
  ·have e1:decide (c<d)=false:=decide_eq_false (by rw[UInt8.lt_iff_toNat_lt];omega)
   have e2:(c==d)=false:=by rw[beq_eq_false_iff_ne];rintro rfl;omega
   rw[e1,e2,Bool.false_and,Bool.or_false]
   symm
   apply decide_eq_false
   have:(d.toNat-48+1)*P≤(c.toNat-48)*P:=Nat.mul_le_mul_right _ (by omega)
   rw[Nat.add_mul,Nat.one_mul]at this
   omega
def big10:List UInt8:= [50,49,52,55,52,56,51,54,52,56]
theorem dv_big (l:List UInt8) (hl:∀c∈l,isDigit c=true) (h0:1<l.length→l.head?≠some 48):
  (2147483648<digVal l)↔(10<l.length∨(l.length=10∧Op.bytesLess big10 l=true)):=by
 have h1:=dv_lt l hl
 rcases Nat.lt_trichotomy l.length 10 with h|h|h
 ·constructor
  ·intro hv
   exfalso
   have:10^l.length≤10^9:=Nat.pow_le_pow_right (by decide) (by omega)
   have e:10^9=1000000000:=by decide
   omega
  ·rintro(h2|⟨h2,_⟩)<;>omega
 ·have e:digVal big10=2147483648:=by decide
  rw[dv_less big10 l (by rw[h];rfl) (by decide) hl,e,decide_eq_true_eq]
  constructor
  ·intro hv;exact .inr ⟨h,hv⟩
  ·rintro(h2|⟨_,h2⟩)
   ·omega
   ·exact h2
 ·refine⟨fun _=> .inl h,fun _=>?_⟩
  cases l with
  |nil=>simp at h
  |cons c r=>
   rw[List.length_cons]at h
   rw[dv_cons]
   have h3:=hl c List.mem_cons_self
   have h4:c.toNat≠48:=fun e=>h0 (by rw[List.length_cons];omega) (by rw[List.head?_cons,num_ext c 48 e])
   have h5:1≤c.toNat-48:=by unfold isDigit at h3;grind
   have h6:10^10≤10^r.length:=Nat.pow_le_pow_right (by decide) (by omega)
   have h7:1*10^r.length≤(c.toNat-48)*10^r.length:=Nat.mul_le_mul_right _ h5
   have e:10^10=10000000000:=by decide
   omega
end Lx
namespace Lx
def litRes:Option (List UInt8×Nat)→Value
 |some (X,i)=> .tuple #[.string ⟨X.toArray⟩,.int .i64 i]
 |none=> .tuple #[.string ⟨#[]⟩,.int .i64 (-1)]
def litS (s:ByteArray) (k:Nat):Value:=litRes (litF (s.data.toList.drop (k+1)) [] (k+1))
theorem ext1 (t:ByteArray) (k:Nat) (h:k<t.size):(t.extract k (k+1)).data.toList= [t[k]]:=by
 have hk':k<t.data.toList.length:=by simpa using h
 rw[Lib.extract_data]
 have:t.data.toList.drop k=t.data.toList[k]::t.data.toList.drop (k+1):=List.drop_eq_getElem_cons hk'
 rw[show k+1-k=1 by omega,this]
 rfl
theorem drop1 (s:ByteArray) (k:Nat) (h:k<s.size):s.data.toList.drop k=s[k]::s.data.toList.drop (k+1):=List.drop_eq_getElem_cons (show k<s.data.toList.length from h)
theorem lit_end (X:ByteArray) (k:Nat):Value.tuple #[.string X,.int .i64 ((k:Int)+1)]=litRes (some (X.data.toList,k+1)):=by
 show _=Value.tuple #[.string ⟨X.data.toList.toArray⟩,.int .i64 ((k+1:Nat):Int)]
 congr
theorem literal_any (s:ByteArray) (a:Nat) (w:World) (hs:s.size≤20000) (ha:a<s.size):
  Calls Tryz.prog 167 #[.string s,.int .i64 a] w fun e w'=>e= .returned (litS s a)∧w'=w:=by
 have HL:Hid (litS s a=litRes (litF (s.data.toList.drop (a+1)) [] (a+1))):=rfl
 generalize litS s a=V at*
 go_enter Tryz.func167,Tryz.ntmps167
 go_wp2_with fail
 go_loop [6,7] (fun x i=> ∃(k:Nat) (X:ByteArray),k≤s.size∧X.size≤k∧i= .int .i64 k∧x= .string X∧V=litRes (litF (s.data.toList.drop k) X.data.toList k)) (fun _ i=>s.size- (intOf i).toNat)
 case atStart=>exact⟨a+1,⟨#[]⟩,ha,Nat.zero_le _,by go_num,rfl,HL.out⟩
 case round=>
  obtain⟨k,X,hk,hXs,rfl,rfl,hv⟩:=hrel
  have HV:=hid hv
  clear hv
  by_cases hlt:k<s.size
  ·have HD:=hid (drop1 s k hlt)
   have E1:=hid (ext1 s k hlt)
   have e2:(s.extract k (k+1)).size=1:=by
    show(s.extract k (k+1)).data.toList.length=1
    rw[ext1 s k hlt];rfl
   by_cases hc:32≤s[k].toNat∧s[k].toNat≤126
   ·have HP:Hid (isPrint s[k]=true):=by unfold Hid isPrint;simpa using hc
    have HPn:Hid (¬isPrint s[k]=false):=by unfold Hid;rw[HP.out];decide
    obtain⟨hc1,hc2⟩:=hc
    by_cases hq:s[k].toNat=39
    ·have b1:((s[k].toNat:Int)==39)=true:=by rw[hq];rfl
     have HQ:=hid hq
     clear hq
     by_cases hl:k+1<s.size
     ·have HD2:=hid (drop1 s (k+1) hl)
      have E2:=hid (ext1 s (k+1) hl)
      have e3:(s.extract (k+1) (k+1+1)).size=1:=by
       show(s.extract (k+1) (k+1+1)).data.toList.length=1
       rw[ext1 s (k+1) hl];rfl
      have b0:((k:Int)+1==(s.size:Int))=false:=by rw[beq_eq_false_iff_ne];omega
      by_cases hq2:s[k+1].toNat=39
      ·have b2:((s[k+1].toNat:Int)==39)=true:=by rw[hq2];rfl
       have b3:((s[k+1].toNat:Int) !=39)=false:=by rw[hq2];rfl
       have HQ2:=hid hq2
       clear hq2
       go_wp2_with fail
       all_goals first
        |(exfalso;simp only[b0,b3]at*;simp at*;done)
        |skip
       go_round
       case rel=>
        refine⟨k+1+1,X++s.extract (k+1) (k+1+1),by omega,?_,by go_num,rfl,?_⟩
        ·rw[ByteArray.size_append,e3];omega
        ·rw[HV.out,HD.out,lit_cons,if_neg HPn.out,if_pos HQ.out,HD2.out]
         simp only
         rw[if_pos HQ2.out]
         rw[ByteArray.data_append,Array.toList_append,E2.out]
       case measure=>simp[intOf];omega
      ·have b2:((s[k+1].toNat:Int)==39)=false:=by rw[beq_eq_false_iff_ne];omega
       have b3:((s[k+1].toNat:Int) !=39)=true:=by rw[bne_iff_ne];omega
       have HQ2:Hid (¬s[k+1].toNat=39):=hq2
       clear hq2
       go_wp2_with fail
       all_goals first
        |(exfalso;simp only[b0,b3]at*;simp at*;done)
        |skip
       go_ret2
       refine⟨?_,rfl⟩
       show Ending.returned (.tuple #[.string X,.int .i64 ((k:Int)+1)])=_
       rw[lit_end,HV.out,HD.out,lit_cons,if_neg HPn.out,if_pos HQ.out,HD2.out]
       simp only
       rw[if_neg HQ2.out]
     ·have b0:((k:Int)+1==(s.size:Int))=true:=by rw[beq_iff_eq];omega
      go_wp2_with fail
      go_ret2
      refine⟨?_,rfl⟩
      show Ending.returned (.tuple #[.string X,.int .i64 ((k:Int)+1)])=_
      rw[lit_end,HV.out,HD.out,lit_cons,if_neg HPn.out,if_pos HQ.out]
      rw[List.drop_of_length_le (show s.data.toList.length≤k+1 by show s.size≤_;omega)]
    ·have b1:((s[k].toNat:Int)==39)=false:=by rw[beq_eq_false_iff_ne];omega
     have HQ:Hid (¬s[k].toNat=39):=hq
     clear hq
     go_wp2_with fail
     go_round
     case rel=>
      refine⟨k+1,X++s.extract k (k+1),by omega,?_,by go_num,rfl,?_⟩
      ·rw[ByteArray.size_append,e2];omega
      ·rw[HV.out,HD.out,lit_cons,if_neg HPn.out,if_neg HQ.out]
       rw[ByteArray.data_append,Array.toList_append,E1.out]
     case measure=>simp[intOf];omega
   ·have HP:Hid (isPrint s[k]=false):=by
     unfold Hid isPrint
     rw[Bool.and_eq_false_iff]
     simp only[decide_eq_false_iff_not]
     omega
    go_wp2_with fail
    all_goals
     go_ret2
     refine⟨?_,rfl⟩
     rw[HV.out,HD.out,lit_cons,if_pos HP.out]
     rfl
  ·go_wp2_with fail
   go_ret2
   refine⟨?_,rfl⟩
   rw[HV.out,List.drop_of_length_le (show s.data.toList.length≤k by show s.size≤_;omega),litF]
   rfl
end Lx
namespace Lx
def BM (w:World) (g:Nat) (t:TypeId) (cs:List Value):Prop:=∃lo hi:Nat,cs.length≤lo∧w.heap[g]? =some (.cells cs.toArray t (lo,hi))
theorem BM.cell {w:World} {g:Nat} {t:TypeId} {cs:List Value} (h:BM w g t cs) {i:Nat} {v:Value} (hv:cs[i]? =some v):w.cell? ⟨g,i,none⟩=some v:=by
 obtain⟨lo,hi,_,h⟩:=h
 simp[World.cell?,h,hv]
theorem BM.frozen {w:World} {g:Nat} {t:TypeId} {cs:List Value} (h:BM w g t cs) {i:Nat} (hi:i<cs.length):w.frozen? ⟨g,i,none⟩=false:=by
 obtain⟨lo,hi2,hl,h⟩:=h
 unfold World.frozen?
 rw[h]
 simp only[Bool.and_eq_false_iff,decide_eq_false_iff_not]
 left;omega
theorem BM.set {w:World} {g:Nat} {t:TypeId} {cs:List Value} (h:BM w g t cs) (i:Nat) (u:Value):BM (w.setCell ⟨g,i,none⟩ u) g t (cs.set i u):=by
 obtain⟨lo,hi,hl,h⟩:=h
 refine⟨lo,hi,by rw[List.length_set];exact hl,?_⟩
 simp[World.setCell,Array.getElem?_modify,h]
theorem BM.ext {w w':World} {g:Nat} {t:TypeId} {cs:List Value} (h:BM w g t cs) (hx:Ext w w'):BM w' g t cs:=by
 obtain⟨lo,hi,hl,h⟩:=h
 exact⟨lo,hi,hl,(Below.block hx g (Array.getElem?_eq_some_iff.1 h).1).trans h⟩
theorem BM.lt {w:World} {g:Nat} {t:TypeId} {cs:List Value} (h:BM w g t cs):g<w.heap.size:=by
 obtain⟨lo,hi,_,h⟩:=h
 exact(Array.getElem?_eq_some_iff.1 h).1
def b8 (l:List UInt8):List Value:=l.map fun c=> .int .u8 (c.toNat:Int)
theorem b8_len (l:List UInt8):(b8 l).length=l.length:=List.length_map _
theorem b8_get (l:List UInt8) (i:Nat) (h:i<l.length):(b8 l)[i]? =some (.int .u8 ((l[i].toNat:Nat):Int)):=by
 simp[b8,List.getElem?_map,List.getElem?_eq_getElem h]
theorem b8_get' (l:List UInt8) (r:List Value) (i:Nat) (h:i<l.length):(b8 l++r)[i]? =some (.int .u8 ((l[i].toNat:Nat):Int)):=by
 rw[List.getElem?_append_left (by rw[b8_len];exact h),b8_get l i h]
theorem b8_set (l:List UInt8) (r:List Value) (i:Nat) (c:UInt8) (h:i<l.length):(b8 l++r).set i (.int .u8 (c.toNat:Int))=b8 (l.set i c)++r:=by
 rw[List.set_append_left _ _ (by rw[b8_len];exact h)]
 simp[b8,List.map_set]
theorem conv_blk {P:Program} (w:World) (src dst e:TypeId) (s:ByteArray) (hs:P.underlying src=some .string) (hd:P.underlying dst=some (.slice e)) (he:P.underlying e=some (.int .u8)):
  ∃cap w2 rest,(convert src dst (.string s)).run P w= .ok (.slice (some ⟨w.heap.size,0,none⟩) s.size cap) w2∧Ext w w2∧w2.heap.size=w.heap.size+1∧BM w2 w.heap.size e (b8 s.data.toList++rest):=by
 refine⟨_,_,(Array.replicate (grownCap w s.size 0 e-s.size) (.int .u8 0)).toList,run_bytes_of_string w src dst e s hs hd he,((Ext.refl w).drew).alloc _,by simp,?_⟩
 have hb:b8 s.data.toList++(Array.replicate (grownCap w s.size 0 e-s.size) (Value.int .u8 0)).toList=(bytesRow s (grownCap w s.size 0 e)).toList:=by
  unfold bytesRow b8
  rw[Array.toList_append,Array.toList_map]
 rw[hb]
 refine⟨(bytesRow s (grownCap w s.size 0 e)).size,(bytesRow s (grownCap w s.size 0 e)).size+1,Nat.le_of_eq (by rw[Array.length_toList]),?_⟩
 show(w.heap.push _)[w.heap.size]? =_
 simp
theorem strOf_b8 (l:List UInt8):strOfNums (l.map fun c=> (c.toNat:Int))=⟨l.toArray⟩:=by
 unfold strOfNums
 congr 1
 simp[Function.comp_def]
theorem conv_pre {P:Program} {w:World} (src dst e g cap:Nat) (l:List UInt8) (r:List Value) (n:Nat) (hn:n=l.length) (hs:P.underlying src=some (.slice e)) (he:P.underlying e=some (.int .u8)) (hd:P.underlying dst=some .string)
  (hb:BM w g e (b8 l++r)):(convert src dst (.slice (some ⟨g,0,none⟩) n cap)).run P w= .ok (.string ⟨l.toArray⟩) w:=by
 rw[run_convert_bytes_arg w src e hs he g 0 n cap (l.map fun c=> (c.toNat:Int)) (by simp[hn]) (fun i hi=>?_) dst hd,strOf_b8]
 rw[Nat.zero_add,hb.cell (b8_get' l r i (by omega))]
 simp[List.getElem?_eq_getElem (show i<l.length by omega)]
def half (f:UInt8→UInt8) (l:List UInt8) (k:Nat):List UInt8:=(l.take k).map f++l.drop k
theorem half_len (f:UInt8→UInt8) (l:List UInt8) (k:Nat):(half f l k).length=l.length:=by
 unfold half
 rw[List.length_append,List.length_map,List.length_take,List.length_drop]
 omega
theorem half_get (f:UInt8→UInt8) (s:ByteArray) (k:Nat) (h:k<s.size) (h':k<(half f s.data.toList k).length):(half f s.data.toList k)[k]=s[k]:=by
 have hl:((s.data.toList.take k).map f).length=k:=by
  rw[List.length_map,List.length_take]
  have:s.data.toList.length=s.size:=rfl
  omega
 unfold half at*
 rw[List.getElem_append_right (by omega)]
 simp only[hl,Nat.sub_self]
 simp only[drop1 s k h,List.getElem_cons_zero]
theorem half_set (f:UInt8→UInt8) (s:ByteArray) (k:Nat) (h:k<s.size):(half f s.data.toList k).set k (f s[k])=half f s.data.toList (k+1):=by
 have hl:((s.data.toList.take k).map f).length=k:=by
  rw[List.length_map,List.length_take]
  have:s.data.toList.length=s.size:=rfl
  omega
 unfold half
 rw[List.set_append_right _ _ (by omega),hl,Nat.sub_self,drop1 s k h,List.set_cons_zero,take1 s k h,List.map_append,List.append_assoc]
 rfl
theorem half_same (f:UInt8→UInt8) (s:ByteArray) (k:Nat) (h:k<s.size) (e:f s[k]=s[k]):half f s.data.toList k=half f s.data.toList (k+1):=by
 have h':k<(half f s.data.toList k).length:=by rw[half_len];exact h
 rw[←half_set f s k h,e]
 conv=>rhs;rw[←half_get f s k h h']
 exact(List.set_getElem_self h').symm
theorem half_all (f:UInt8→UInt8) (s:ByteArray) (k:Nat) (h:k=s.size):half f s.data.toList k=s.data.toList.map f:=by
 subst h
 unfold half
 have e:s.data.toList.length=s.size:=rfl
 rw[List.take_of_length_le (Nat.le_of_eq e),List.drop_of_length_le (Nat.le_of_eq e),List.append_nil]
theorem upper_any (s:ByteArray) (w:World) (hs:s.size≤20000):Calls Tryz.prog 230 #[.string s] w fun e w'=>e= .returned (.string ⟨(s.data.toList.map upC).toArray⟩)∧Ext w w':=by
 obtain⟨cap,w2,rest,hcv,hx2,hz2,hb2⟩:=conv_blk (P:=Tryz.prog) w 9 60 5 s Tryz.underlying9 Tryz.underlying60 Tryz.underlying5
 have HZ:=hid hz2
 clear hz2
 go_enter Tryz.func230,Tryz.ntmps230
 go_wp2_with fail
 go_loopw [4,5,10] (fun _ _ i wr=> ∃k:Nat,k≤s.size∧i= .int .i64 k∧BM wr w.heap.size 5 (b8 (half upC s.data.toList k)++rest)∧Ext w wr) (fun _ _ i _=>s.size- (intOf i).toNat)
 case atStart=>exact⟨0,Nat.zero_le _,rfl,hb2,hx2⟩
 case round=>
  obtain⟨k,hk,rfl,hbr,hxr⟩:=hrel
  have HB:=hid hbr
  have HX:=hid hxr
  clear hxr hx2 hb2 hcv
  by_cases hlt:k<s.size
  ·have hl':k<(half upC s.data.toList k).length:=by rw[half_len];exact hlt
   have hck:=hbr.cell (b8_get' _ rest k hl')
   rw[half_get upC s k hlt hl']at hck
   have hfk:wr.frozen? ⟨w.heap.size,k,none⟩=false:=hbr.frozen (by rw[List.length_append,b8_len];omega)
   clear hbr
   by_cases hc:97≤s[k].toNat∧s[k].toNat≤122
   ·have HN:Hid ((upC s[k]).toNat=s[k].toNat-32):=by unfold Hid;rw[upC_num,if_pos hc]
    obtain⟨hc1,hc2⟩:=hc
    go_wp2_with fail
    go_roundw
    case rel=>
     refine⟨k+1,by omega,by go_num,?_,HX.out.setCell (Nat.le_refl _) _⟩
     have h1:=HB.out.set k (.int .u8 ((upC s[k]).toNat:Int))
     rw[b8_set _ rest k _ hl',half_set upC s k hlt,HN.out]at h1
     have e:(((s[k].toNat:Int)-97+65):Int)=((s[k].toNat-32:Nat):Int):=by omega
     rw[e]
     exact h1
    case measure=>simp[intOf];omega
   ·have HS:Hid (half upC s.data.toList k=half upC s.data.toList (k+1)):=half_same upC s k hlt (by unfold upC;rw[if_neg hc])
    go_wp2_with fail
    all_goals
     go_roundw
     case rel=>exact⟨k+1,by omega,by go_num,by rw[←HS.out];exact HB.out,HX.out⟩
     case measure=>simp[intOf];omega
  ·have hcv:=conv_pre (P:=Tryz.prog) (w:=wr) 60 9 5 w.heap.size cap (half upC s.data.toList k) rest s.size (by rw[half_len];rfl) Tryz.underlying60 Tryz.underlying5 Tryz.underlying9 hbr
   rw[half_all upC s k (by omega)]at hcv
   go_wp2_with fail
   go_ret
   exact⟨rfl,HX.out⟩
theorem rupper_any (s:ByteArray) (w:World) (hs:s.size≤20000):Calls Tryz.prog 165 #[.string s] w fun e w'=>e= .returned (.string ⟨(s.data.toList.map upC).toArray⟩)∧Ext w w':=by
 obtain⟨cap,w2,rest,hcv,hx2,hz2,hb2⟩:=conv_blk (P:=Tryz.prog) w 9 60 5 s Tryz.underlying9 Tryz.underlying60 Tryz.underlying5
 have HZ:=hid hz2
 clear hz2
 go_enter Tryz.func165,Tryz.ntmps165
 go_wp2_with fail
 go_loopw [4] (fun i wr=> ∃k:Nat,k≤s.size∧i= .int .i64 k∧BM wr w.heap.size 5 (b8 (half upC s.data.toList k)++rest)∧Ext w wr) (fun i _=>s.size- (intOf i).toNat)
 case atStart=>exact⟨0,Nat.zero_le _,rfl,hb2,hx2⟩
 case round=>
  obtain⟨k,hk,rfl,hbr,hxr⟩:=hrel
  have HB:=hid hbr
  have HX:=hid hxr
  clear hxr hx2 hb2 hcv
  by_cases hlt:k<s.size
  ·have hl':k<(half upC s.data.toList k).length:=by rw[half_len];exact hlt
   have hck:=hbr.cell (b8_get' _ rest k hl')
   rw[half_get upC s k hlt hl']at hck
   have hfk:wr.frozen? ⟨w.heap.size,k,none⟩=false:=hbr.frozen (by rw[List.length_append,b8_len];omega)
   clear hbr
   by_cases hc:97≤s[k].toNat∧s[k].toNat≤122
   ·have HN:Hid ((upC s[k]).toNat=s[k].toNat-32):=by unfold Hid;rw[upC_num,if_pos hc]
    obtain⟨hc1,hc2⟩:=hc
    go_wp2_with fail
    go_roundw
    case rel=>
     refine⟨k+1,by omega,by go_num,?_,HX.out.setCell (Nat.le_refl _) _⟩
     have h1:=HB.out.set k (.int .u8 ((upC s[k]).toNat:Int))
     rw[b8_set _ rest k _ hl',half_set upC s k hlt,HN.out]at h1
     have e:(((s[k].toNat:Int)-32):Int)=((s[k].toNat-32:Nat):Int):=by omega
     rw[e]
     exact h1
    case measure=>simp[intOf];omega
   ·have HS:Hid (half upC s.data.toList k=half upC s.data.toList (k+1)):=half_same upC s k hlt (by unfold upC;rw[if_neg hc])
    go_wp2_with fail
    all_goals
     go_roundw
     case rel=>exact⟨k+1,by omega,by go_num,by rw[←HS.out];exact HB.out,HX.out⟩
     case measure=>simp[intOf];omega
  ·have hcv:=conv_pre (P:=Tryz.prog) (w:=wr) 60 9 5 w.heap.size cap (half upC s.data.toList k) rest s.size (by rw[half_len];rfl) Tryz.underlying60 Tryz.underlying5 Tryz.underlying9 hbr
   rw[half_all upC s k (by omega)]at hcv
   go_wp2_with fail
   go_ret
   exact⟨rfl,HX.out⟩
theorem lower_any (s:ByteArray) (w:World) (hs:s.size≤20000):Calls Tryz.prog 231 #[.string s] w fun e w'=>e= .returned (.string ⟨(s.data.toList.map loC).toArray⟩)∧Ext w w':=by
 obtain⟨cap,w2,rest,hcv,hx2,hz2,hb2⟩:=conv_blk (P:=Tryz.prog) w 9 60 5 s Tryz.underlying9 Tryz.underlying60 Tryz.underlying5
 have HZ:=hid hz2
 clear hz2
 go_enter Tryz.func231,Tryz.ntmps231
 go_wp2_with fail
 go_loopw [4,5,10] (fun _ _ i wr=> ∃k:Nat,k≤s.size∧i= .int .i64 k∧BM wr w.heap.size 5 (b8 (half loC s.data.toList k)++rest)∧Ext w wr) (fun _ _ i _=>s.size- (intOf i).toNat)
 case atStart=>exact⟨0,Nat.zero_le _,rfl,hb2,hx2⟩
 case round=>
  obtain⟨k,hk,rfl,hbr,hxr⟩:=hrel
  have HB:=hid hbr
  have HX:=hid hxr
  clear hxr hx2 hb2 hcv
  by_cases hlt:k<s.size
  ·have hl':k<(half loC s.data.toList k).length:=by rw[half_len];exact hlt
   have hck:=hbr.cell (b8_get' _ rest k hl')
   rw[half_get loC s k hlt hl']at hck
   have hfk:wr.frozen? ⟨w.heap.size,k,none⟩=false:=hbr.frozen (by rw[List.length_append,b8_len];omega)
   clear hbr
   by_cases hc:65≤s[k].toNat∧s[k].toNat≤90
   ·have HN:Hid ((loC s[k]).toNat=s[k].toNat+32):=by unfold Hid;rw[loC_num,if_pos hc]
    obtain⟨hc1,hc2⟩:=hc
    go_wp2_with fail
    go_roundw
    case rel=>
     refine⟨k+1,by omega,by go_num,?_,HX.out.setCell (Nat.le_refl _) _⟩
     have h1:=HB.out.set k (.int .u8 ((loC s[k]).toNat:Int))
     rw[b8_set _ rest k _ hl',half_set loC s k hlt,HN.out]at h1
     have e:(((s[k].toNat:Int)-65+97):Int)=((s[k].toNat+32:Nat):Int):=by omega
     rw[e]
     exact h1
    case measure=>simp[intOf];omega
   ·have HS:Hid (half loC s.data.toList k=half loC s.data.toList (k+1)):=half_same loC s k hlt (by unfold loC;rw[if_neg hc])
    go_wp2_with fail
    all_goals
     go_roundw
     case rel=>exact⟨k+1,by omega,by go_num,by rw[←HS.out];exact HB.out,HX.out⟩
     case measure=>simp[intOf];omega
  ·have hcv:=conv_pre (P:=Tryz.prog) (w:=wr) 60 9 5 w.heap.size cap (half loC s.data.toList k) rest s.size (by rw[half_len];rfl) Tryz.underlying60 Tryz.underlying5 Tryz.underlying9 hbr
   rw[half_all loC s k (by omega)]at hcv
   go_wp2_with fail
   go_ret
   exact⟨rfl,HX.out⟩
theorem rlower_any (s:ByteArray) (w:World) (hs:s.size≤20000):Calls Tryz.prog 166 #[.string s] w fun e w'=>e= .returned (.string ⟨(s.data.toList.map loC).toArray⟩)∧Ext w w':=by
 obtain⟨cap,w2,rest,hcv,hx2,hz2,hb2⟩:=conv_blk (P:=Tryz.prog) w 9 60 5 s Tryz.underlying9 Tryz.underlying60 Tryz.underlying5
 have HZ:=hid hz2
 clear hz2
 go_enter Tryz.func166,Tryz.ntmps166
 go_wp2_with fail
 go_loopw [4] (fun i wr=> ∃k:Nat,k≤s.size∧i= .int .i64 k∧BM wr w.heap.size 5 (b8 (half loC s.data.toList k)++rest)∧Ext w wr) (fun i _=>s.size- (intOf i).toNat)
 case atStart=>exact⟨0,Nat.zero_le _,rfl,hb2,hx2⟩
 case round=>
  obtain⟨k,hk,rfl,hbr,hxr⟩:=hrel
  have HB:=hid hbr
  have HX:=hid hxr
  clear hxr hx2 hb2 hcv
  by_cases hlt:k<s.size
  ·have hl':k<(half loC s.data.toList k).length:=by rw[half_len];exact hlt
   have hck:=hbr.cell (b8_get' _ rest k hl')
   rw[half_get loC s k hlt hl']at hck
   have hfk:wr.frozen? ⟨w.heap.size,k,none⟩=false:=hbr.frozen (by rw[List.length_append,b8_len];omega)
   clear hbr
   by_cases hc:65≤s[k].toNat∧s[k].toNat≤90
   ·have HN:Hid ((loC s[k]).toNat=s[k].toNat+32):=by unfold Hid;rw[loC_num,if_pos hc]
    obtain⟨hc1,hc2⟩:=hc
    go_wp2_with fail
    go_roundw
    case rel=>
     refine⟨k+1,by omega,by go_num,?_,HX.out.setCell (Nat.le_refl _) _⟩
     have h1:=HB.out.set k (.int .u8 ((loC s[k]).toNat:Int))
     rw[b8_set _ rest k _ hl',half_set loC s k hlt,HN.out]at h1
     have e:(((s[k].toNat:Int)+32):Int)=((s[k].toNat+32:Nat):Int):=by omega
     rw[e]
     exact h1
    case measure=>simp[intOf];omega
   ·have HS:Hid (half loC s.data.toList k=half loC s.data.toList (k+1)):=half_same loC s k hlt (by unfold loC;rw[if_neg hc])
    go_wp2_with fail
    all_goals
     go_roundw
     case rel=>exact⟨k+1,by omega,by go_num,by rw[←HS.out];exact HB.out,HX.out⟩
     case measure=>simp[intOf];omega
  ·have hcv:=conv_pre (P:=Tryz.prog) (w:=wr) 60 9 5 w.heap.size cap (half loC s.data.toList k) rest s.size (by rw[half_len];rfl) Tryz.underlying60 Tryz.underlying5 Tryz.underlying9 hbr
   rw[half_all loC s k (by omega)]at hcv
   go_wp2_with fail
   go_ret
   exact⟨rfl,HX.out⟩
end Lx
section
open Go.Shelf
def Tryz.lays26_ren:Go.Shelf.Ren:=⟨fun|26=>262|33=>279|34=>280|38=>298|n=>n,fun|24=>101|40=>230|n=>n,fun|n=>n⟩
theorem Tryz.lays26:Go.Proofs.Lays2.n26 Tryz.prog Tryz.lays26_ren:= {
 mixed:=by kernel_rfl
 f26:=Tryz.func262.trans (congrArg some (by kernel_rfl))
 f33:=Tryz.func279.trans (congrArg some (by kernel_rfl))
 f34:=Tryz.func280.trans (congrArg some (by kernel_rfl))
 f38:=Tryz.func298.trans (congrArg some (by kernel_rfl))
 t0:=Tryz.underlying0
 a0:=Tryz.isAgg0
 z0:=Tryz.sizeOf0
 v0:=Tryz.zeroValue0
 t3:=Tryz.underlying3
 a3:=Tryz.isAgg3
 z3:=Tryz.sizeOf3
 v3:=Tryz.zeroValue3
 t4:=Tryz.underlying4
 a4:=Tryz.isAgg4
 z4:=Tryz.sizeOf4
 v4:=Tryz.zeroValue4
 t9:=Tryz.underlying9
 a9:=Tryz.isAgg9
 z9:=Tryz.sizeOf9
 v9:=Tryz.zeroValue9
 t24:=Tryz.underlying101
 a24:=Tryz.isAgg101
 z24:=Tryz.sizeOf101
 v24:=Tryz.zeroValue101
 t40:=Tryz.underlying230
 a40:=Tryz.isAgg230
 z40:=Tryz.sizeOf230
 v40:=Tryz.zeroValue230 }
open Go.RowKit in
theorem Tryz.slices_BinarySearch (b off n c:Nat) (Sx:Nat→ByteArray) (x:ByteArray) (w:World) (hbig:n<4611686018427387904) (hc:∀j,j<n→w.cell? ⟨b,off+j,none⟩=some (.string (Sx j))):
  Calls Tryz.prog 262 #[.slice (some ⟨b,off,none⟩) n c,.string x] w fun e w'=>
   e= .returned (.tuple #[.int .i64 (Lib.bsGo (fun t=>Op.bytesLess (Sx t).toList x.toList) n 0 n:Nat),.bool (decide (Lib.bsGo (fun t=>Op.bytesLess (Sx t).toList x.toList) n 0 n<n∧Sx (Lib.bsGo (fun t=>Op.bytesLess (Sx t).toList x.toList) n 0 n)=x))])∧∃q,w'=w.drewN q:=Any2.slices_BinarySearch_string Tryz.lays26 b off n c Sx x w hbig hc
end
namespace Lx
def kwAt (t:Nat):List UInt8:=kwNames.getD t [255]
def kwStr (t:Nat):ByteArray:=⟨(kwAt t).toArray⟩
def kwVals:List Value:=kwNames.map fun l=> .string ⟨l.toArray⟩
theorem kwVals_get (k:Nat) (h:k<47):kwVals[k]? =some (.string (kwStr k)):=by
 have h':k<kwNames.length:=h
 unfold kwVals kwStr kwAt
 rw[List.getElem?_map,List.getD_eq_getElem?_getD,List.getElem?_eq_getElem h']
 rfl
theorem str_list (l:List UInt8):(⟨l.toArray⟩:ByteArray).toList=l:=by rw[ByteArray.toList_eq]
theorem kwStr_list (k:Nat):(kwStr k).toList=kwAt k:=str_list _
theorem kw_sorted:(List.range 47).all (fun j=> (List.range 48).all fun t=>Op.bytesLess (kwAt t) (kwAt j)==decide (t<j))=true:=by decide+kernel
theorem kw_less (j t:Nat) (hj:j<47):Op.bytesLess (kwAt t) (kwAt j)=decide (t<j):=by
 have h1:=List.all_eq_true.1 (List.all_eq_true.1 kw_sorted j (List.mem_range.2 hj))
 rcases Nat.lt_or_ge t 48 with h|h
 ·exact eq_of_beq (h1 t (List.mem_range.2 h))
 ·have h47:=eq_of_beq (h1 47 (List.mem_range.2 (by omega)))
  have e:kwAt t=kwAt 47:=by
   unfold kwAt
   rw[List.getD_eq_getElem?_getD,List.getD_eq_getElem?_getD,List.getElem?_eq_none (show kwNames.length≤t from Nat.le_trans (by decide) h),List.getElem?_eq_none (show kwNames.length≤47 from Nat.le_refl _)]
  rw[e,h47]
  apply decide_eq_decide.2
  omega
theorem kw_search (x:List UInt8):decide (Lib.bsGo (fun t=>Op.bytesLess (kwStr t).toList (⟨x.toArray⟩:ByteArray).toList) 47 0 47<47∧kwStr (Lib.bsGo (fun t=>Op.bytesLess (kwStr t).toList (⟨x.toArray⟩:ByteArray).toList) 47 0 47)=⟨x.toArray⟩)=decide (x∈kwNames):=by
 by_cases h:x∈kwNames
 ·obtain⟨j,hj,hx⟩:=List.getElem_of_mem h
  have hj':j<47:=hj
  have e:x=kwAt j:=by unfold kwAt;rw[List.getD_eq_getElem?_getD,List.getElem?_eq_getElem hj,hx];rfl
  have hb:Lib.bsGo (fun t=>Op.bytesLess (kwStr t).toList (⟨x.toArray⟩:ByteArray).toList) 47 0 47=j:=by
   apply Lib.bsGo_spec _ j
   ·intro t ht
    show Op.bytesLess (kwStr t).toList _=true
    rw[kwStr_list,str_list,e,kw_less j t hj',decide_eq_true ht]
   ·intro t ht
    show Op.bytesLess (kwStr t).toList _=false
    rw[kwStr_list,str_list,e,kw_less j t hj',decide_eq_false (by omega)]
   ·omega
   ·omega
   ·omega
  rw[hb,decide_eq_true h,decide_eq_true]
  refine⟨hj',?_⟩
  unfold kwStr
  rw[e]
 ·rw[decide_eq_false h]
  apply decide_eq_false
  generalize Lib.bsGo _ 47 0 47=I
  rintro⟨h1,h2⟩
  apply h
  have h3:=congrArg ByteArray.toList h2
  rw[kwStr_list,str_list]at h3
  rw[←h3]
  unfold kwAt
  rw[List.getD_eq_getElem?_getD,List.getElem?_eq_getElem (show I<kwNames.length from h1)]
  exact List.getElem_mem _
def KwAt (w:World):Prop:=∃b off c,w.cell? ⟨0,0,none⟩=some (.slice (some ⟨b,off,none⟩) 47 c)∧∀j,j<47→w.cell? ⟨b,off+j,none⟩=some (.string (kwStr j))
theorem KwAt.ext {w w':World} (h:KwAt w) (hx:Ext w w'):KwAt w':=by
 obtain⟨b,off,c,h1,h2⟩:=h
 exact⟨b,off,c,hx.keep h1,fun j hj=>hx.keep (h2 j hj)⟩
theorem search_any (b off c:Nat) (x:List UInt8) (w:World) (h:∀j,j<47→w.cell? ⟨b,off+j,none⟩=some (.string (kwStr j))):
  ∃I:Int,∀(y:Later w),Calls Tryz.prog 262 #[.slice (some ⟨b,off,none⟩) 47 c,.string ⟨x.toArray⟩] y.now fun e w'=>e= .returned (.tuple #[.int .i64 I,.bool (decide (x∈kwNames))])∧Ext y.now w':=by
 refine⟨((Lib.bsGo (fun t=>Op.bytesLess (kwStr t).toList (⟨x.toArray⟩:ByteArray).toList) 47 0 47:Nat):Int),fun y=>?_⟩
 refine(Tryz.slices_BinarySearch b off 47 c kwStr ⟨x.toArray⟩ y.now (by decide) fun j hj=>y.ext.keep (h j hj)).mono ?_
 rintro e w' ⟨rfl,q,rfl⟩
 refine⟨?_,(Ext.refl _).drewN q⟩
 rw[kw_search]
theorem keyword_any (s:ByteArray) (w:World) (hs:s.size≤20000) (hk:KwAt w):Calls Tryz.prog 229 #[.string s] w fun e w'=>e= .returned (.bool (isKw s.data.toList))∧Ext w w':=by
 obtain⟨b,off,c,h1,h2⟩:=hk
 obtain⟨I,hI⟩:=search_any b off c (s.data.toList.map upC) w h2
 have hg:=Later.keep h1
 have HI:=hid hI
 clear hI h2
 go_enter Tryz.func229,Tryz.ntmps229
 go_wp2_with fail
 refine wp_region_later (by kernel_rfl) (by kernel_rfl) ?_
 repeat (go_big_quiet_step ((first|(go_at_call 230;exact later_of (upper_any s _ hs))|(go_at_call 262;exact later_of (HI.out _)))))
 refine wpQuiet_nil ?_
 intro w' hw'
 have hx:=later_out hw'
 clear hw' hg h1
 go_wp2_with fail
 go_ret
 exact⟨rfl,hx⟩
theorem keywords_any (w:World):Calls Tryz.prog 224 #[] w fun e w'=>e= .returned (.slice (some ⟨w.heap.size,0,none⟩) 47 47)∧Ext w w'∧Blk w' w.heap.size 9 kwVals:=by
 go_enter Tryz.func224,Tryz.ntmps224
 go_wp2_with fail
 go_ret
 exact⟨rfl,(Ext.refl w).alloc _,Blk.of_new w 9 kwVals⟩
theorem rkeyword_any (s:ByteArray) (w:World) (hs:s.size≤20000):Calls Tryz.prog 164 #[.string s] w fun e w'=>e= .returned (.bool (isKw s.data.toList))∧Ext w w':=by
 go_enter Tryz.func164,Tryz.ntmps164
 go_wp2_with fail
 refine(keywords_any _).mono ?_
 rintro e w1 ⟨rfl,hx1,hb1⟩
 go_wp2_with fail
 go_loopw [4] (fun i wr=> ∃k:Nat,k≤47∧i= .int .i64 k∧(∀j,j<k→kwAt j≠s.data.toList.map upC)∧Ext w1 wr) (fun i _=>47- (intOf i).toNat)
 case atStart=>exact⟨0,Nat.zero_le _,rfl,fun j hj=>absurd hj (Nat.not_lt_zero _),Ext.refl _⟩
 case round=>
  obtain⟨k,hk,rfl,hno,hxr⟩:=hrel
  have HNO:=hid hno
  clear hno
  by_cases hlt:k<47
  ·have hc:=(hb1.ext hxr).cell_some (kwVals_get k hlt)
   have hck:=Later.keep hc
   by_cases he:kwAt k=s.data.toList.map upC
   ·have be:((kwStr k).toList==s.data.toList.map upC)=true:=by rw[kwStr_list,beq_iff_eq];exact he
    have HR:Hid (isKw s.data.toList=true):=by
     unfold Hid isKw
     apply decide_eq_true
     rw[←he]
     unfold kwAt
     rw[List.getD_eq_getElem?_getD,List.getElem?_eq_getElem (show k<kwNames.length from hlt)]
     exact List.getElem_mem _
    clear he
    go_wp2_with fail
    refine wp_region_later (by kernel_rfl) (by kernel_rfl) ?_
    repeat (go_big_quiet_step ((go_at_call 165;exact later_of (rupper_any s _ hs))))
    refine wpQuiet_nil ?_
    intro w' hw'
    have hx:=later_out hw'
    clear hw' hc hck
    go_wp2_with fail
    go_ret
    exact⟨ret_bool HR.out.symm,hx1.trans (hxr.trans hx)⟩
   ·have be:((kwStr k).toList==s.data.toList.map upC)=false:=by rw[kwStr_list,beq_eq_false_iff_ne];exact he
    have HE:=hid he
    clear he
    go_wp2_with fail
    refine wp_region_later (by kernel_rfl) (by kernel_rfl) ?_
    repeat (go_big_quiet_step ((go_at_call 165;exact later_of (rupper_any s _ hs))))
    refine wpQuiet_nil ?_
    intro w' hw'
    have hx:=later_out hw'
    clear hw' hc hck
    go_wp2_with fail
    go_roundw
    case rel=>
     refine⟨k+1,by omega,by go_num,fun j hj=>?_,hxr.trans hx⟩
     rcases Nat.lt_or_ge j k with h|h
     ·exact HNO.out j h
     ·obtain rfl:j=k:=by omega
      exact HE.out
    case measure=>simp[intOf];omega
  ·go_wp2_with fail
   go_ret
   refine⟨ret_bool ?_,hx1.trans hxr⟩
   obtain rfl:k=47:=by omega
   unfold isKw
   symm
   apply decide_eq_false
   intro hm
   obtain⟨j,hj,hx⟩:=List.getElem_of_mem hm
   refine HNO.out j hj ?_
   unfold kwAt
   rw[List.getD_eq_getElem?_getD,List.getElem?_eq_getElem hj,hx]
   rfl
end Lx
end Go.Proofs.YtjigcpfjhfoheaaGreatDoor
