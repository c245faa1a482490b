/- Walks over the lexer: the classes of bytes; Walks over the lexer's reference: Text; Walks over the lexer: span; Plain laws: a pure lexer; Plain laws over the pure lexer: offsets shifted, two strings joined, the case of letters; Pl. -/
import Derived.Test.YtjigcpfjhfoheaaGreatDoorRaa
import Derived.WalkSmall
import Derived.Test.YtjigcpfjhfoheaaGreatDoorProg
import Derived.Shelf.Spec.SearchS
import Derived.BigQuiet
import Derived.Test.YtjigcpfjhfoheaaGreatDoorShelf
namespace Go.Proofs.YtjigcpfjhfoheaaGreatDoor
open Go.RowKit
set_option maxHeartbeats 4000000
set_option maxRecDepth 100000
set_option linter.unusedVariables false
set_option linter.unusedSimpArgs false
namespace Lx
def isLetter (c:UInt8):Bool:=(97≤c.toNat&&c.toNat≤122)||(65≤c.toNat&&c.toNat≤90)
def isDigit (c:UInt8):Bool:=48≤c.toNat&&c.toNat≤57
def inWord (c:UInt8):Bool:=isLetter c||isDigit c||c.toNat==95
theorem ed (c:UInt8) (w:World):Calls Tryz.prog 171 #[.int .u8 c.toNat] w fun e w'=>e= .returned (.bool (isLetter c))∧w'=w:=by
 go_enter Tryz.func171,Tryz.ntmps171
 go_wp2_with fail
 all_goals
  go_ret
  refine⟨aa ?_,rfl⟩
  unfold isLetter
  grind
theorem dV (c:UInt8) (w:World):Calls Tryz.prog 173 #[.int .u8 c.toNat] w fun e w'=>e= .returned (.bool (isDigit c))∧w'=w:=by
 go_enter Tryz.func173,Tryz.ntmps173
 go_wp2_with fail
 all_goals
  go_ret
  refine⟨aa ?_,rfl⟩
  unfold isDigit
  grind
theorem fo (c:UInt8) (w:World):Calls Tryz.prog 228 #[.int .u8 c.toNat] w fun e w'=>e= .returned (.bool (inWord c))∧w'=w:=by
 have f:=hid (ed c)
 have b:=hid (dV c)
 cases a:isLetter c<;>cases hd:isDigit c
 all_goals
  go_enter Tryz.func228,Tryz.ntmps228
  go_wp2_with (first
   |(go_at_call 171;refine(f _).mono ?_;rintro e g ⟨rfl,rfl⟩;rw[a])
   |(go_at_call 173;refine(b _).mono ?_;rintro e g ⟨rfl,rfl⟩;rw[hd]))
  all_goals
   go_ret
   refine⟨aa ?_,rfl⟩
   unfold inWord
   rw[a,hd]
   grind
end Lx
namespace Lx
theorem take1 (t:ByteArray) (k:Nat) (h:k<t.size):t.data.toList.take (k+1)=t.data.toList.take k++ [t[k]]:=by
 have a:k<t.data.toList.length:=by simpa using h
 rw[List.take_succ_eq_append_getElem a]
 rfl
end Lx
namespace Lx
def spanN (f:UInt8→Bool):List UInt8→Nat
 | []=>0
 |c::r=>if f c=true then spanN f r+1 else 0
theorem span_word (s:ByteArray) (w:World) (hs:s.size≤maxLen):Calls Tryz.prog 227 #[.string s,.func (.func 228) #[] #[]] w fun e w'=>e= .returned (.int .i64 (spanN inWord s.data.toList))∧w'=w:=by
 unfold maxLen at hs
 go_enter Tryz.func227,Tryz.ntmps227
 go_wp2_with fail
 go_loop [5] (fun i=> ∃k:Nat,k≤s.size∧i= .int .i64 k∧spanN inWord s.data.toList=k+spanN inWord (s.data.toList.drop k)) (fun i=>s.size- (intOf i).toNat)
 case atStart=>exact⟨0,Nat.zero_le _,rfl,by simp⟩
 case round=>
  obtain⟨k,l,rfl,h⟩:=hrel
  have b:=hid h
  clear h
  by_cases f:k<s.size
  ·have g:Hid (s.data.toList.drop k=s[k]::s.data.toList.drop (k+1)):=List.drop_eq_getElem_cons (show k<s.data.toList.length from f)
   cases a:inWord s[k]
   ·go_wp2_with (go_at_call 228;refine(fo s[k] _).mono ?_;rintro e j ⟨rfl,rfl⟩;rw[a])
    go_ret
    refine⟨aS ?_,rfl⟩
    rw[b.out,g.out,spanN,if_neg (by rw[a];decide)]
    omega
   ·go_wp2_with (go_at_call 228;refine(fo s[k] _).mono ?_;rintro e j ⟨rfl,rfl⟩;rw[a])
    go_round
    case rel=>
     refine⟨k+1,by omega,by go_num,?_⟩
     rw[b.out,g.out,spanN,if_pos a]
     omega
    case measure=>simp[intOf];omega
  ·obtain rfl:k=s.size:=by omega
   go_wp2_with fail
   go_ret
   refine⟨aS ?_,rfl⟩
   rw[b.out,List.drop_of_length_le (show s.data.toList.length≤s.size from Nat.le_refl _),spanN]
   omega
theorem qn (s:ByteArray) (w:World) (hs:s.size≤maxLen):Calls Tryz.prog 227 #[.string s,.func (.func 173) #[] #[]] w fun e w'=>e= .returned (.int .i64 (spanN isDigit s.data.toList))∧w'=w:=by
 unfold maxLen at hs
 go_enter Tryz.func227,Tryz.ntmps227
 go_wp2_with fail
 go_loop [5] (fun i=> ∃k:Nat,k≤s.size∧i= .int .i64 k∧spanN isDigit s.data.toList=k+spanN isDigit (s.data.toList.drop k)) (fun i=>s.size- (intOf i).toNat)
 case atStart=>exact⟨0,Nat.zero_le _,rfl,by simp⟩
 case round=>
  obtain⟨k,l,rfl,h⟩:=hrel
  have b:=hid h
  clear h
  by_cases f:k<s.size
  ·have g:Hid (s.data.toList.drop k=s[k]::s.data.toList.drop (k+1)):=List.drop_eq_getElem_cons (show k<s.data.toList.length from f)
   cases a:isDigit s[k]
   ·go_wp2_with (go_at_call 173;refine(dV s[k] _).mono ?_;rintro e j ⟨rfl,rfl⟩;rw[a])
    go_ret
    refine⟨aS ?_,rfl⟩
    rw[b.out,g.out,spanN,if_neg (by rw[a];decide)]
    omega
   ·go_wp2_with (go_at_call 173;refine(dV s[k] _).mono ?_;rintro e j ⟨rfl,rfl⟩;rw[a])
    go_round
    case rel=>
     refine⟨k+1,by omega,by go_num,?_⟩
     rw[b.out,g.out,spanN,if_pos a]
     omega
    case measure=>simp[intOf];omega
  ·obtain rfl:k=s.size:=by omega
   go_wp2_with fail
   go_ret
   refine⟨aS ?_,rfl⟩
   rw[b.out,List.drop_of_length_le (show s.data.toList.length≤s.size from Nat.le_refl _),spanN]
   omega
def isPrint (c:UInt8):Bool:=32≤c.toNat&&c.toNat≤126
end Lx
namespace Lx
def upC (c:UInt8):UInt8:=if 97≤c.toNat∧c.toNat≤122 then c-32 else c
def loC (c:UInt8):UInt8:=if 65≤c.toNat∧c.toNat≤90 then c+32 else c
def kwNames:List (List UInt8):= [
 [65,78,68],
 [65,83],
 [65,83,67],
 [66,69,71,73,78],
 [66,69,84,87,69,69,78],
 [66,89],
 [67,72,69,67,75],
 [67,79,77,77,73,84],
 [67,79,85,78,84],
 [67,82,69,65,84,69],
 [68,69,76,69,84,69],
 [68,69,83,67],
 [70,79,82,69,73,71,78],
 [70,82,79,77],
 [71,82,79,85,80],
 [73,78],
 [73,78,83,69,82,84],
 [73,78,84,69,71,69,82],
 [73,78,84,79],
 [73,83],
 [74,79,73,78],
 [75,69,89],
 [76,69,78,71,84,72],
 [76,73,75,69],
 [76,73,77,73,84],
 [77,65,88],
 [77,73,78],
 [78,79,84],
 [78,85,76,76],
 [79,78],
 [79,82],
 [79,82,68,69,82],
 [80,82,73,77,65,82,89],
 [82,69,70,69,82,69,78,67,69,83],
 [82,69,76,69,65,83,69],
 [82,79,76,76,66,65,67,75],
 [83,65,86,69,80,79,73,78,84],
 [83,69,76,69,67,84],
 [83,69,84],
 [83,85,77],
 [84,65,66,76,69],
 [84,69,88,84],
 [84,79],
 [85,78,73,81,85,69],
 [85,80,68,65,84,69],
 [86,65,76,85,69,83],
 [87,72,69,82,69]]
def isKw (l:List UInt8):Bool:=decide (l.map upC∈kwNames)
def digVal (l:List UInt8):Nat:=l.foldl (fun v c=>10*v+(c.toNat-48)) 0
def syms:List UInt8:= [40,41,44,59,46,42,43,45,47,37,61,60,62]
def symN:List UInt8→Nat
 | []=>0
 | [c]=>if c∈syms then 1 else 0
 |c::d::_=>if (c=60∧d=62)∨(c=60∧d=61)∨(c=62∧d=61)then 2 else if c∈syms then 1 else 0
def litF:List UInt8→List UInt8→Nat→Option (List UInt8×Nat)
 | [],_,_=>none
 |c::r,X,i=>
  if isPrint c=false then none
  else if c.toNat=39 then
   match r with
   | []=>some (X,i+1)
   |d::r'=>if d.toNat=39 then litF r' (X++ [d]) (i+1+1)else some (X,i+1)
  else litF r (X++ [c]) (i+1)
theorem lit_cons (c:UInt8) (r X:List UInt8) (i:Nat):litF (c::r) X i=
  if isPrint c=false then none
  else if c.toNat=39 then
   (match r with
   | []=>some (X,i+1)
   |d::r'=>if d.toNat=39 then litF r' (X++ [d]) (i+1+1)else some (X,i+1))
  else litF r (X++ [c]) (i+1):=by rw[litF.eq_def]
inductive TR where
 |bad (e:Nat)
 |tok (kind:Nat) (text:List UInt8) (n:Nat)
def headW:List UInt8→Bool
 | []=>false
 |c::_=>inWord c
def wordL (l:List UInt8):TR:=
 if isKw (l.take (spanN inWord l))=true then .tok 2 ((l.take (spanN inWord l)).map upC) (spanN inWord l)
 else if 24<spanN inWord l then .bad 3
 else .tok 1 ((l.take (spanN inWord l)).map loC) (spanN inWord l)
def numL (l:List UInt8):TR:=
 if (1<spanN isDigit l∧l.head? =some 48)∨headW (l.drop (spanN isDigit l))=true then .bad 2
 else if 2147483648<digVal (l.take (spanN isDigit l))then .bad 3
 else .tok 3 (l.take (spanN isDigit l)) (spanN isDigit l)
def textL (r:List UInt8):TR:=
 match litF r [] 1 with
 |none=> .bad 2
 |some (X,i)=>if 16<X.length then .bad 3 else .tok 4 X i
def symL (l:List UInt8):TR:=if symN l=0 then .bad 2 else .tok 5 (l.take (symN l)) (symN l)
def tokL:List UInt8→TR
 | []=> .bad 2
 |c::r=>
  if isLetter c=true then wordL (c::r)
  else if isDigit c=true then numL (c::r)
  else if c.toNat=39 then textL r
  else symL (c::r)
def skipN:Bool→List UInt8→Nat
 |_,[]=>0
 |true,c::r=>if c.toNat=10 then skipN false r+1 else skipN true r+1
 |false,c::r=>
  if c.toNat=32∨c.toNat=9∨c.toNat=10 then skipN false r+1
  else if c.toNat=45∧r.head? =some 45 then skipN true r+1
  else 0
structure Tk where
 kind:Nat
 text:List UInt8
 pos:Nat
inductive Ls where
 |bad (at_ e:Nat)
 |ok (l:List Tk)
def Ls.pre (o:List Tk):Ls→Ls
 | .bad a e=> .bad a e
 | .ok l=> .ok (o++l)
def toksF:Nat→List UInt8→Nat→Ls
 |0,_,p=> .bad p 0
 |f+1,l,p=>
  match l.drop (skipN false l)with
  | []=> .ok [⟨0,[],p+skipN false l⟩]
  |c::r=>
   match tokL (c::r)with
   | .bad e=> .bad (p+skipN false l) e
   | .tok k x n=> (toksF f ((c::r).drop n) (p+skipN false l+n)).pre [⟨k,x,p+skipN false l⟩]
def T (l:List UInt8) (p:Nat):Ls:=toksF (l.length+1) l p
theorem span_le (f:UInt8→Bool):∀l:List UInt8,spanN f l≤l.length
 | []=>Nat.le_refl _
 |c::r=>by
  rw[spanN]
  have:=span_le f r
  split
  ·rw[List.length_cons];omega
  ·exact Nat.zero_le _
theorem span_all (f:UInt8→Bool):∀l:List UInt8,∀c∈l.take (spanN f l),f c=true
 | []=>by intro c h;simp at h
 |d::r=>by
  intro c h
  rw[spanN]at h
  split at h
  ·rw[List.take_succ_cons]at h
   rcases List.mem_cons.1 h with rfl|h
   ·assumption
   ·exact span_all f r c h
  ·simp at h
theorem span_pos (f:UInt8→Bool) (c:UInt8) (r:List UInt8) (h:f c=true):1≤spanN f (c::r):=by
 rw[spanN,if_pos h];omega
theorem skip_le:∀(b:Bool) (l:List UInt8),skipN b l≤l.length
 |_,[]=>by cases ‹Bool› <;>exact Nat.le_refl _
 |true,c::r=>by
  rw[skipN,List.length_cons]
  have a:=skip_le true r
  have e:=skip_le false r
  split<;>omega
 |false,c::r=>by
  rw[skipN,List.length_cons]
  have a:=skip_le true r
  have e:=skip_le false r
  split
  ·omega
  ·split<;>omega
theorem sym_le (l:List UInt8):symN l≤l.length:=by
 match l with
 | []=>exact Nat.le_refl _
 | [c]=>rw[symN];split<;>simp
 |c::d::r=>
  rw[symN]
  simp only[List.length_cons]
  split
  ·omega
  ·split<;>omega
theorem lit_bound:∀(l X:List UInt8) (i:Nat) (Y:List UInt8) (j:Nat),litF l X i=some (Y,j)→i+1≤j∧j≤i+l.length∧Y.length+i+1≤X.length+j
 | [],X,i,Y,j=>by intro h;simp[litF]at h
 | [c],X,i,Y,j=>by
  intro h
  rw[litF]at h
  split at h
  ·exact absurd h (by simp)
  split at h
  ·simp only[Option.some.injEq,Prod.mk.injEq]at h
   obtain⟨rfl,rfl⟩:=h
   simp only[List.length_cons,List.length_nil]
   omega
  ·simp[litF]at h
 |c::d::r,X,i,Y,j=>by
  intro h
  rw[litF]at h
  simp only[List.length_cons]
  split at h
  ·exact absurd h (by simp)
  split at h
  ·split at h
   ·have:=lit_bound r _ _ Y j h
    simp only[List.length_append,List.length_cons,List.length_nil]at this
    omega
   ·simp only[Option.some.injEq,Prod.mk.injEq]at h
    obtain⟨rfl,rfl⟩:=h
    omega
  ·have:=lit_bound (d::r) _ _ Y j h
   simp only[List.length_append,List.length_cons,List.length_nil]at this
   omega
theorem tok_bound (c:UInt8) (r:List UInt8) (k:Nat) (x:List UInt8) (n:Nat) (h:tokL (c::r)= .tok k x n):1≤n∧n≤(c::r).length:=by
 rw[tokL]at h
 split at h
 ·rename_i hc
  have f:inWord c=true:=by unfold inWord;rw[hc];rfl
  have b:=span_pos inWord c r f
  have a:=span_le inWord (c::r)
  unfold wordL at h
  split at h
  ·cases h;exact⟨b,a⟩
  ·split at h
   ·cases h
   ·cases h;exact⟨b,a⟩
 split at h
 ·rename_i hc
  have b:=span_pos isDigit c r hc
  have a:=span_le isDigit (c::r)
  unfold numL at h
  split at h
  ·cases h
  ·split at h
   ·cases h
   ·cases h;exact⟨b,a⟩
 split at h
 ·unfold textL at h
  cases e:litF r [] 1 with
  |none=>rw[e]at h;cases h
  |some q=>
   obtain⟨X,i⟩:=q
   have:=lit_bound r [] 1 X i e
   rw[e]at h
   simp only at h
   split at h
   ·cases h
   ·cases h
    rw[List.length_cons];omega
 ·unfold symL at h
  have a:=sym_le (c::r)
  split at h
  ·cases h
  ·cases h
   omega
theorem oS:∀(f g:Nat) (l:List UInt8) (p:Nat),l.length<f→l.length<g→toksF f l p=toksF g l p
 |0,_,l,p=>by intro h;omega
 |_+1,0,l,p=>by intro _ h;omega
 |f+1,g+1,l,p=>by
  intro i j
  rw[toksF,toksF]
  cases hd:l.drop (skipN false l)with
  |nil=>rfl
  |cons c r=>
   simp only
   cases a:tokL (c::r)with
   |bad e=>rfl
   |tok k x n=>
    simp only
    have b:=tok_bound c r k x n a
    have m:(c::r).length≤l.length:=by rw[←hd,List.length_drop];omega
    rw[oS f g _ _ (by rw[List.length_drop];omega) (by rw[List.length_drop];omega)]
theorem T_eq (l:List UInt8) (p:Nat):T l p=
  (match l.drop (skipN false l)with
  | []=> .ok [⟨0,[],p+skipN false l⟩]
  |c::r=>
   match tokL (c::r)with
   | .bad e=> .bad (p+skipN false l) e
   | .tok k x n=> (T ((c::r).drop n) (p+skipN false l+n)).pre [⟨k,x,p+skipN false l⟩]):=by
 unfold T
 rw[toksF]
 cases hd:l.drop (skipN false l)with
 |nil=>rfl
 |cons c r=>
  simp only
  cases a:tokL (c::r)with
  |bad e=>rfl
  |tok k x n=>
   simp only
   have b:=tok_bound c r k x n a
   have f:(c::r).length≤l.length:=by rw[←hd,List.length_drop];omega
   rw[oS l.length (((c::r).drop n).length+1) _ _ (by rw[List.length_drop];omega) (by omega)]
theorem T_end (l:List UInt8) (p:Nat) (h:l.drop (skipN false l)= []):T l p= .ok [⟨0,[],p+skipN false l⟩]:=by
 rw[T_eq,h]
theorem T_bad (l:List UInt8) (p:Nat) (c:UInt8) (r:List UInt8) (e:Nat) (h:l.drop (skipN false l)=c::r) (a:tokL (c::r)= .bad e):T l p= .bad (p+skipN false l) e:=by
 rw[T_eq,h];simp only;rw[a]
theorem T_tok (l:List UInt8) (p:Nat) (c:UInt8) (r:List UInt8) (k:Nat) (x:List UInt8) (n:Nat) (h:l.drop (skipN false l)=c::r) (a:tokL (c::r)= .tok k x n):
  T l p=(T ((c::r).drop n) (p+skipN false l+n)).pre [⟨k,x,p+skipN false l⟩]:=by
 rw[T_eq,h];simp only;rw[a]
theorem pre_pre (a b:List Tk) (x:Ls):(x.pre b).pre a=x.pre (a++b):=by
 cases x<;>simp[Ls.pre]
def tokAll (s:ByteArray):Ls:=if 16384<s.size then .bad 16384 3 else T s.data.toList 0
end Lx
namespace Lx
def Tk.sh (d:Nat) (t:Tk):Tk:=⟨t.kind,t.text,t.pos+d⟩
def Ls.sh (d:Nat):Ls→Ls
 | .bad a e=> .bad (a+d) e
 | .ok l=> .ok (l.map (Tk.sh d))
theorem T_skip (l a:List UInt8) (p b:Nat) (e:l.drop (skipN false l)=a.drop (skipN false a)) (f:p+skipN false l=b+skipN false a):T l p=T a b:=by
 rw[T_eq l p,T_eq a b,e,f]
theorem upC_num (c:UInt8):(upC c).toNat=if 97≤c.toNat∧c.toNat≤122 then c.toNat-32 else c.toNat:=by
 unfold upC
 split
 ·rename_i h
  rw[UInt8.toNat_sub_of_le _ _ (by rw[UInt8.le_iff_toNat_le];have:(32:UInt8).toNat=32:=rfl;omega)]
  rfl
 ·rfl
theorem loC_num (c:UInt8):(loC c).toNat=if 65≤c.toNat∧c.toNat≤90 then c.toNat+32 else c.toNat:=by
 unfold loC
 split
 ·rename_i h
  rw[UInt8.toNat_add]
  have:(32:UInt8).toNat=32:=rfl
  omega
 ·rfl
theorem num_ext (c d:UInt8) (h:c.toNat=d.toNat):c=d:=UInt8.toNat_inj.1 h
theorem up_letter (c:UInt8):isLetter (upC c)=isLetter c:=by
 unfold isLetter
 have h:=upC_num c
 split at h<;>grind
end Lx
namespace Lx
def lowW (c:UInt8):Bool:=(97≤c.toNat&&c.toNat≤122)||isDigit c||c.toNat==95
def nameP (l:List UInt8):Bool:=
 match l with
 | []=>false
 |c::r=>decide (l.length≤24) && (decide (97≤c.toNat) &&decide (c.toNat≤122)) &&l.all lowW&&!(isKw l)
theorem low_word (c:UInt8) (h:lowW c=true):inWord c=true∧loC c=c:=by
 constructor
 ·unfold lowW at h
  unfold inWord isLetter
  grind
 ·apply num_ext
  have a:=loC_num c
  unfold lowW isDigit at h
  split at a
  ·grind
  ·exact a
theorem letter_word (c:UInt8) (h:isLetter c=true):inWord c=true:=by unfold inWord;rw[h];rfl
theorem letter_skip (c:UInt8) (r:List UInt8) (h:isLetter c=true):skipN false (c::r)=0:=by
 rw[skipN]
 unfold isLetter at h
 rw[if_neg (by grind),if_neg (by grind)]
theorem kw_letters:∀k∈kwNames,k≠[]∧∀c∈k,isLetter c=true:=by
 have:(kwNames.all fun k=>!k.isEmpty&&k.all isLetter)=true:=by decide
 intro k a
 have h:=List.all_eq_true.1 this k a
 rw[Bool.and_eq_true,List.all_eq_true]at h
 refine⟨?_,h.2⟩
 rintro rfl
 exact absurd h.1 (by decide)
def flat:List UInt8→List UInt8
 | []=> []
 |c::r=>if c.toNat=39 then c::c::flat r else c::flat r
theorem dv_from (l:List UInt8):∀v,l.foldl (fun v c=>10*v+(c.toNat-48)) v=v*10^l.length+digVal l:=by
 unfold digVal
 induction l with
 |nil=>intro v;simp
 |cons c r ih=>
  intro v
  rw[List.foldl_cons,List.foldl_cons,ih,ih (10*0+_),List.length_cons,Nat.pow_succ,Nat.add_mul]
  have:10*v*10^r.length=v* (10^r.length*10):=by rw[Nat.mul_comm 10 v,Nat.mul_assoc,Nat.mul_comm 10]
  rw[this]
  simp only[Nat.mul_zero,Nat.zero_add]
  omega
theorem dv_cons (c:UInt8) (r:List UInt8):digVal (c::r)=(c.toNat-48)*10^r.length+digVal r:=by
 have:=dv_from r (10*0+(c.toNat-48))
 rw[Nat.mul_zero,Nat.zero_add]at this
 rw[←this]
 show List.foldl _ _ _=_
 rw[List.foldl_cons,Nat.mul_zero,Nat.zero_add]
end Lx
namespace Lx
def nH:Option (List UInt8×Nat)→Value
 |some (X,i)=> .tuple #[.string ⟨X.toArray⟩,.int .i64 i]
 |none=> .tuple #[.string ⟨#[]⟩,.int .i64 (-1)]
def litS (s:ByteArray) (k:Nat):Value:=nH (litF (s.data.toList.drop (k+1)) [] (k+1))
theorem ext1 (t:ByteArray) (k:Nat) (h:k<t.size):(t.extract k (k+1)).data.toList= [t[k]]:=by
 have a:k<t.data.toList.length:=by simpa using h
 rw[Lib.extract_data]
 have:t.data.toList.drop k=t.data.toList[k]::t.data.toList.drop (k+1):=List.drop_eq_getElem_cons a
 rw[show k+1-k=1 by omega,this]
 rfl
theorem eG (s:ByteArray) (k:Nat) (h:k<s.size):s.data.toList.drop k=s[k]::s.data.toList.drop (k+1):=List.drop_eq_getElem_cons (show k<s.data.toList.length from h)
theorem lit_end (X:ByteArray) (k:Nat):Value.tuple #[.string X,.int .i64 ((k:Int)+1)]=nH (some (X.data.toList,k+1)):=by
 show _=Value.tuple #[.string ⟨X.data.toList.toArray⟩,.int .i64 ((k+1:Nat):Int)]
 congr
theorem literal_any (s:ByteArray) (a:Nat) (w:World) (hs:s.size≤20000) (I:a<s.size):
  Calls Tryz.prog 167 #[.string s,.int .i64 a] w fun e w'=>e= .returned (litS s a)∧w'=w:=by
 have C:Hid (litS s a=nH (litF (s.data.toList.drop (a+1)) [] (a+1))):=rfl
 generalize litS s a=V at*
 go_enter Tryz.func167,Tryz.ntmps167
 go_wp2_with fail
 go_loop [6,7] (fun x i=> ∃(k:Nat) (X:ByteArray),k≤s.size∧X.size≤k∧i= .int .i64 k∧x= .string X∧V=nH (litF (s.data.toList.drop k) X.data.toList k)) (fun _ i=>s.size- (intOf i).toNat)
 case atStart=>exact⟨a+1,⟨#[]⟩,I,Nat.zero_le _,by go_num,rfl,C⟩
 case round=>
  obtain⟨k,X,L,H,rfl,rfl,z⟩:=hrel
  have j:=hid z
  clear z
  by_cases h:k<s.size
  ·have l:=hid (eG s k h)
   have A:=hid (ext1 s k h)
   have F:(s.extract k (k+1)).size=1:=by
    show(s.extract k (k+1)).data.toList.length=1
    rw[ext1 s k h];rfl
   by_cases y:32≤s[k].toNat∧s[k].toNat≤126
   ·have p:Hid (isPrint s[k]=true):=by unfold Hid isPrint;simpa using y
    have f:Hid (¬isPrint s[k]=false):=by unfold Hid;rw[p.out];decide
    obtain⟨J,K⟩:=y
    by_cases o:s[k].toNat=39
    ·have D:((s[k].toNat:Int)==39)=true:=by rw[o];rfl
     have n:=hid o
     clear o
     by_cases u:k+1<s.size
     ·have m:=hid (eG s (k+1) u)
      have B:=hid (ext1 s (k+1) u)
      have G:(s.extract (k+1) (k+1+1)).size=1:=by
       show(s.extract (k+1) (k+1+1)).data.toList.length=1
       rw[ext1 s (k+1) u];rfl
      have r:((k:Int)+1==(s.size:Int))=false:=by rw[beq_eq_false_iff_ne];omega
      by_cases b:s[k+1].toNat=39
      ·have E:((s[k+1].toNat:Int)==39)=true:=by rw[b];rfl
       have t:((s[k+1].toNat:Int) !=39)=false:=by rw[b];rfl
       have g:=hid b
       clear b
       go_wp2_with fail
       all_goals first
        |(exfalso;simp only[r,t]at*;simp at*;done)
        |skip
       go_round
       case rel=>
        refine⟨k+1+1,X++s.extract (k+1) (k+1+1),by omega,?_,by go_num,rfl,?_⟩
        ·rw[ByteArray.size_append,G];omega
        ·rw[j.out,l.out,lit_cons,if_neg f.out,if_pos n.out,m.out]
         simp only
         rw[if_pos g.out]
         rw[ByteArray.data_append,Array.toList_append,B.out]
       case measure=>simp[intOf];omega
      ·have E:((s[k+1].toNat:Int)==39)=false:=by rw[beq_eq_false_iff_ne];omega
       have t:((s[k+1].toNat:Int) !=39)=true:=by rw[bne_iff_ne];omega
       have g:Hid (¬s[k+1].toNat=39):=b
       clear b
       go_wp2_with fail
       all_goals first
        |(exfalso;simp only[r,t]at*;simp at*;done)
        |skip
       go_ret2
       refine⟨?_,rfl⟩
       show Ending.returned (.tuple #[.string X,.int .i64 ((k:Int)+1)])=_
       rw[lit_end,j.out,l.out,lit_cons,if_neg f.out,if_pos n.out,m.out]
       simp only
       rw[if_neg g.out]
     ·have r:((k:Int)+1==(s.size:Int))=true:=by rw[beq_iff_eq];omega
      go_wp2_with fail
      go_ret2
      refine⟨?_,rfl⟩
      show Ending.returned (.tuple #[.string X,.int .i64 ((k:Int)+1)])=_
      rw[lit_end,j.out,l.out,lit_cons,if_neg f.out,if_pos n.out]
      rw[List.drop_of_length_le (show s.data.toList.length≤k+1 by show s.size≤_;omega)]
    ·have D:((s[k].toNat:Int)==39)=false:=by rw[beq_eq_false_iff_ne];omega
     have n:Hid (¬s[k].toNat=39):=o
     clear o
     go_wp2_with fail
     go_round
     case rel=>
      refine⟨k+1,X++s.extract k (k+1),by omega,?_,by go_num,rfl,?_⟩
      ·rw[ByteArray.size_append,F];omega
      ·rw[j.out,l.out,lit_cons,if_neg f.out,if_neg n.out]
       rw[ByteArray.data_append,Array.toList_append,A.out]
     case measure=>simp[intOf];omega
   ·have p:Hid (isPrint s[k]=false):=by
     unfold Hid isPrint
     rw[Bool.and_eq_false_iff]
     simp only[decide_eq_false_iff_not]
     omega
    go_wp2_with fail
    all_goals
     go_ret2
     refine⟨?_,rfl⟩
     rw[j.out,l.out,lit_cons,if_pos p.out]
     rfl
  ·go_wp2_with fail
   go_ret2
   refine⟨?_,rfl⟩
   rw[j.out,List.drop_of_length_le (show s.data.toList.length≤k by show s.size≤_;omega),litF]
   rfl
end Lx
namespace Lx
def BM (w:World) (g:Nat) (t:TypeId) (cs:List Value):Prop:=∃lo hi:Nat,cs.length≤lo∧w.heap[g]? =some (.cells cs.toArray t (lo,hi))
theorem BM.cell {w:World} {g:Nat} {t:TypeId} {cs:List Value} (h:BM w g t cs) {i:Nat} {v:Value} (a:cs[i]? =some v):w.cell? ⟨g,i,none⟩=some v:=by
 obtain⟨lo,hi,_,h⟩:=h
 simp[World.cell?,h,a]
theorem BM.frozen {w:World} {g:Nat} {t:TypeId} {cs:List Value} (h:BM w g t cs) {i:Nat} (hi:i<cs.length):w.frozen? ⟨g,i,none⟩=false:=by
 obtain⟨lo,a,b,h⟩:=h
 unfold World.frozen?
 rw[h]
 simp only[Bool.and_eq_false_iff,decide_eq_false_iff_not]
 left;omega
theorem BM.set {w:World} {g:Nat} {t:TypeId} {cs:List Value} (h:BM w g t cs) (i:Nat) (u:Value):BM (w.setCell ⟨g,i,none⟩ u) g t (cs.set i u):=by
 obtain⟨lo,hi,a,h⟩:=h
 refine⟨lo,hi,by rw[List.length_set];exact a,?_⟩
 simp[World.setCell,Array.getElem?_modify,h]
theorem BM.ext {w w':World} {g:Nat} {t:TypeId} {cs:List Value} (h:BM w g t cs) (b:Ext w w'):BM w' g t cs:=by
 obtain⟨lo,hi,a,h⟩:=h
 exact⟨lo,hi,a,(Below.block b g (Array.getElem?_eq_some_iff.1 h).1).trans h⟩
theorem BM.lt {w:World} {g:Nat} {t:TypeId} {cs:List Value} (h:BM w g t cs):g<w.heap.size:=by
 obtain⟨lo,hi,_,h⟩:=h
 exact(Array.getElem?_eq_some_iff.1 h).1
def b8 (l:List UInt8):List Value:=l.map fun c=> .int .u8 (c.toNat:Int)
theorem nI (l:List UInt8):(b8 l).length=l.length:=List.length_map _
theorem b8_get (l:List UInt8) (i:Nat) (h:i<l.length):(b8 l)[i]? =some (.int .u8 ((l[i].toNat:Nat):Int)):=by
 simp[b8,List.getElem?_map,List.getElem?_eq_getElem h]
theorem kB (l:List UInt8) (r:List Value) (i:Nat) (h:i<l.length):(b8 l++r)[i]? =some (.int .u8 ((l[i].toNat:Nat):Int)):=by
 rw[List.getElem?_append_left (by rw[nI];exact h),b8_get l i h]
theorem b8_set (l:List UInt8) (r:List Value) (i:Nat) (c:UInt8) (h:i<l.length):(b8 l++r).set i (.int .u8 (c.toNat:Int))=b8 (l.set i c)++r:=by
 rw[List.set_append_left _ _ (by rw[nI];exact h)]
 simp[b8,List.map_set]
theorem kU {P:Program} (w:World) (b a e:TypeId) (s:ByteArray) (hs:P.underlying b=some .string) (hd:P.underlying a=some (.slice e)) (i:P.underlying e=some (.int .u8)):
  ∃g f rest,(convert b a (.string s)).run P w= .ok (.slice (some ⟨w.heap.size,0,none⟩) s.size g) f∧Ext w f∧f.heap.size=w.heap.size+1∧BM f w.heap.size e (b8 s.data.toList++rest):=by
 refine⟨_,_,(Array.replicate (grownCap w s.size 0 e-s.size) (.int .u8 0)).toList,run_bytes_of_string w b a e s hs hd i,((Ext.refl w).drew).alloc _,by simp,?_⟩
 have h:b8 s.data.toList++(Array.replicate (grownCap w s.size 0 e-s.size) (Value.int .u8 0)).toList=(bytesRow s (grownCap w s.size 0 e)).toList:=by
  unfold bytesRow b8
  rw[Array.toList_append,Array.toList_map]
 rw[h]
 refine⟨(bytesRow s (grownCap w s.size 0 e)).size,(bytesRow s (grownCap w s.size 0 e)).size+1,Nat.le_of_eq (by rw[Array.length_toList]),?_⟩
 show(w.heap.push _)[w.heap.size]? =_
 simp
theorem strOf_b8 (l:List UInt8):strOfNums (l.map fun c=> (c.toNat:Int))=⟨l.toArray⟩:=by
 unfold strOfNums
 congr 1
 simp[Function.comp_def]
theorem oT {P:Program} {w:World} (b a e g f:Nat) (l:List UInt8) (r:List Value) (n:Nat) (k:n=l.length) (hs:P.underlying b=some (.slice e)) (j:P.underlying e=some (.int .u8)) (hd:P.underlying a=some .string)
  (h:BM w g e (b8 l++r)):(convert b a (.slice (some ⟨g,0,none⟩) n f)).run P w= .ok (.string ⟨l.toArray⟩) w:=by
 rw[run_convert_bytes_arg w b e hs j g 0 n f (l.map fun c=> (c.toNat:Int)) (by simp[k]) (fun i hi=>?_) a hd,strOf_b8]
 rw[Nat.zero_add,h.cell (kB l r i (by omega))]
 simp[List.getElem?_eq_getElem (show i<l.length by omega)]
def ef (f:UInt8→UInt8) (l:List UInt8) (k:Nat):List UInt8:=(l.take k).map f++l.drop k
theorem fT (f:UInt8→UInt8) (l:List UInt8) (k:Nat):(ef f l k).length=l.length:=by
 unfold ef
 rw[List.length_append,List.length_map,List.length_take,List.length_drop]
 omega
theorem kV (f:UInt8→UInt8) (s:ByteArray) (k:Nat) (h:k<s.size) (b:k<(ef f s.data.toList k).length):(ef f s.data.toList k)[k]=s[k]:=by
 have a:((s.data.toList.take k).map f).length=k:=by
  rw[List.length_map,List.length_take]
  have:s.data.toList.length=s.size:=rfl
  omega
 unfold ef at*
 rw[List.getElem_append_right (by omega)]
 simp only[a,Nat.sub_self]
 simp only[eG s k h,List.getElem_cons_zero]
theorem kW (f:UInt8→UInt8) (s:ByteArray) (k:Nat) (h:k<s.size):(ef f s.data.toList k).set k (f s[k])=ef f s.data.toList (k+1):=by
 have a:((s.data.toList.take k).map f).length=k:=by
  rw[List.length_map,List.length_take]
  have:s.data.toList.length=s.size:=rfl
  omega
 unfold ef
 rw[List.set_append_right _ _ (by omega),a,Nat.sub_self,eG s k h,List.set_cons_zero,take1 s k h,List.map_append,List.append_assoc]
 rfl
theorem mO (f:UInt8→UInt8) (s:ByteArray) (k:Nat) (h:k<s.size) (e:f s[k]=s[k]):ef f s.data.toList k=ef f s.data.toList (k+1):=by
 have a:k<(ef f s.data.toList k).length:=by rw[fT];exact h
 rw[←kW f s k h,e]
 conv=>rhs;rw[←kV f s k h a]
 exact(List.set_getElem_self a).symm
theorem oU (f:UInt8→UInt8) (s:ByteArray) (k:Nat) (h:k=s.size):ef f s.data.toList k=s.data.toList.map f:=by
 subst h
 unfold ef
 have e:s.data.toList.length=s.size:=rfl
 rw[List.take_of_length_le (Nat.le_of_eq e),List.drop_of_length_le (Nat.le_of_eq e),List.append_nil]
theorem mP (s:ByteArray) (w:World) (hs:s.size≤20000):Calls Tryz.prog 230 #[.string s] w fun e w'=>e= .returned (.string ⟨(s.data.toList.map upC).toArray⟩)∧Ext w w':=by
 obtain⟨o,E,rest,f,j,m,h⟩:=kU (P:=Tryz.prog) w 9 60 5 s Tryz.underlying9 Tryz.underlying60 Tryz.underlying5
 have C:=hid m
 clear m
 go_enter Tryz.func230,Tryz.ntmps230
 go_wp2_with fail
 go_loopw [4,5,10] (fun _ _ i wr=> ∃k:Nat,k≤s.size∧i= .int .i64 k∧BM wr w.heap.size 5 (b8 (ef upC s.data.toList k)++rest)∧Ext w wr) (fun _ _ i _=>s.size- (intOf i).toNat)
 case atStart=>exact⟨0,Nat.zero_le _,rfl,h,j⟩
 case round=>
  obtain⟨k,D,rfl,a,l⟩:=hrel
  have t:=hid a
  have n:=hid l
  clear l j h f
  by_cases b:k<s.size
  ·have g:k<(ef upC s.data.toList k).length:=by rw[fT];exact b
   have r:=a.cell (kB _ rest k g)
   rw[kV upC s k b g]at r
   have B:wr.frozen? ⟨w.heap.size,k,none⟩=false:=a.frozen (by rw[List.length_append,nI];omega)
   clear a
   by_cases p:97≤s[k].toNat∧s[k].toNat≤122
   ·have x:Hid ((upC s[k]).toNat=s[k].toNat-32):=by unfold Hid;rw[upC_num,if_pos p]
    obtain⟨z,A⟩:=p
    go_wp2_with fail
    go_roundw
    case rel=>
     refine⟨k+1,by omega,by go_num,?_,n.setCell (Nat.le_refl _) _⟩
     have u:=t.set k (.int .u8 ((upC s[k]).toNat:Int))
     rw[b8_set _ rest k _ g,kW upC s k b,x.out]at u
     have e:(((s[k].toNat:Int)-97+65):Int)=((s[k].toNat-32:Nat):Int):=by omega
     rw[e]
     exact u
    case measure=>simp[intOf];omega
   ·have y:Hid (ef upC s.data.toList k=ef upC s.data.toList (k+1)):=mO upC s k b (by unfold upC;rw[if_neg p])
    go_wp2_with fail
    all_goals
     go_roundw
     case rel=>exact⟨k+1,by omega,by go_num,by rw[←y.out];exact t,n⟩
     case measure=>simp[intOf];omega
  ·have f:=oT (P:=Tryz.prog) (w:=wr) 60 9 5 w.heap.size o (ef upC s.data.toList k) rest s.size (by rw[fT];rfl) Tryz.underlying60 Tryz.underlying5 Tryz.underlying9 a
   rw[oU upC s k (by omega)]at f
   go_wp2_with fail
   go_ret
   exact⟨rfl,n⟩
theorem lower_any (s:ByteArray) (w:World) (hs:s.size≤20000):Calls Tryz.prog 231 #[.string s] w fun e w'=>e= .returned (.string ⟨(s.data.toList.map loC).toArray⟩)∧Ext w w':=by
 obtain⟨o,E,rest,f,j,m,h⟩:=kU (P:=Tryz.prog) w 9 60 5 s Tryz.underlying9 Tryz.underlying60 Tryz.underlying5
 have C:=hid m
 clear m
 go_enter Tryz.func231,Tryz.ntmps231
 go_wp2_with fail
 go_loopw [4,5,10] (fun _ _ i wr=> ∃k:Nat,k≤s.size∧i= .int .i64 k∧BM wr w.heap.size 5 (b8 (ef loC s.data.toList k)++rest)∧Ext w wr) (fun _ _ i _=>s.size- (intOf i).toNat)
 case atStart=>exact⟨0,Nat.zero_le _,rfl,h,j⟩
 case round=>
  obtain⟨k,D,rfl,a,l⟩:=hrel
  have t:=hid a
  have n:=hid l
  clear l j h f
  by_cases b:k<s.size
  ·have g:k<(ef loC s.data.toList k).length:=by rw[fT];exact b
   have r:=a.cell (kB _ rest k g)
   rw[kV loC s k b g]at r
   have B:wr.frozen? ⟨w.heap.size,k,none⟩=false:=a.frozen (by rw[List.length_append,nI];omega)
   clear a
   by_cases p:65≤s[k].toNat∧s[k].toNat≤90
   ·have x:Hid ((loC s[k]).toNat=s[k].toNat+32):=by unfold Hid;rw[loC_num,if_pos p]
    obtain⟨z,A⟩:=p
    go_wp2_with fail
    go_roundw
    case rel=>
     refine⟨k+1,by omega,by go_num,?_,n.setCell (Nat.le_refl _) _⟩
     have u:=t.set k (.int .u8 ((loC s[k]).toNat:Int))
     rw[b8_set _ rest k _ g,kW loC s k b,x.out]at u
     have e:(((s[k].toNat:Int)-65+97):Int)=((s[k].toNat+32:Nat):Int):=by omega
     rw[e]
     exact u
    case measure=>simp[intOf];omega
   ·have y:Hid (ef loC s.data.toList k=ef loC s.data.toList (k+1)):=mO loC s k b (by unfold loC;rw[if_neg p])
    go_wp2_with fail
    all_goals
     go_roundw
     case rel=>exact⟨k+1,by omega,by go_num,by rw[←y.out];exact t,n⟩
     case measure=>simp[intOf];omega
  ·have f:=oT (P:=Tryz.prog) (w:=wr) 60 9 5 w.heap.size o (ef loC s.data.toList k) rest s.size (by rw[fT];rfl) Tryz.underlying60 Tryz.underlying5 Tryz.underlying9 a
   rw[oU loC s k (by omega)]at f
   go_wp2_with fail
   go_ret
   exact⟨rfl,n⟩
end Lx
section
open Go.Shelf
def Tryz.lays26_ren:Go.Shelf.Ren:=⟨fun|26=>262|33=>279|34=>280|38=>298|n=>n,fun|24=>101|40=>230|n=>n,fun|n=>n⟩
theorem Tryz.lays26:Go.Proofs.Lays2.n26 Tryz.prog Tryz.lays26_ren:= {
 mixed:=by kernel_rfl
 f26:=Tryz.func262.trans (congrArg some (by kernel_rfl))
 f33:=Tryz.func279.trans (congrArg some (by kernel_rfl))
 f34:=Tryz.func280.trans (congrArg some (by kernel_rfl))
 f38:=Tryz.func298.trans (congrArg some (by kernel_rfl))
 t0:=Tryz.underlying0
 a0:=Tryz.isAgg0
 z0:=Tryz.sizeOf0
 v0:=Tryz.zeroValue0
 t3:=Tryz.underlying3
 a3:=Tryz.isAgg3
 z3:=Tryz.sizeOf3
 v3:=Tryz.zeroValue3
 t4:=Tryz.underlying4
 a4:=Tryz.isAgg4
 z4:=Tryz.sizeOf4
 v4:=Tryz.zeroValue4
 t9:=Tryz.underlying9
 a9:=Tryz.isAgg9
 z9:=Tryz.sizeOf9
 v9:=Tryz.zeroValue9
 t24:=Tryz.underlying101
 a24:=Tryz.isAgg101
 z24:=Tryz.sizeOf101
 v24:=Tryz.zeroValue101
 t40:=Tryz.underlying230
 a40:=Tryz.isAgg230
 z40:=Tryz.sizeOf230
 v40:=Tryz.zeroValue230 }
open Go.RowKit in
theorem Tryz.slices_BinarySearch (b a n c:Nat) (Sx:Nat→ByteArray) (x:ByteArray) (w:World) (f:n<4611686018427387904) (g:∀j,j<n→w.cell? ⟨b,a+j,none⟩=some (.string (Sx j))):
  Calls Tryz.prog 262 #[.slice (some ⟨b,a,none⟩) n c,.string x] w fun e w'=>
   e= .returned (.tuple #[.int .i64 (Lib.bsGo (fun t=>Op.bytesLess (Sx t).toList x.toList) n 0 n:Nat),.bool (decide (Lib.bsGo (fun t=>Op.bytesLess (Sx t).toList x.toList) n 0 n<n∧Sx (Lib.bsGo (fun t=>Op.bytesLess (Sx t).toList x.toList) n 0 n)=x))])∧∃q,w'=w.drewN q:=Any2.slices_BinarySearch_string Tryz.lays26 b a n c Sx x w f g
end
namespace Lx
def kwAt (t:Nat):List UInt8:=kwNames.getD t [255]
def kwStr (t:Nat):ByteArray:=⟨(kwAt t).toArray⟩
def kwVals:List Value:=kwNames.map fun l=> .string ⟨l.toArray⟩
theorem kwVals_get (k:Nat) (h:k<47):kwVals[k]? =some (.string (kwStr k)):=by
 have a:k<kwNames.length:=h
 unfold kwVals kwStr kwAt
 rw[List.getElem?_map,List.getD_eq_getElem?_getD,List.getElem?_eq_getElem a]
 rfl
theorem iT (l:List UInt8):(⟨l.toArray⟩:ByteArray).toList=l:=by rw[ByteArray.toList_eq]
theorem ik (k:Nat):(kwStr k).toList=kwAt k:=iT _
theorem kw_sorted:(List.range 47).all (fun j=> (List.range 48).all fun t=>Op.bytesLess (kwAt t) (kwAt j)==decide (t<j))=true:=by decide+kernel
theorem kw_less (j t:Nat) (f:j<47):Op.bytesLess (kwAt t) (kwAt j)=decide (t<j):=by
 have b:=List.all_eq_true.1 (List.all_eq_true.1 kw_sorted j (List.mem_range.2 f))
 rcases Nat.lt_or_ge t 48 with h|h
 ·exact eq_of_beq (b t (List.mem_range.2 h))
 ·have a:=eq_of_beq (b 47 (List.mem_range.2 (by omega)))
  have e:kwAt t=kwAt 47:=by
   unfold kwAt
   rw[List.getD_eq_getElem?_getD,List.getD_eq_getElem?_getD,List.getElem?_eq_none (show kwNames.length≤t from Nat.le_trans (by decide) h),List.getElem?_eq_none (show kwNames.length≤47 from Nat.le_refl _)]
  rw[e,a]
  apply decide_eq_decide.2
  omega
theorem kw_search (x:List UInt8):decide (Lib.bsGo (fun t=>Op.bytesLess (kwStr t).toList (⟨x.toArray⟩:ByteArray).toList) 47 0 47<47∧kwStr (Lib.bsGo (fun t=>Op.bytesLess (kwStr t).toList (⟨x.toArray⟩:ByteArray).toList) 47 0 47)=⟨x.toArray⟩)=decide (x∈kwNames):=by
 by_cases h:x∈kwNames
 ·obtain⟨j,f,m⟩:=List.getElem_of_mem h
  have a:j<47:=f
  have e:x=kwAt j:=by unfold kwAt;rw[List.getD_eq_getElem?_getD,List.getElem?_eq_getElem f,m];rfl
  have l:Lib.bsGo (fun t=>Op.bytesLess (kwStr t).toList (⟨x.toArray⟩:ByteArray).toList) 47 0 47=j:=by
   apply Lib.bsGo_spec _ j
   ·intro t g
    show Op.bytesLess (kwStr t).toList _=true
    rw[ik,iT,e,kw_less j t a,decide_eq_true g]
   ·intro t g
    show Op.bytesLess (kwStr t).toList _=false
    rw[ik,iT,e,kw_less j t a,decide_eq_false (by omega)]
   ·omega
   ·omega
   ·omega
  rw[l,decide_eq_true h,decide_eq_true]
  refine⟨a,?_⟩
  unfold kwStr
  rw[e]
 ·rw[decide_eq_false h]
  apply decide_eq_false
  generalize Lib.bsGo _ 47 0 47=I
  rintro⟨i,k⟩
  apply h
  have b:=congrArg ByteArray.toList k
  rw[ik,iT]at b
  rw[←b]
  unfold kwAt
  rw[List.getD_eq_getElem?_getD,List.getElem?_eq_getElem (show I<kwNames.length from i)]
  exact List.getElem_mem _
def KwAt (w:World):Prop:=∃b off c,w.cell? ⟨0,0,none⟩=some (.slice (some ⟨b,off,none⟩) 47 c)∧∀j,j<47→w.cell? ⟨b,off+j,none⟩=some (.string (kwStr j))
theorem KwAt.ext {w w':World} (h:KwAt w) (e:Ext w w'):KwAt w':=by
 obtain⟨b,a,c,f,g⟩:=h
 exact⟨b,a,c,e.keep f,fun j i=>e.keep (g j i)⟩
theorem qo (b a c:Nat) (x:List UInt8) (w:World) (h:∀j,j<47→w.cell? ⟨b,a+j,none⟩=some (.string (kwStr j))):
  ∃I:Int,∀(y:ae w),Calls Tryz.prog 262 #[.slice (some ⟨b,a,none⟩) 47 c,.string ⟨x.toArray⟩] y.now fun e w'=>e= .returned (.tuple #[.int .i64 I,.bool (decide (x∈kwNames))])∧Ext y.now w':=by
 refine⟨((Lib.bsGo (fun t=>Op.bytesLess (kwStr t).toList (⟨x.toArray⟩:ByteArray).toList) 47 0 47:Nat):Int),fun y=>?_⟩
 refine(Tryz.slices_BinarySearch b a 47 c kwStr ⟨x.toArray⟩ y.now (by decide) fun j f=>y.ext.keep (h j f)).mono ?_
 rintro e w' ⟨rfl,q,rfl⟩
 refine⟨?_,(Ext.refl _).drewN q⟩
 rw[kw_search]
theorem keyword_any (s:ByteArray) (w:World) (hs:s.size≤20000) (l:KwAt w):Calls Tryz.prog 229 #[.string s] w fun e w'=>e= .returned (.bool (isKw s.data.toList))∧Ext w w':=by
 obtain⟨b,f,c,g,h⟩:=l
 obtain⟨I,i⟩:=qo b f c (s.data.toList.map upC) w h
 have k:=ae.keep g
 have j:=hid i
 clear i h
 go_enter Tryz.func229,Tryz.ntmps229
 go_wp2_with fail
 refine ab (by kernel_rfl) (by kernel_rfl) ?_
 repeat (go_big_quiet_step ((first|(go_at_call 230;exact ak (mP s _ hs))|(go_at_call 262;exact ak (j _)))))
 refine wpQuiet_nil ?_
 intro w' a
 have m:=ah a
 clear a k g
 go_wp2_with fail
 go_ret
 exact⟨rfl,m⟩
end Lx
namespace Lx
def TRes:TR→Value
 | .bad e=> .tuple #[.agg #[.int .i64 0,.string ⟨#[]⟩,.int .i64 0],.int .i64 0,.int .i64 e]
 | .tok k x n=> .tuple #[.agg #[.int .i64 k,.string ⟨x.toArray⟩,.int .i64 0],.int .i64 n,.int .i64 0]
def kc:Option (List UInt8×Nat)→TR
 |none=> .bad 2
 |some (X,i)=>if 16<X.length then .bad 3 else .tok 4 X i
theorem u8s_b8 (l:List UInt8):u8s (l.map UInt8.toNat)=b8 l:=by unfold u8s b8;rw[List.map_map];rfl
theorem S_list (l:List UInt8):S (l.map UInt8.toNat)=⟨l.toArray⟩:=by
 unfold S
 rw[List.map_map]
 congr 1
 simp[Function.comp_def]
theorem conv_own8 {P:Program} {w:World} (b a e B n:Nat) (v:Value) (l:List UInt8) (hs:P.underlying b=some (.slice e)) (g:P.underlying e=some (.int .u8)) (hd:P.underlying a=some .string)
  (f:w.ownsRow B e 1 v n (b8 l)):(convert b a v).run P w= .ok (.string ⟨l.toArray⟩) w:=by
 rw[←u8s_b8]at f
 rw[conv_own b a e B n v (l.map UInt8.toNat) hs g hd f,S_list]
theorem own_shape {w:World} {B e n:Nat} {v:Value} {a:List Value} (h:w.ownsRow B e 1 v n a):∃A c,v= .slice A n c:=by
 rcases h.2 with ⟨rfl,h0⟩|⟨g,cap,cur,rfl,_⟩
 ·exact⟨none,0,by rw[h0]⟩
 ·exact⟨some ⟨g,0,none⟩,cap,rfl⟩
theorem info5:(Tryz.prog.info? 5).map (fun i=> (i.zero,i.size,i.bytes))=some (some (.int .u8 0),1,1):=by kernel_rfl
theorem info_parts {t:TypeId} {z:Value} {n b:Nat} (h:(Tryz.prog.info? t).map (fun i=> (i.zero,i.size,i.bytes))=some (some z,n,b)):∃i,Tryz.prog.info? t=some i∧i.zero=some z∧i.size=n∧i.bytes=b:=by
 cases hi:Tryz.prog.info? t with
 |none=>rw[hi]at h;cases h
 |some i=>
  rw[hi]at h
  simp only[Option.map_some,Option.some.injEq,Prod.mk.injEq]at h
  exact⟨i,rfl,h.1,h.2.1,h.2.2⟩
theorem b8_snoc (l:List UInt8) (c:UInt8):b8 (l++ [c])=b8 l++ [.int .u8 (c.toNat:Int)]:=by unfold b8;rw[List.map_append];rfl
theorem text_any (s:ByteArray) (w:World) (hs:s.size≤20000) (h0:0<s.size):Calls Tryz.prog 175 #[.string s] w fun e w'=>e= .returned (TRes (textL (s.data.toList.drop 1)))∧Ext w w':=by
 obtain⟨i0,hi,J,K,L⟩:=info_parts info5
 have HL:Hid (TRes (textL (s.data.toList.drop 1))=TRes (kc (litF (s.data.toList.drop 1) [] 1))):=rfl
 generalize TRes (textL (s.data.toList.drop 1))=V at*
 have O:=hid (Blk.of_new w 70 [.int .i64 0,.string ⟨#[]⟩,.int .i64 0])
 go_enter Tryz.func175,Tryz.ntmps175
 go_wp2_with fail
 go_loopw [5,6] (fun v i wr=> ∃(k:Nat) (X:List UInt8),i= .int .i64 k∧1≤k∧k≤s.size∧X.length≤k∧Ext w wr∧Blk wr w.heap.size 70 [.int .i64 0,.string ⟨#[]⟩,.int .i64 0]∧wr.ownsRow (w.heap.size+1) 5 1 v X.length (b8 X)∧V=TRes (kc (litF (s.data.toList.drop k) X k))) (fun _ i _=>s.size- (intOf i).toNat)
 case atStart=>exact⟨1,[],rfl,Nat.le_refl _,h0,Nat.zero_le _,(Ext.refl w).alloc _,O,World.ownsRow_nil _ _ _ _,HL⟩
 case round=>
  obtain⟨k,X,rfl,a2,a3,ac,f,z,a,hv⟩:=hrel
  obtain⟨A,c,rfl⟩:=own_shape a
  have y:=hid hv
  have b:=hid z
  clear hv
  have ad:=z.cell 0
  have ag:=z.cell 1
  have an:=z.cell 2
  obtain⟨ax,a0,a1,-⟩:=frz z
  clear z
  have r:=conv_own8 (P:=Tryz.prog) 60 9 5 (w.heap.size+1) X.length _ X Tryz.underlying60 Tryz.underlying5 Tryz.underlying9 a
  by_cases U:k<s.size
  ·have B:=hid (eG s k U)
   by_cases W:32≤s[k].toNat∧s[k].toNat≤126
   ·have Q:Hid (isPrint s[k]=true):=by unfold Hid isPrint;simpa using W
    have p:Hid (¬isPrint s[k]=false):=by unfold Hid;rw[Q.out];decide
    obtain⟨Y,Z⟩:=W
    by_cases H:s[k].toNat=39
    ·have b1:((s[k].toNat:Int)==39)=true:=by rw[H];rfl
     have E:=hid H
     clear H
     by_cases hl:k+1<s.size
     ·have C:=hid (eG s (k+1) hl)
      have b0:((k:Int)+1==(s.size:Int))=false:=by rw[beq_eq_false_iff_ne];omega
      by_cases j:s[k+1].toNat=39
      ·have b2:((s[k+1].toNat:Int)==39)=true:=by rw[j];rfl
       have b3:((s[k+1].toNat:Int) !=39)=false:=by rw[j];rfl
       have t:=hid j
       clear j r
       go_wp2_with (at_builtin;refine kS _ rfl _ _ 60 rfl (w.heap.size+1) 5 i0 (.int .u8 0) 1 Tryz.underlying60 hi J K L rfl _ _ _ rfl (own_ext a ((Ext.refl _).alloc _)) ⟨wr.heap.size,0,none⟩ 1 1 [Value.int .u8 (s[k+1].toNat:Int)] rfl rfl (iQ _ _ _) (by intro u I;simp at I;subst I;rfl) (by unfold maxLen;omega) (by omega) (by have:=b.out.lt;simp;omega) ?_;intro v' w2 h l G x _)
       go_roundw
       case rel=>
        refine⟨k+1+1,X++ [s[k+1]],by go_num,by omega,by omega,by rw[List.length_append];simp only[List.length_cons,List.length_nil];omega,Ext.grown (f.alloc _) l (fun g R=>Nat.le_of_succ_le (cT a R)),(b.ext ((Ext.refl _).alloc _)).grown l (fun e=>by have:=cT a e.symm;omega),by rw[b8_snoc,List.length_append];exact h,?_⟩
        rw[y.out,B.out,lit_cons,if_neg p.out,if_pos E.out,C.out]
        simp only
        rw[if_pos t.out]
       case measure=>simp[intOf];omega
      ·have b2:((s[k+1].toNat:Int)==39)=false:=by rw[beq_eq_false_iff_ne];omega
       have b3:((s[k+1].toNat:Int) !=39)=true:=by rw[bne_iff_ne];omega
       have t:Hid (¬s[k+1].toNat=39):=j
       clear j
       have D:Hid (V=TRes (kc (some (X,k+1)))):=by
        unfold Hid
        rw[y.out,B.out,lit_cons,if_neg p.out,if_pos E.out,C.out]
        simp only
        rw[if_neg t.out]
       by_cases F:16<X.length
       ·go_wp2_with fail
        have m:(wr.setCell ⟨w.heap.size,0,none⟩ (.int .i64 0)).cell? ⟨w.heap.size,0,none⟩=some (.int .i64 0):=(b.set 0 _).cell 0
        have n:((wr.setCell ⟨w.heap.size,0,none⟩ (.int .i64 0)).setCell ⟨w.heap.size,1,none⟩ (.string ⟨#[]⟩)).cell? ⟨w.heap.size,1,none⟩=some (.string ⟨#[]⟩):=((b.set 0 _).set 1 _).cell 1
        have o:(((wr.setCell ⟨w.heap.size,0,none⟩ (.int .i64 0)).setCell ⟨w.heap.size,1,none⟩ (.string ⟨#[]⟩)).setCell ⟨w.heap.size,2,none⟩ (.int .i64 0)).cell? ⟨w.heap.size,2,none⟩=some (.int .i64 0):=(((b.set 0 _).set 1 _).set 2 _).cell 2
        exact bodyPost_ret (v:= .tuple #[.agg #[.int .i64 0,.string ⟨#[]⟩,.int .i64 0],.int .i64 (0),.int .i64 (3)]) (by simp[results,Tryz.results175,go_sem,m,n,o]) rfl ⟨by rw[D.out];unfold kc;simp only;rw[if_pos F];rfl,((f.setCell (Nat.le_refl _) _).setCell (Nat.le_refl _) _).setCell (Nat.le_refl _) _⟩
       ·go_wp2_with fail
        have m:(wr.setCell ⟨w.heap.size,0,none⟩ (.int .i64 4)).cell? ⟨w.heap.size,0,none⟩=some (.int .i64 4):=(b.set 0 _).cell 0
        have n:((wr.setCell ⟨w.heap.size,0,none⟩ (.int .i64 4)).setCell ⟨w.heap.size,1,none⟩ (.string ⟨X.toArray⟩)).cell? ⟨w.heap.size,1,none⟩=some (.string ⟨X.toArray⟩):=((b.set 0 _).set 1 _).cell 1
        have o:(((wr.setCell ⟨w.heap.size,0,none⟩ (.int .i64 4)).setCell ⟨w.heap.size,1,none⟩ (.string ⟨X.toArray⟩)).setCell ⟨w.heap.size,2,none⟩ (.int .i64 0)).cell? ⟨w.heap.size,2,none⟩=some (.int .i64 0):=(((b.set 0 _).set 1 _).set 2 _).cell 2
        exact bodyPost_ret (v:= .tuple #[.agg #[.int .i64 4,.string ⟨X.toArray⟩,.int .i64 0],.int .i64 ((k:Int)+1),.int .i64 (0)]) (by simp[results,Tryz.results175,go_sem,m,n,o]) rfl ⟨by rw[D.out];unfold kc;simp only;rw[if_neg F];rfl,((f.setCell (Nat.le_refl _) _).setCell (Nat.le_refl _) _).setCell (Nat.le_refl _) _⟩
     ·have b0:((k:Int)+1==(s.size:Int))=true:=by rw[beq_iff_eq];omega
      have D:Hid (V=TRes (kc (some (X,k+1)))):=by
       unfold Hid
       rw[y.out,B.out,lit_cons,if_neg p.out,if_pos E.out]
       rw[List.drop_of_length_le (show s.data.toList.length≤k+1 by show s.size≤_;omega)]
      by_cases F:16<X.length
      ·go_wp2_with fail
       have m:(wr.setCell ⟨w.heap.size,0,none⟩ (.int .i64 0)).cell? ⟨w.heap.size,0,none⟩=some (.int .i64 0):=(b.set 0 _).cell 0
       have n:((wr.setCell ⟨w.heap.size,0,none⟩ (.int .i64 0)).setCell ⟨w.heap.size,1,none⟩ (.string ⟨#[]⟩)).cell? ⟨w.heap.size,1,none⟩=some (.string ⟨#[]⟩):=((b.set 0 _).set 1 _).cell 1
       have o:(((wr.setCell ⟨w.heap.size,0,none⟩ (.int .i64 0)).setCell ⟨w.heap.size,1,none⟩ (.string ⟨#[]⟩)).setCell ⟨w.heap.size,2,none⟩ (.int .i64 0)).cell? ⟨w.heap.size,2,none⟩=some (.int .i64 0):=(((b.set 0 _).set 1 _).set 2 _).cell 2
       exact bodyPost_ret (v:= .tuple #[.agg #[.int .i64 0,.string ⟨#[]⟩,.int .i64 0],.int .i64 (0),.int .i64 (3)]) (by simp[results,Tryz.results175,go_sem,m,n,o]) rfl ⟨by rw[D.out];unfold kc;simp only;rw[if_pos F];rfl,((f.setCell (Nat.le_refl _) _).setCell (Nat.le_refl _) _).setCell (Nat.le_refl _) _⟩
      ·go_wp2_with fail
       have m:(wr.setCell ⟨w.heap.size,0,none⟩ (.int .i64 4)).cell? ⟨w.heap.size,0,none⟩=some (.int .i64 4):=(b.set 0 _).cell 0
       have n:((wr.setCell ⟨w.heap.size,0,none⟩ (.int .i64 4)).setCell ⟨w.heap.size,1,none⟩ (.string ⟨X.toArray⟩)).cell? ⟨w.heap.size,1,none⟩=some (.string ⟨X.toArray⟩):=((b.set 0 _).set 1 _).cell 1
       have o:(((wr.setCell ⟨w.heap.size,0,none⟩ (.int .i64 4)).setCell ⟨w.heap.size,1,none⟩ (.string ⟨X.toArray⟩)).setCell ⟨w.heap.size,2,none⟩ (.int .i64 0)).cell? ⟨w.heap.size,2,none⟩=some (.int .i64 0):=(((b.set 0 _).set 1 _).set 2 _).cell 2
       exact bodyPost_ret (v:= .tuple #[.agg #[.int .i64 4,.string ⟨X.toArray⟩,.int .i64 0],.int .i64 ((k:Int)+1),.int .i64 (0)]) (by simp[results,Tryz.results175,go_sem,m,n,o]) rfl ⟨by rw[D.out];unfold kc;simp only;rw[if_neg F];rfl,((f.setCell (Nat.le_refl _) _).setCell (Nat.le_refl _) _).setCell (Nat.le_refl _) _⟩
    ·have b1:((s[k].toNat:Int)==39)=false:=by rw[beq_eq_false_iff_ne];omega
     have E:Hid (¬s[k].toNat=39):=H
     clear H r
     go_wp2_with (at_builtin;refine kS _ rfl _ _ 60 rfl (w.heap.size+1) 5 i0 (.int .u8 0) 1 Tryz.underlying60 hi J K L rfl _ _ _ rfl (own_ext a ((Ext.refl _).alloc _)) ⟨wr.heap.size,0,none⟩ 1 1 [Value.int .u8 (s[k].toNat:Int)] rfl rfl (iQ _ _ _) (by intro u I;simp at I;subst I;rfl) (by unfold maxLen;omega) (by omega) (by have:=b.out.lt;simp;omega) ?_;intro v' w2 h l G x _)
     go_roundw
     case rel=>
      refine⟨k+1,X++ [s[k]],by go_num,by omega,by omega,by rw[List.length_append];simp only[List.length_cons,List.length_nil];omega,Ext.grown (f.alloc _) l (fun g R=>Nat.le_of_succ_le (cT a R)),(b.ext ((Ext.refl _).alloc _)).grown l (fun e=>by have:=cT a e.symm;omega),by rw[b8_snoc,List.length_append];exact h,?_⟩
      rw[y.out,B.out,lit_cons,if_neg p.out,if_neg E.out]
     case measure=>simp[intOf];omega
   ·have Q:Hid (isPrint s[k]=false):=by
     unfold Hid isPrint
     rw[Bool.and_eq_false_iff]
     simp only[decide_eq_false_iff_not]
     omega
    clear r
    go_wp2_with fail
    all_goals
     have m:(wr.setCell ⟨w.heap.size,0,none⟩ (.int .i64 0)).cell? ⟨w.heap.size,0,none⟩=some (.int .i64 0):=(b.set 0 _).cell 0
     have n:((wr.setCell ⟨w.heap.size,0,none⟩ (.int .i64 0)).setCell ⟨w.heap.size,1,none⟩ (.string ⟨#[]⟩)).cell? ⟨w.heap.size,1,none⟩=some (.string ⟨#[]⟩):=((b.set 0 _).set 1 _).cell 1
     have o:(((wr.setCell ⟨w.heap.size,0,none⟩ (.int .i64 0)).setCell ⟨w.heap.size,1,none⟩ (.string ⟨#[]⟩)).setCell ⟨w.heap.size,2,none⟩ (.int .i64 0)).cell? ⟨w.heap.size,2,none⟩=some (.int .i64 0):=(((b.set 0 _).set 1 _).set 2 _).cell 2
     exact bodyPost_ret (v:= .tuple #[.agg #[.int .i64 0,.string ⟨#[]⟩,.int .i64 0],.int .i64 (0),.int .i64 (2)]) (by simp[results,Tryz.results175,go_sem,m,n,o]) rfl ⟨by rw[y.out,B.out,lit_cons,if_pos Q.out];rfl,((f.setCell (Nat.le_refl _) _).setCell (Nat.le_refl _) _).setCell (Nat.le_refl _) _⟩
  ·clear r
   go_wp2_with fail
   have m:(wr.setCell ⟨w.heap.size,0,none⟩ (.int .i64 0)).cell? ⟨w.heap.size,0,none⟩=some (.int .i64 0):=(b.set 0 _).cell 0
   have n:((wr.setCell ⟨w.heap.size,0,none⟩ (.int .i64 0)).setCell ⟨w.heap.size,1,none⟩ (.string ⟨#[]⟩)).cell? ⟨w.heap.size,1,none⟩=some (.string ⟨#[]⟩):=((b.set 0 _).set 1 _).cell 1
   have o:(((wr.setCell ⟨w.heap.size,0,none⟩ (.int .i64 0)).setCell ⟨w.heap.size,1,none⟩ (.string ⟨#[]⟩)).setCell ⟨w.heap.size,2,none⟩ (.int .i64 0)).cell? ⟨w.heap.size,2,none⟩=some (.int .i64 0):=(((b.set 0 _).set 1 _).set 2 _).cell 2
   exact bodyPost_ret (v:= .tuple #[.agg #[.int .i64 0,.string ⟨#[]⟩,.int .i64 0],.int .i64 (0),.int .i64 (2)]) (by simp[results,Tryz.results175,go_sem,m,n,o]) rfl ⟨by rw[y.out,List.drop_of_length_le (show s.data.toList.length≤k by show s.size≤_;omega),litF];rfl,((f.setCell (Nat.le_refl _) _).setCell (Nat.le_refl _) _).setCell (Nat.le_refl _) _⟩
end Lx
namespace Lx
theorem name_long (l:List UInt8) (h:24<l.length):nameP l=false:=by
 cases l with
 |nil=>rfl
 |cons c r=>unfold nameP;simp only;rw[decide_eq_false (by omega)];rfl
theorem fb (s:ByteArray) (h:0<s.size):s.data.toList=s[0]::s.data.toList.drop 1:=by
 have:=eG s 0 h
 rw[List.drop_zero]at this
 exact this
theorem eH (s:ByteArray):s.data.toList.length=s.size:=rfl
end Lx
namespace Lx
theorem flat_quo:∀l:List UInt8,flat l=quo l
 | []=>rfl
 |c::r=>by
  rw[flat,quo,flat_quo r]
  by_cases h:c.toNat=39
  ·obtain rfl:c=39:=num_ext c 39 h
   rw[if_pos h,if_pos rfl]
  ·rw[if_neg h,if_neg (fun e=>h (by rw[e];rfl))]
def Sh (w:World):Prop:=∃m:Int,w.cell? ⟨1,0,none⟩=some (.int .i64 m)
theorem Sh.ext {w w':World} (h:Sh w) (a:Ext w w'):Sh w':=by
 obtain⟨m,h⟩:=h
 exact⟨m,a.keep h⟩
theorem countB_le (t:ByteArray):Lib.countB t ⟨#[39]⟩≤t.size+1:=Lib.count_le t.data.toList [39]
theorem flat_len:∀l:List UInt8,(flat l).length≤2*l.length
 | []=>Nat.le_refl _
 |c::r=>by
  have:=flat_len r
  rw[flat]
  split<;>simp only[List.length_cons] <;>omega
theorem by_list {a b:ByteArray} (h:a.data.toList=b.data.toList):a=b:=by
 obtain⟨⟨a⟩⟩:=a
 obtain⟨⟨b⟩⟩:=b
 simpa using h
end Lx
end Go.Proofs.YtjigcpfjhfoheaaGreatDoor
