/- Walks over the lexer: the classes of bytes; Walks over the lexer's reference: Text; Walks over the lexer: span; Plain laws: a pure lexer; Plain laws over the pure lexer: offsets shifted, two strings joined, the case of letters; Pl. -/
import Derived.Test.YtjigcpfjhfoheaaGreatDoorVaa
import Derived.WalkSmall
import Derived.Test.YtjigcpfjhfoheaaGreatDoorProg
import Derived.Shelf.Spec.SearchS
import Derived.BigQuiet
import Derived.Test.YtjigcpfjhfoheaaGreatDoorShelf
import Derived.RegionTactic
namespace Go.Proofs.YtjigcpfjhfoheaaGreatDoor
open Go.RowKit List Go.Proofs.Tryz
set_option maxHeartbeats 4000000
set_option maxRecDepth 100000
set_option linter.unusedVariables false
set_option linter.unusedSimpArgs false
namespace Lx
def isLetter (c:UInt8):Bool:=(97≤c.toNat&&c.toNat≤122)||(65≤c.toNat&&c.toNat≤90)
def isDigit (c:UInt8):Bool:=48≤c.toNat&&c.toNat≤57
def inWord (c:UInt8):Bool:=isLetter c||isDigit c||c.toNat==95
theorem gw (c:UInt8) (w:World):Cl 171 #[.int .u8 c.toNat] w fun e w'=>e= .returned (.bool (isLetter c))∧w'=w:=by
 go_enter func171,ntmps171
 go_wp2_with fail
 all_goals
  go_ret
  refine⟨aa ?_,rfl⟩
  unfold isLetter
  grind
theorem gg (c:UInt8) (w:World):Cl 173 #[.int .u8 c.toNat] w fun e w'=>e= .returned (.bool (isDigit c))∧w'=w:=by
 go_enter func173,ntmps173
 go_wp2_with fail
 all_goals
  go_ret
  refine⟨aa ?_,rfl⟩
  unfold isDigit
  grind
theorem ew (c:UInt8) (w:World):Cl 162 #[.int .u8 c.toNat] w fun e w'=>e= .returned (.bool (isLetter c))∧w'=w:=by
 go_enter func162,ntmps162
 go_wp2_with fail
 all_goals
  go_ret
  refine⟨aa ?_,rfl⟩
  unfold isLetter
  grind
theorem gx (c:UInt8) (w:World):Cl 163 #[.int .u8 c.toNat] w fun e w'=>e= .returned (.bool (isDigit c))∧w'=w:=by
 go_enter func163,ntmps163
 go_wp2_with fail
 all_goals
  go_ret
  refine⟨aa ?_,rfl⟩
  unfold isDigit
  grind
theorem iX (c:UInt8) (w:World):Cl 228 #[.int .u8 c.toNat] w fun e w'=>e= .returned (.bool (inWord c))∧w'=w:=by
 have f:=hid (gw c)
 have b:=hid (gg c)
 cases a:isLetter c<;>cases hd:isDigit c
 all_goals
  go_enter func228,ntmps228
  go_wp2_with (first
   |(go_at_call 171;refine(f _).mono ?_;rintro e g ⟨rfl,rfl⟩;rw[a])
   |(go_at_call 173;refine(b _).mono ?_;rintro e g ⟨rfl,rfl⟩;rw[hd]))
  all_goals
   go_ret
   refine⟨aa ?_,rfl⟩
   unfold inWord
   rw[a,hd]
   grind
def kt (c:UInt8):Bool:=c.toNat==32||c.toNat==9||c.toNat==10
theorem wk (c:UInt8) (w:World):Cl 161 #[.int .u8 c.toNat] w fun e w'=>e= .returned (.bool (kt c))∧w'=w:=by
 go_enter func161,ntmps161
 go_wp2_with fail
 all_goals
  go_ret
  refine⟨aa ?_,rfl⟩
  unfold kt
  grind
end Lx
namespace Lx
theorem take1 (t:BA) (k:Nat) (h:k<t.size):t.data.toList.take (k+1)=t.data.toList.take k++ [t[k]]:=by
 have a:k<t.data.toList.length:=by simpa using h
 rw[take_succ_eq_append_getElem a]
 rfl
end Lx
namespace Lx
def spanN (f:UInt8→Bool):List UInt8→Nat
 | []=>0
 |c::r=>if f c=true then spanN f r+1 else 0
theorem span_word (s:BA) (w:World) (hs:s.size≤maxLen):Cl 227 #[.string s,.func (.func 228) #[] #[]] w fun e w'=>e= .returned (i4 (spanN inWord s.data.toList))∧w'=w:=by
 unfold maxLen at hs
 go_enter func227,ntmps227
 go_wp2_with fail
 go_loop [5] (fun i=> ∃k:Nat,k≤s.size∧i= i4 k∧spanN inWord s.data.toList=k+spanN inWord (s.data.toList.drop k)) (fun i=>s.size- (intOf i).toNat)
 case atStart=>exact⟨0,Nat.zero_le _,rfl,by simp⟩
 case round=>
  obtain⟨k,l,rfl,h⟩:=hrel
  have b:=hid h
  clear h
  by_cases f:k<s.size
  ·have g:Hid (s.data.toList.drop k=s[k]::s.data.toList.drop (k+1)):=drop_eq_getElem_cons (show k<s.data.toList.length from f)
   cases a:inWord s[k]
   ·go_wp2_with (go_at_call 228;refine(iX s[k] _).mono ?_;rintro e j ⟨rfl,rfl⟩;rw[a])
    go_ret
    refine⟨aM ?_,rfl⟩
    rw[b.out,g.out,spanN,if_neg (by rw[a];decide)]
    omega
   ·go_wp2_with (go_at_call 228;refine(iX s[k] _).mono ?_;rintro e j ⟨rfl,rfl⟩;rw[a])
    go_round
    case rel=>
     refine⟨k+1,by omega,by go_num,?_⟩
     rw[b.out,g.out,spanN,if_pos a]
     omega
    case measure=>simp[intOf];omega
  ·obtain rfl:k=s.size:=by omega
   go_wp2_with fail
   go_ret
   refine⟨aM ?_,rfl⟩
   rw[b.out,drop_of_length_le (show s.data.toList.length≤s.size from Nat.le_refl _),spanN]
   omega
theorem wl (s:BA) (w:World) (hs:s.size≤maxLen):Cl 227 #[.string s,.func (.func 173) #[] #[]] w fun e w'=>e= .returned (i4 (spanN isDigit s.data.toList))∧w'=w:=by
 unfold maxLen at hs
 go_enter func227,ntmps227
 go_wp2_with fail
 go_loop [5] (fun i=> ∃k:Nat,k≤s.size∧i= i4 k∧spanN isDigit s.data.toList=k+spanN isDigit (s.data.toList.drop k)) (fun i=>s.size- (intOf i).toNat)
 case atStart=>exact⟨0,Nat.zero_le _,rfl,by simp⟩
 case round=>
  obtain⟨k,l,rfl,h⟩:=hrel
  have b:=hid h
  clear h
  by_cases f:k<s.size
  ·have g:Hid (s.data.toList.drop k=s[k]::s.data.toList.drop (k+1)):=drop_eq_getElem_cons (show k<s.data.toList.length from f)
   cases a:isDigit s[k]
   ·go_wp2_with (go_at_call 173;refine(gg s[k] _).mono ?_;rintro e j ⟨rfl,rfl⟩;rw[a])
    go_ret
    refine⟨aM ?_,rfl⟩
    rw[b.out,g.out,spanN,if_neg (by rw[a];decide)]
    omega
   ·go_wp2_with (go_at_call 173;refine(gg s[k] _).mono ?_;rintro e j ⟨rfl,rfl⟩;rw[a])
    go_round
    case rel=>
     refine⟨k+1,by omega,by go_num,?_⟩
     rw[b.out,g.out,spanN,if_pos a]
     omega
    case measure=>simp[intOf];omega
  ·obtain rfl:k=s.size:=by omega
   go_wp2_with fail
   go_ret
   refine⟨aM ?_,rfl⟩
   rw[b.out,drop_of_length_le (show s.data.toList.length≤s.size from Nat.le_refl _),spanN]
   omega
def isPrint (c:UInt8):Bool:=32≤c.toNat&&c.toNat≤126
end Lx
namespace Lx
def upC (c:UInt8):UInt8:=if 97≤c.toNat∧c.toNat≤122 then c-32 else c
def loC (c:UInt8):UInt8:=if 65≤c.toNat∧c.toNat≤90 then c+32 else c
def kwNames:List (List UInt8):= [
 [65,78,68],
 [65,83],
 [65,83,67],
 [66,69,71,73,78],
 [66,69,84,87,69,69,78],
 [66,89],
 [67,72,69,67,75],
 [67,79,77,77,73,84],
 [67,79,85,78,84],
 [67,82,69,65,84,69],
 [68,69,76,69,84,69],
 [68,69,83,67],
 [70,79,82,69,73,71,78],
 [70,82,79,77],
 [71,82,79,85,80],
 [73,78],
 [73,78,83,69,82,84],
 [73,78,84,69,71,69,82],
 [73,78,84,79],
 [73,83],
 [74,79,73,78],
 [75,69,89],
 [76,69,78,71,84,72],
 [76,73,75,69],
 [76,73,77,73,84],
 [77,65,88],
 [77,73,78],
 [78,79,84],
 [78,85,76,76],
 [79,78],
 [79,82],
 [79,82,68,69,82],
 [80,82,73,77,65,82,89],
 [82,69,70,69,82,69,78,67,69,83],
 [82,69,76,69,65,83,69],
 [82,79,76,76,66,65,67,75],
 [83,65,86,69,80,79,73,78,84],
 [83,69,76,69,67,84],
 [83,69,84],
 [83,85,77],
 [84,65,66,76,69],
 [84,69,88,84],
 [84,79],
 [85,78,73,81,85,69],
 [85,80,68,65,84,69],
 [86,65,76,85,69,83],
 [87,72,69,82,69]]
def isKw (l:List UInt8):Bool:=decide (l.map upC∈kwNames)
def digVal (l:List UInt8):Nat:=l.foldl (fun v c=>10*v+(c.toNat-48)) 0
def syms:List UInt8:= [40,41,44,59,46,42,43,45,47,37,61,60,62]
def symN:List UInt8→Nat
 | []=>0
 | [c]=>if c∈syms then 1 else 0
 |c::d::_=>if (c=60∧d=62)∨(c=60∧d=61)∨(c=62∧d=61)then 2 else if c∈syms then 1 else 0
def litF:List UInt8→List UInt8→Nat→Option (List UInt8×Nat)
 | [],_,_=>none
 |c::r,X,i=>
  if isPrint c=false then none
  else if c.toNat=39 then
   match r with
   | []=>some (X,i+1)
   |d::r'=>if d.toNat=39 then litF r' (X++ [d]) (i+1+1)else some (X,i+1)
  else litF r (X++ [c]) (i+1)
theorem lit_cons (c:UInt8) (r X:List UInt8) (i:Nat):litF (c::r) X i=
  if isPrint c=false then none
  else if c.toNat=39 then
   (match r with
   | []=>some (X,i+1)
   |d::r'=>if d.toNat=39 then litF r' (X++ [d]) (i+1+1)else some (X,i+1))
  else litF r (X++ [c]) (i+1):=by rw[litF.eq_def]
inductive TR where
 |bad (e:Nat)
 |tok (kind:Nat) (text:List UInt8) (n:Nat)
def headW:List UInt8→Bool
 | []=>false
 |c::_=>inWord c
def wordL (l:List UInt8):TR:=
 if isKw (l.take (spanN inWord l))=true then .tok 2 ((l.take (spanN inWord l)).map upC) (spanN inWord l)
 else if 24<spanN inWord l then .bad 3
 else .tok 1 ((l.take (spanN inWord l)).map loC) (spanN inWord l)
def numL (l:List UInt8):TR:=
 if (1<spanN isDigit l∧l.head? =some 48)∨headW (l.drop (spanN isDigit l))=true then .bad 2
 else if 2147483648<digVal (l.take (spanN isDigit l))then .bad 3
 else .tok 3 (l.take (spanN isDigit l)) (spanN isDigit l)
def textL (r:List UInt8):TR:=
 match litF r [] 1 with
 |none=> .bad 2
 |some (X,i)=>if 16<X.length then .bad 3 else .tok 4 X i
def symL (l:List UInt8):TR:=if symN l=0 then .bad 2 else .tok 5 (l.take (symN l)) (symN l)
def tokL:List UInt8→TR
 | []=> .bad 2
 |c::r=>
  if isLetter c=true then wordL (c::r)
  else if isDigit c=true then numL (c::r)
  else if c.toNat=39 then textL r
  else symL (c::r)
def skipN:Bool→List UInt8→Nat
 |_,[]=>0
 |true,c::r=>if c.toNat=10 then skipN false r+1 else skipN true r+1
 |false,c::r=>
  if c.toNat=32∨c.toNat=9∨c.toNat=10 then skipN false r+1
  else if c.toNat=45∧r.head? =some 45 then skipN true r+1
  else 0
structure Tk where
 kind:Nat
 text:List UInt8
 pos:Nat
inductive Ls where
 |bad (at_ e:Nat)
 |ok (l:List Tk)
def Ls.pre (o:List Tk):Ls→Ls
 | .bad a e=> .bad a e
 | .ok l=> .ok (o++l)
def toksF:Nat→List UInt8→Nat→Ls
 |0,_,p=> .bad p 0
 |f+1,l,p=>
  match l.drop (skipN false l)with
  | []=> .ok [⟨0,[],p+skipN false l⟩]
  |c::r=>
   match tokL (c::r)with
   | .bad e=> .bad (p+skipN false l) e
   | .tok k x n=> (toksF f ((c::r).drop n) (p+skipN false l+n)).pre [⟨k,x,p+skipN false l⟩]
def T (l:List UInt8) (p:Nat):Ls:=toksF (l.length+1) l p
theorem span_le (f:UInt8→Bool):∀l:List UInt8,spanN f l≤l.length
 | []=>Nat.le_refl _
 |c::r=>by
  rw[spanN]
  have:=span_le f r
  split
  ·rw[length_cons];omega
  ·exact Nat.zero_le _
theorem span_all (f:UInt8→Bool):∀l:List UInt8,∀c∈l.take (spanN f l),f c=true
 | []=>by intro c h;simp at h
 |d::r=>by
  intro c h
  rw[spanN]at h
  split at h
  ·rw[take_succ_cons]at h
   rcases List.mem_cons.1 h with rfl|h
   ·assumption
   ·exact span_all f r c h
  ·simp at h
theorem span_pos (f:UInt8→Bool) (c:UInt8) (r:List UInt8) (h:f c=true):1≤spanN f (c::r):=by
 rw[spanN,if_pos h];omega
theorem qZ (f:UInt8→Bool):∀l:List UInt8,∀c,(l.drop (spanN f l)).head? =some c→f c=false
 | []=>by intro c h;simp at h
 |d::r=>by
  intro c h
  rw[spanN]at h
  split at h
  ·rw[drop_succ_cons]at h
   exact qZ f r c h
  ·rw[drop_zero,head?_cons,Option.some.injEq]at h
   subst h
   rename_i hn
   exact Bool.eq_false_iff.2 hn
theorem skip_le:∀(b:Bool) (l:List UInt8),skipN b l≤l.length
 |_,[]=>by cases ‹Bool› <;>exact Nat.le_refl _
 |true,c::r=>by
  rw[skipN,length_cons]
  have a:=skip_le true r
  have e:=skip_le false r
  split<;>omega
 |false,c::r=>by
  rw[skipN,length_cons]
  have a:=skip_le true r
  have e:=skip_le false r
  split
  ·omega
  ·split<;>omega
theorem sym_le (l:List UInt8):symN l≤l.length:=by
 match l with
 | []=>exact Nat.le_refl _
 | [c]=>rw[symN];split<;>simp
 |c::d::r=>
  rw[symN]
  simp only[length_cons]
  split
  ·omega
  ·split<;>omega
theorem lit_bound:∀(l X:List UInt8) (i:Nat) (Y:List UInt8) (j:Nat),litF l X i=some (Y,j)→i+1≤j∧j≤i+l.length∧Y.length+i+1≤X.length+j
 | [],X,i,Y,j=>by intro h;simp[litF]at h
 | [c],X,i,Y,j=>by
  intro h
  rw[litF]at h
  split at h
  ·exact absurd h (by simp)
  split at h
  ·simp only[Option.some.injEq,Prod.mk.injEq]at h
   obtain⟨rfl,rfl⟩:=h
   simp only[length_cons,length_nil]
   omega
  ·simp[litF]at h
 |c::d::r,X,i,Y,j=>by
  intro h
  rw[litF]at h
  simp only[length_cons]
  split at h
  ·exact absurd h (by simp)
  split at h
  ·split at h
   ·have:=lit_bound r _ _ Y j h
    simp only[length_append,length_cons,length_nil]at this
    omega
   ·simp only[Option.some.injEq,Prod.mk.injEq]at h
    obtain⟨rfl,rfl⟩:=h
    omega
  ·have:=lit_bound (d::r) _ _ Y j h
   simp only[length_append,length_cons,length_nil]at this
   omega
theorem tok_bound (c:UInt8) (r:List UInt8) (k:Nat) (x:List UInt8) (n:Nat) (h:tokL (c::r)= .tok k x n):1≤n∧n≤(c::r).length:=by
 rw[tokL]at h
 split at h
 ·rename_i hc
  have f:inWord c=true:=by unfold inWord;rw[hc];rfl
  have b:=span_pos inWord c r f
  have a:=span_le inWord (c::r)
  unfold wordL at h
  split at h
  ·cases h;exact⟨b,a⟩
  ·split at h
   ·cases h
   ·cases h;exact⟨b,a⟩
 split at h
 ·rename_i hc
  have b:=span_pos isDigit c r hc
  have a:=span_le isDigit (c::r)
  unfold numL at h
  split at h
  ·cases h
  ·split at h
   ·cases h
   ·cases h;exact⟨b,a⟩
 split at h
 ·unfold textL at h
  cases e:litF r [] 1 with
  |none=>rw[e]at h;cases h
  |some q=>
   obtain⟨X,i⟩:=q
   have:=lit_bound r [] 1 X i e
   rw[e]at h
   simp only at h
   split at h
   ·cases h
   ·cases h
    rw[length_cons];omega
 ·unfold symL at h
  have a:=sym_le (c::r)
  split at h
  ·cases h
  ·cases h
   omega
theorem ui:∀(f g:Nat) (l:List UInt8) (p:Nat),l.length<f→l.length<g→toksF f l p=toksF g l p
 |0,_,l,p=>by intro h;omega
 |_+1,0,l,p=>by intro _ h;omega
 |f+1,g+1,l,p=>by
  intro i j
  rw[toksF,toksF]
  cases hd:l.drop (skipN false l)with
  |nil=>rfl
  |cons c r=>
   simp only
   cases a:tokL (c::r)with
   |bad e=>rfl
   |tok k x n=>
    simp only
    have b:=tok_bound c r k x n a
    have m:(c::r).length≤l.length:=by rw[←hd,length_drop];omega
    rw[ui f g _ _ (by rw[length_drop];omega) (by rw[length_drop];omega)]
theorem T_eq (l:List UInt8) (p:Nat):T l p=
  (match l.drop (skipN false l)with
  | []=> .ok [⟨0,[],p+skipN false l⟩]
  |c::r=>
   match tokL (c::r)with
   | .bad e=> .bad (p+skipN false l) e
   | .tok k x n=> (T ((c::r).drop n) (p+skipN false l+n)).pre [⟨k,x,p+skipN false l⟩]):=by
 unfold T
 rw[toksF]
 cases hd:l.drop (skipN false l)with
 |nil=>rfl
 |cons c r=>
  simp only
  cases a:tokL (c::r)with
  |bad e=>rfl
  |tok k x n=>
   simp only
   have b:=tok_bound c r k x n a
   have f:(c::r).length≤l.length:=by rw[←hd,length_drop];omega
   rw[ui l.length (((c::r).drop n).length+1) _ _ (by rw[length_drop];omega) (by omega)]
theorem T_end (l:List UInt8) (p:Nat) (h:l.drop (skipN false l)= []):T l p= .ok [⟨0,[],p+skipN false l⟩]:=by
 rw[T_eq,h]
theorem T_bad (l:List UInt8) (p:Nat) (c:UInt8) (r:List UInt8) (e:Nat) (h:l.drop (skipN false l)=c::r) (a:tokL (c::r)= .bad e):T l p= .bad (p+skipN false l) e:=by
 rw[T_eq,h];simp only;rw[a]
theorem T_tok (l:List UInt8) (p:Nat) (c:UInt8) (r:List UInt8) (k:Nat) (x:List UInt8) (n:Nat) (h:l.drop (skipN false l)=c::r) (a:tokL (c::r)= .tok k x n):
  T l p=(T ((c::r).drop n) (p+skipN false l+n)).pre [⟨k,x,p+skipN false l⟩]:=by
 rw[T_eq,h];simp only;rw[a]
theorem pre_pre (a b:List Tk) (x:Ls):(x.pre b).pre a=x.pre (a++b):=by
 cases x<;>simp[Ls.pre]
def tokAll (s:BA):Ls:=if 16384<s.size then .bad 16384 3 else T s.data.toList 0
end Lx
namespace Lx
def Tk.sh (d:Nat) (t:Tk):Tk:=⟨t.kind,t.text,t.pos+d⟩
def Ls.sh (d:Nat):Ls→Ls
 | .bad a e=> .bad (a+d) e
 | .ok l=> .ok (l.map (Tk.sh d))
theorem upC_num (c:UInt8):(upC c).toNat=if 97≤c.toNat∧c.toNat≤122 then c.toNat-32 else c.toNat:=by
 unfold upC
 split
 ·rename_i h
  rw[UInt8.toNat_sub_of_le _ _ (by rw[UInt8.le_iff_toNat_le];have:(32:UInt8).toNat=32:=rfl;omega)]
  rfl
 ·rfl
theorem loC_num (c:UInt8):(loC c).toNat=if 65≤c.toNat∧c.toNat≤90 then c.toNat+32 else c.toNat:=by
 unfold loC
 split
 ·rename_i h
  rw[UInt8.toNat_add]
  have:(32:UInt8).toNat=32:=rfl
  omega
 ·rfl
theorem num_ext (c d:UInt8) (h:c.toNat=d.toNat):c=d:=UInt8.toNat_inj.1 h
theorem up_letter (c:UInt8):isLetter (upC c)=isLetter c:=by
 unfold isLetter
 have h:=upC_num c
 split at h<;>grind
end Lx
namespace Lx
def lowW (c:UInt8):Bool:=(97≤c.toNat&&c.toNat≤122)||isDigit c||c.toNat==95
def nameP (l:List UInt8):Bool:=
 match l with
 | []=>false
 |c::r=>decide (l.length≤24) && (decide (97≤c.toNat) &&decide (c.toNat≤122)) &&l.all lowW&&!(isKw l)
theorem letter_word (c:UInt8) (h:isLetter c=true):inWord c=true:=by unfold inWord;rw[h];rfl
def flat:List UInt8→List UInt8
 | []=> []
 |c::r=>if c.toNat=39 then c::c::flat r else c::flat r
theorem su (d:Nat):∀(l X:List UInt8) (i:Nat),litF l X (i+d)=(litF l X i).map fun q=> (q.1,q.2+d)
 | [],X,i=>by rw[litF,litF];rfl
 | [c],X,i=>by
  rw[lit_cons c [],lit_cons c []]
  by_cases a:isPrint c=false
  ·rw[if_pos a,if_pos a];rfl
  rw[if_neg a,if_neg a]
  by_cases b:c.toNat=39
  ·rw[if_pos b,if_pos b]
   simp only[Option.map_some,Option.some.injEq,Prod.mk.injEq,true_and];omega
  ·rw[if_neg b,if_neg b,litF,litF];rfl
 |c::e::r,X,i=>by
  rw[lit_cons c (e::r),lit_cons c (e::r)]
  by_cases a:isPrint c=false
  ·rw[if_pos a,if_pos a];rfl
  rw[if_neg a,if_neg a]
  by_cases b:c.toNat=39
  ·rw[if_pos b,if_pos b]
   simp only
   by_cases f:e.toNat=39
   ·rw[if_pos f,if_pos f,show i+d+1+1=i+1+1+d by omega,su d r]
   ·rw[if_neg f,if_neg f]
    simp only[Option.map_some,Option.some.injEq,Prod.mk.injEq,true_and];omega
  ·rw[if_neg b,if_neg b,show i+d+1=i+1+d by omega,su d (e::r)]
theorem dv_from (l:List UInt8):∀v,l.foldl (fun v c=>10*v+(c.toNat-48)) v=v*10^l.length+digVal l:=by
 unfold digVal
 induction l with
 |nil=>intro v;simp
 |cons c r ih=>
  intro v
  rw[foldl_cons,foldl_cons,ih,ih (10*0+_),length_cons,Nat.pow_succ,Nat.add_mul]
  have:10*v*10^r.length=v* (10^r.length*10):=by rw[Nat.mul_comm 10 v,Nat.mul_assoc,Nat.mul_comm 10]
  rw[this]
  simp only[Nat.mul_zero,Nat.zero_add]
  omega
theorem dv_cons (c:UInt8) (r:List UInt8):digVal (c::r)=(c.toNat-48)*10^r.length+digVal r:=by
 have:=dv_from r (10*0+(c.toNat-48))
 rw[Nat.mul_zero,Nat.zero_add]at this
 rw[←this]
 show List.foldl _ _ _=_
 rw[foldl_cons,Nat.mul_zero,Nat.zero_add]
theorem dv_lt:∀l:List UInt8,(∀c∈l,isDigit c=true)→digVal l<10^l.length
 | [],_=>by decide
 |c::r,h=>by
  have f:=dv_lt r fun x e=>h x (mem_cons_of_mem _ e)
  have a:=h c mem_cons_self
  rw[dv_cons,length_cons,Nat.pow_succ]
  have b:c.toNat-48≤9:=by unfold isDigit at a;grind
  have g:(c.toNat-48)*10^r.length≤9*10^r.length:=Nat.mul_le_mul_right _ b
  omega
theorem dv_less:∀(a b:List UInt8),a.length=b.length→(∀c∈a,isDigit c=true)→(∀c∈b,isDigit c=true)→Op.bytesLess a b=decide (digVal a<digVal b)
 | [],[],_,_,_=>by decide
 |c::r,d::q,hl,ha,hb=>by
  have e:r.length=q.length:=by simpa using hl
  have g:∀x∈r,isDigit x=true:=fun x j=>ha x (mem_cons_of_mem _ j)
  have i:∀x∈q,isDigit x=true:=fun x j=>hb x (mem_cons_of_mem _ j)
  have m:=dv_lt r g
  have p:=dv_lt q i
  have n:=ha c mem_cons_self
  have o:=hb d mem_cons_self
  have s:48≤c.toNat∧c.toNat≤57:=by unfold isDigit at n;grind
  have hd:48≤d.toNat∧d.toNat≤57:=by unfold isDigit at o;grind
  rw[Op.bytesLess,dv_less r q e g i,dv_cons,dv_cons,e]
  rw[e]at m
  generalize 10^q.length=P at*
  rcases Nat.lt_trichotomy c.toNat d.toNat with h|h|h
  ·have f:decide (c<d)=true:=decide_eq_true (UInt8.lt_iff_toNat_lt.2 h)
   rw[f,Bool.true_or]
   symm
   apply decide_eq_true
   have:(c.toNat-48+1)*P≤(d.toNat-48)*P:=Nat.mul_le_mul_right _ (by omega)
   rw[Nat.add_mul,Nat.one_mul]at this
   omega
  ·have k:=num_ext c d h
   subst k
   have f:decide (c<c)=false:=decide_eq_false (by rw[UInt8.lt_iff_toNat_lt];omega)
   rw[f,Bool.false_or,beq_self_eq_true,Bool.true_and]
   apply decide_eq_decide.2
   omega
  ·have f:decide (c<d)=false:=decide_eq_false (by rw[UInt8.lt_iff_toNat_lt];omega)
   have l:(c==d)=false:=by rw[beq_eq_false_iff_ne];rintro rfl;omega
   rw[f,l,Bool.false_and,Bool.or_false]
   symm
   apply decide_eq_false
   have:(d.toNat-48+1)*P≤(c.toNat-48)*P:=Nat.mul_le_mul_right _ (by omega)
   rw[Nat.add_mul,Nat.one_mul]at this
   omega
def fc:List UInt8:= [50,49,52,55,52,56,51,54,52,56]
theorem dv_big (l:List UInt8) (b:∀c∈l,isDigit c=true) (g:1<l.length→l.head?≠some 48):
  (2147483648<digVal l)↔(10<l.length∨(l.length=10∧Op.bytesLess fc l=true)):=by
 have k:=dv_lt l b
 rcases Nat.lt_trichotomy l.length 10 with h|h|h
 ·constructor
  ·intro f
   exfalso
   have:10^l.length≤10^9:=Nat.pow_le_pow_right (by decide) (by omega)
   have e:10^9=1000000000:=by decide
   omega
  ·rintro(a|⟨a,_⟩)<;>omega
 ·have e:digVal fc=2147483648:=by decide
  rw[dv_less fc l (by rw[h];rfl) (by decide) b,e,decide_eq_true_eq]
  constructor
  ·intro f;exact .inr ⟨h,f⟩
  ·rintro(a|⟨_,a⟩)
   ·omega
   ·exact a
 ·refine⟨fun _=> .inl h,fun _=>?_⟩
  cases l with
  |nil=>simp at h
  |cons c r=>
   rw[length_cons]at h
   rw[dv_cons]
   have i:=b c mem_cons_self
   have m:c.toNat≠48:=fun e=>g (by rw[length_cons];omega) (by rw[head?_cons,num_ext c 48 e])
   have j:1≤c.toNat-48:=by unfold isDigit at i;grind
   have n:10^10≤10^r.length:=Nat.pow_le_pow_right (by decide) (by omega)
   have o:1*10^r.length≤(c.toNat-48)*10^r.length:=Nat.mul_le_mul_right _ j
   have e:10^10=10000000000:=by decide
   omega
end Lx
namespace Lx
def li:Option (List UInt8×Nat)→Value
 |some (X,i)=> .tuple #[.string ⟨X.toArray⟩,i4 i]
 |none=> .tuple #[.string ⟨#[]⟩,i4 (-1)]
def litS (s:BA) (k:Nat):Value:=li (litF (s.data.toList.drop (k+1)) [] (k+1))
theorem ext1 (t:BA) (k:Nat) (h:k<t.size):(t.extract k (k+1)).data.toList= [t[k]]:=by
 have a:k<t.data.toList.length:=by simpa using h
 rw[Lib.extract_data]
 have:t.data.toList.drop k=t.data.toList[k]::t.data.toList.drop (k+1):=drop_eq_getElem_cons a
 rw[show k+1-k=1 by omega,this]
 rfl
theorem bM (s:BA) (k:Nat) (h:k<s.size):s.data.toList.drop k=s[k]::s.data.toList.drop (k+1):=drop_eq_getElem_cons (show k<s.data.toList.length from h)
theorem lit_end (X:BA) (k:Nat):Value.tuple #[.string X,i4 ((k:Int)+1)]=li (some (X.data.toList,k+1)):=by
 show _=Value.tuple #[.string ⟨X.data.toList.toArray⟩,i4 ((k+1:Nat):Int)]
 congr
theorem literal_any (s:BA) (a:Nat) (w:World) (hs:s.size≤20000) (I:a<s.size):
  Cl 167 #[.string s,i4 a] w fun e w'=>e= .returned (litS s a)∧w'=w:=by
 have C:Hid (litS s a=li (litF (s.data.toList.drop (a+1)) [] (a+1))):=rfl
 generalize litS s a=V at*
 go_enter func167,ntmps167
 go_wp2_with fail
 go_loop [6,7] (fun x i=> ∃(k:Nat) (X:BA),k≤s.size∧X.size≤k∧i= i4 k∧x= .string X∧V=li (litF (s.data.toList.drop k) X.data.toList k)) (fun _ i=>s.size- (intOf i).toNat)
 case atStart=>exact⟨a+1,⟨#[]⟩,I,Nat.zero_le _,by go_num,rfl,C⟩
 case round=>
  obtain⟨k,X,L,H,rfl,rfl,z⟩:=hrel
  have j:=hid z
  clear z
  by_cases h:k<s.size
  ·have l:=hid (bM s k h)
   have A:=hid (ext1 s k h)
   have F:(s.extract k (k+1)).size=1:=by
    show(s.extract k (k+1)).data.toList.length=1
    rw[ext1 s k h];rfl
   by_cases y:32≤s[k].toNat∧s[k].toNat≤126
   ·have p:Hid (isPrint s[k]=true):=by unfold Hid isPrint;simpa using y
    have f:Hid (¬isPrint s[k]=false):=by unfold Hid;rw[p.out];decide
    obtain⟨J,K⟩:=y
    by_cases o:s[k].toNat=39
    ·have D:((s[k].toNat:Int)==39)=true:=by rw[o];rfl
     have n:=hid o
     clear o
     by_cases u:k+1<s.size
     ·have m:=hid (bM s (k+1) u)
      have B:=hid (ext1 s (k+1) u)
      have G:(s.extract (k+1) (k+1+1)).size=1:=by
       show(s.extract (k+1) (k+1+1)).data.toList.length=1
       rw[ext1 s (k+1) u];rfl
      have r:((k:Int)+1==(s.size:Int))=false:=by rw[beq_eq_false_iff_ne];omega
      by_cases b:s[k+1].toNat=39
      ·have E:((s[k+1].toNat:Int)==39)=true:=by rw[b];rfl
       have t:((s[k+1].toNat:Int) !=39)=false:=by rw[b];rfl
       have g:=hid b
       clear b
       go_wp2_with fail
       all_goals first
        |(exfalso;simp only[r,t]at*;simp at*;done)
        |skip
       go_round
       case rel=>
        refine⟨k+1+1,X++s.extract (k+1) (k+1+1),by omega,?_,by go_num,rfl,?_⟩
        ·rw[ByteArray.size_append,G];omega
        ·rw[j.out,l.out,lit_cons,if_neg f.out,if_pos n.out,m.out]
         simp only
         rw[if_pos g.out]
         rw[ByteArray.data_append,Array.toList_append,B.out]
       case measure=>simp[intOf];omega
      ·have E:((s[k+1].toNat:Int)==39)=false:=by rw[beq_eq_false_iff_ne];omega
       have t:((s[k+1].toNat:Int) !=39)=true:=by rw[bne_iff_ne];omega
       have g:Hid (¬s[k+1].toNat=39):=b
       clear b
       go_wp2_with fail
       all_goals first
        |(exfalso;simp only[r,t]at*;simp at*;done)
        |skip
       go_ret2
       refine⟨?_,rfl⟩
       show Ending.returned (.tuple #[.string X,i4 ((k:Int)+1)])=_
       rw[lit_end,j.out,l.out,lit_cons,if_neg f.out,if_pos n.out,m.out]
       simp only
       rw[if_neg g.out]
     ·have r:((k:Int)+1==(s.size:Int))=true:=by rw[beq_iff_eq];omega
      go_wp2_with fail
      go_ret2
      refine⟨?_,rfl⟩
      show Ending.returned (.tuple #[.string X,i4 ((k:Int)+1)])=_
      rw[lit_end,j.out,l.out,lit_cons,if_neg f.out,if_pos n.out]
      rw[drop_of_length_le (show s.data.toList.length≤k+1 by show s.size≤_;omega)]
    ·have D:((s[k].toNat:Int)==39)=false:=by rw[beq_eq_false_iff_ne];omega
     have n:Hid (¬s[k].toNat=39):=o
     clear o
     go_wp2_with fail
     go_round
     case rel=>
      refine⟨k+1,X++s.extract k (k+1),by omega,?_,by go_num,rfl,?_⟩
      ·rw[ByteArray.size_append,F];omega
      ·rw[j.out,l.out,lit_cons,if_neg f.out,if_neg n.out]
       rw[ByteArray.data_append,Array.toList_append,A.out]
     case measure=>simp[intOf];omega
   ·have p:Hid (isPrint s[k]=false):=by
     unfold Hid isPrint
     rw[Bool.and_eq_false_iff]
     simp only[decide_eq_false_iff_not]
     omega
    go_wp2_with fail
    all_goals
     go_ret2
     refine⟨?_,rfl⟩
     rw[j.out,l.out,lit_cons,if_pos p.out]
     rfl
  ·go_wp2_with fail
   go_ret2
   refine⟨?_,rfl⟩
   rw[j.out,drop_of_length_le (show s.data.toList.length≤k by show s.size≤_;omega),litF]
   rfl
end Lx
namespace Lx
def BM (w:World) (g:Nat) (t:TypeId) (cs:LV):Prop:=∃lo hi:Nat,cs.length≤lo∧w.heap[g]? =some (.cells cs.toArray t (lo,hi))
theorem BM.cell {w:World} {g:Nat} {t:TypeId} {cs:LV} (h:BM w g t cs) {i:Nat} {v:Value} (a:cs[i]? =some v):w.cell? ⟨g,i,none⟩=some v:=by
 obtain⟨lo,hi,_,h⟩:=h
 simp[World.cell?,h,a]
theorem BM.frozen {w:World} {g:Nat} {t:TypeId} {cs:LV} (h:BM w g t cs) {i:Nat} (hi:i<cs.length):w.frozen? ⟨g,i,none⟩=false:=by
 obtain⟨lo,a,b,h⟩:=h
 unfold World.frozen?
 rw[h]
 simp only[Bool.and_eq_false_iff,decide_eq_false_iff_not]
 left;omega
theorem BM.set {w:World} {g:Nat} {t:TypeId} {cs:LV} (h:BM w g t cs) (i:Nat) (u:Value):BM (w.setCell ⟨g,i,none⟩ u) g t (cs.set i u):=by
 obtain⟨lo,hi,a,h⟩:=h
 refine⟨lo,hi,by rw[length_set];exact a,?_⟩
 simp[World.setCell,Array.getElem?_modify,h]
theorem BM.ext {w w':World} {g:Nat} {t:TypeId} {cs:LV} (h:BM w g t cs) (b:Ext w w'):BM w' g t cs:=by
 obtain⟨lo,hi,a,h⟩:=h
 exact⟨lo,hi,a,(Below.block b g (Array.getElem?_eq_some_iff.1 h).1).trans h⟩
theorem BM.lt {w:World} {g:Nat} {t:TypeId} {cs:LV} (h:BM w g t cs):g<w.heap.size:=by
 obtain⟨lo,hi,_,h⟩:=h
 exact(Array.getElem?_eq_some_iff.1 h).1
def b8 (l:List UInt8):LV:=l.map fun c=> .int .u8 (c.toNat:Int)
theorem nf (l:List UInt8):(b8 l).length=l.length:=length_map _
theorem b8_get (l:List UInt8) (i:Nat) (h:i<l.length):(b8 l)[i]? =some (.int .u8 ((l[i].toNat:Nat):Int)):=by
 simp[b8,getElem?_map,getElem?_eq_getElem h]
theorem ku (l:List UInt8) (r:LV) (i:Nat) (h:i<l.length):(b8 l++r)[i]? =some (.int .u8 ((l[i].toNat:Nat):Int)):=by
 rw[getElem?_append_left (by rw[nf];exact h),b8_get l i h]
theorem sx (l:List UInt8) (r:LV) (i:Nat) (c:UInt8) (h:i<l.length):(b8 l++r).set i (.int .u8 (c.toNat:Int))=b8 (l.set i c)++r:=by
 rw[set_append_left _ _ (by rw[nf];exact h)]
 simp[b8,map_set]
theorem jG {P:Program} (w:World) (b a e:TypeId) (s:BA) (hs:P.underlying b=some .string) (hd:P.underlying a=some (.slice e)) (i:P.underlying e=some (.int .u8)):
  ∃g f rest,(convert b a (.string s)).run P w= .ok (.slice (some ⟨w.heap.size,0,none⟩) s.size g) f∧Ext w f∧f.heap.size=w.heap.size+1∧BM f w.heap.size e (b8 s.data.toList++rest):=by
 refine⟨_,_,(Array.replicate (grownCap w s.size 0 e-s.size) (.int .u8 0)).toList,run_bytes_of_string w b a e s hs hd i,((Ext.refl w).drew).alloc _,by simp,?_⟩
 have h:b8 s.data.toList++(Array.replicate (grownCap w s.size 0 e-s.size) (Value.int .u8 0)).toList=(bytesRow s (grownCap w s.size 0 e)).toList:=by
  unfold bytesRow b8
  rw[Array.toList_append,Array.toList_map]
 rw[h]
 refine⟨(bytesRow s (grownCap w s.size 0 e)).size,(bytesRow s (grownCap w s.size 0 e)).size+1,Nat.le_of_eq (by rw[Array.length_toList]),?_⟩
 show(w.heap.push _)[w.heap.size]? =_
 simp
theorem strOf_b8 (l:List UInt8):strOfNums (l.map fun c=> (c.toNat:Int))=⟨l.toArray⟩:=by
 unfold strOfNums
 congr 1
 simp[Function.comp_def]
theorem lX {P:Program} {w:World} (b a e g f:Nat) (l:List UInt8) (r:LV) (n:Nat) (k:n=l.length) (hs:P.underlying b=some (.slice e)) (j:P.underlying e=some (.int .u8)) (hd:P.underlying a=some .string)
  (h:BM w g e (b8 l++r)):(convert b a (.slice (some ⟨g,0,none⟩) n f)).run P w= .ok (.string ⟨l.toArray⟩) w:=by
 rw[run_convert_bytes_arg w b e hs j g 0 n f (l.map fun c=> (c.toNat:Int)) (by simp[k]) (fun i hi=>?_) a hd,strOf_b8]
 rw[Nat.zero_add,h.cell (ku l r i (by omega))]
 simp[getElem?_eq_getElem (show i<l.length by omega)]
def dU (f:UInt8→UInt8) (l:List UInt8) (k:Nat):List UInt8:=(l.take k).map f++l.drop k
theorem eF (f:UInt8→UInt8) (l:List UInt8) (k:Nat):(dU f l k).length=l.length:=by
 unfold dU
 rw[length_append,length_map,length_take,length_drop]
 omega
theorem jH (f:UInt8→UInt8) (s:BA) (k:Nat) (h:k<s.size) (b:k<(dU f s.data.toList k).length):(dU f s.data.toList k)[k]=s[k]:=by
 have a:((s.data.toList.take k).map f).length=k:=by
  rw[length_map,length_take]
  have:s.data.toList.length=s.size:=rfl
  omega
 unfold dU at*
 rw[getElem_append_right (by omega)]
 simp only[a,Nat.sub_self]
 simp only[bM s k h,getElem_cons_zero]
theorem jI (f:UInt8→UInt8) (s:BA) (k:Nat) (h:k<s.size):(dU f s.data.toList k).set k (f s[k])=dU f s.data.toList (k+1):=by
 have a:((s.data.toList.take k).map f).length=k:=by
  rw[length_map,length_take]
  have:s.data.toList.length=s.size:=rfl
  omega
 unfold dU
 rw[set_append_right _ _ (by omega),a,Nat.sub_self,bM s k h,set_cons_zero,take1 s k h,map_append,append_assoc]
 rfl
theorem kv (f:UInt8→UInt8) (s:BA) (k:Nat) (h:k<s.size) (e:f s[k]=s[k]):dU f s.data.toList k=dU f s.data.toList (k+1):=by
 have a:k<(dU f s.data.toList k).length:=by rw[eF];exact h
 rw[←jI f s k h,e]
 conv=>rhs;rw[←jH f s k h a]
 exact(set_getElem_self a).symm
theorem lY (f:UInt8→UInt8) (s:BA) (k:Nat) (h:k=s.size):dU f s.data.toList k=s.data.toList.map f:=by
 subst h
 unfold dU
 have e:s.data.toList.length=s.size:=rfl
 rw[take_of_length_le (Nat.le_of_eq e),drop_of_length_le (Nat.le_of_eq e),append_nil]
theorem ra (s:BA) (w:World) (hs:s.size≤20000):Cl 230 #[.string s] w fun e w'=>e= .returned (.string ⟨(s.data.toList.map upC).toArray⟩)∧Ext w w':=by
 obtain⟨o,E,rest,f,j,m,h⟩:=jG (P:=prog) w 9 60 5 s underlying9 underlying60 underlying5
 have C:=hid m
 clear m
 go_enter func230,ntmps230
 go_wp2_with fail
 go_loopw [4,5,10] (fun _ _ i wr=> ∃k:Nat,k≤s.size∧i= i4 k∧BM wr w.heap.size 5 (b8 (dU upC s.data.toList k)++rest)∧Ext w wr) (fun _ _ i _=>s.size- (intOf i).toNat)
 case atStart=>exact⟨0,Nat.zero_le _,rfl,h,j⟩
 case round=>
  obtain⟨k,D,rfl,a,l⟩:=hrel
  have t:=hid a
  have n:=hid l
  clear l j h f
  by_cases b:k<s.size
  ·have g:k<(dU upC s.data.toList k).length:=by rw[eF];exact b
   have r:=a.cell (ku _ rest k g)
   rw[jH upC s k b g]at r
   have B:wr.frozen? ⟨w.heap.size,k,none⟩=false:=a.frozen (by rw[length_append,nf];omega)
   clear a
   by_cases p:97≤s[k].toNat∧s[k].toNat≤122
   ·have x:Hid ((upC s[k]).toNat=s[k].toNat-32):=by unfold Hid;rw[upC_num,if_pos p]
    obtain⟨z,A⟩:=p
    go_wp2_with fail
    go_roundw
    case rel=>
     refine⟨k+1,by omega,by go_num,?_,n.setCell (Nat.le_refl _) _⟩
     have u:=t.set k (.int .u8 ((upC s[k]).toNat:Int))
     rw[sx _ rest k _ g,jI upC s k b,x.out]at u
     have e:(((s[k].toNat:Int)-97+65):Int)=((s[k].toNat-32:Nat):Int):=by omega
     rw[e]
     exact u
    case measure=>simp[intOf];omega
   ·have y:Hid (dU upC s.data.toList k=dU upC s.data.toList (k+1)):=kv upC s k b (by unfold upC;rw[if_neg p])
    go_wp2_with fail
    all_goals
     go_roundw
     case rel=>exact⟨k+1,by omega,by go_num,by rw[←y.out];exact t,n⟩
     case measure=>simp[intOf];omega
  ·have f:=lX (P:=prog) (w:=wr) 60 9 5 w.heap.size o (dU upC s.data.toList k) rest s.size (by rw[eF];rfl) underlying60 underlying5 underlying9 a
   rw[lY upC s k (by omega)]at f
   go_wp2_with fail
   go_ret
   exact⟨rfl,n⟩
theorem lj (s:BA) (w:World) (hs:s.size≤20000):Cl 165 #[.string s] w fun e w'=>e= .returned (.string ⟨(s.data.toList.map upC).toArray⟩)∧Ext w w':=by
 obtain⟨o,E,rest,f,j,m,h⟩:=jG (P:=prog) w 9 60 5 s underlying9 underlying60 underlying5
 have C:=hid m
 clear m
 go_enter func165,ntmps165
 go_wp2_with fail
 go_loopw [4] (fun i wr=> ∃k:Nat,k≤s.size∧i= i4 k∧BM wr w.heap.size 5 (b8 (dU upC s.data.toList k)++rest)∧Ext w wr) (fun i _=>s.size- (intOf i).toNat)
 case atStart=>exact⟨0,Nat.zero_le _,rfl,h,j⟩
 case round=>
  obtain⟨k,D,rfl,a,l⟩:=hrel
  have t:=hid a
  have n:=hid l
  clear l j h f
  by_cases b:k<s.size
  ·have g:k<(dU upC s.data.toList k).length:=by rw[eF];exact b
   have r:=a.cell (ku _ rest k g)
   rw[jH upC s k b g]at r
   have B:wr.frozen? ⟨w.heap.size,k,none⟩=false:=a.frozen (by rw[length_append,nf];omega)
   clear a
   by_cases p:97≤s[k].toNat∧s[k].toNat≤122
   ·have x:Hid ((upC s[k]).toNat=s[k].toNat-32):=by unfold Hid;rw[upC_num,if_pos p]
    obtain⟨z,A⟩:=p
    go_wp2_with fail
    go_roundw
    case rel=>
     refine⟨k+1,by omega,by go_num,?_,n.setCell (Nat.le_refl _) _⟩
     have u:=t.set k (.int .u8 ((upC s[k]).toNat:Int))
     rw[sx _ rest k _ g,jI upC s k b,x.out]at u
     have e:(((s[k].toNat:Int)-32):Int)=((s[k].toNat-32:Nat):Int):=by omega
     rw[e]
     exact u
    case measure=>simp[intOf];omega
   ·have y:Hid (dU upC s.data.toList k=dU upC s.data.toList (k+1)):=kv upC s k b (by unfold upC;rw[if_neg p])
    go_wp2_with fail
    all_goals
     go_roundw
     case rel=>exact⟨k+1,by omega,by go_num,by rw[←y.out];exact t,n⟩
     case measure=>simp[intOf];omega
  ·have f:=lX (P:=prog) (w:=wr) 60 9 5 w.heap.size o (dU upC s.data.toList k) rest s.size (by rw[eF];rfl) underlying60 underlying5 underlying9 a
   rw[lY upC s k (by omega)]at f
   go_wp2_with fail
   go_ret
   exact⟨rfl,n⟩
theorem lower_any (s:BA) (w:World) (hs:s.size≤20000):Cl 231 #[.string s] w fun e w'=>e= .returned (.string ⟨(s.data.toList.map loC).toArray⟩)∧Ext w w':=by
 obtain⟨o,E,rest,f,j,m,h⟩:=jG (P:=prog) w 9 60 5 s underlying9 underlying60 underlying5
 have C:=hid m
 clear m
 go_enter func231,ntmps231
 go_wp2_with fail
 go_loopw [4,5,10] (fun _ _ i wr=> ∃k:Nat,k≤s.size∧i= i4 k∧BM wr w.heap.size 5 (b8 (dU loC s.data.toList k)++rest)∧Ext w wr) (fun _ _ i _=>s.size- (intOf i).toNat)
 case atStart=>exact⟨0,Nat.zero_le _,rfl,h,j⟩
 case round=>
  obtain⟨k,D,rfl,a,l⟩:=hrel
  have t:=hid a
  have n:=hid l
  clear l j h f
  by_cases b:k<s.size
  ·have g:k<(dU loC s.data.toList k).length:=by rw[eF];exact b
   have r:=a.cell (ku _ rest k g)
   rw[jH loC s k b g]at r
   have B:wr.frozen? ⟨w.heap.size,k,none⟩=false:=a.frozen (by rw[length_append,nf];omega)
   clear a
   by_cases p:65≤s[k].toNat∧s[k].toNat≤90
   ·have x:Hid ((loC s[k]).toNat=s[k].toNat+32):=by unfold Hid;rw[loC_num,if_pos p]
    obtain⟨z,A⟩:=p
    go_wp2_with fail
    go_roundw
    case rel=>
     refine⟨k+1,by omega,by go_num,?_,n.setCell (Nat.le_refl _) _⟩
     have u:=t.set k (.int .u8 ((loC s[k]).toNat:Int))
     rw[sx _ rest k _ g,jI loC s k b,x.out]at u
     have e:(((s[k].toNat:Int)-65+97):Int)=((s[k].toNat+32:Nat):Int):=by omega
     rw[e]
     exact u
    case measure=>simp[intOf];omega
   ·have y:Hid (dU loC s.data.toList k=dU loC s.data.toList (k+1)):=kv loC s k b (by unfold loC;rw[if_neg p])
    go_wp2_with fail
    all_goals
     go_roundw
     case rel=>exact⟨k+1,by omega,by go_num,by rw[←y.out];exact t,n⟩
     case measure=>simp[intOf];omega
  ·have f:=lX (P:=prog) (w:=wr) 60 9 5 w.heap.size o (dU loC s.data.toList k) rest s.size (by rw[eF];rfl) underlying60 underlying5 underlying9 a
   rw[lY loC s k (by omega)]at f
   go_wp2_with fail
   go_ret
   exact⟨rfl,n⟩
theorem wm (s:BA) (w:World) (hs:s.size≤20000):Cl 166 #[.string s] w fun e w'=>e= .returned (.string ⟨(s.data.toList.map loC).toArray⟩)∧Ext w w':=by
 obtain⟨o,E,rest,f,j,m,h⟩:=jG (P:=prog) w 9 60 5 s underlying9 underlying60 underlying5
 have C:=hid m
 clear m
 go_enter func166,ntmps166
 go_wp2_with fail
 go_loopw [4] (fun i wr=> ∃k:Nat,k≤s.size∧i= i4 k∧BM wr w.heap.size 5 (b8 (dU loC s.data.toList k)++rest)∧Ext w wr) (fun i _=>s.size- (intOf i).toNat)
 case atStart=>exact⟨0,Nat.zero_le _,rfl,h,j⟩
 case round=>
  obtain⟨k,D,rfl,a,l⟩:=hrel
  have t:=hid a
  have n:=hid l
  clear l j h f
  by_cases b:k<s.size
  ·have g:k<(dU loC s.data.toList k).length:=by rw[eF];exact b
   have r:=a.cell (ku _ rest k g)
   rw[jH loC s k b g]at r
   have B:wr.frozen? ⟨w.heap.size,k,none⟩=false:=a.frozen (by rw[length_append,nf];omega)
   clear a
   by_cases p:65≤s[k].toNat∧s[k].toNat≤90
   ·have x:Hid ((loC s[k]).toNat=s[k].toNat+32):=by unfold Hid;rw[loC_num,if_pos p]
    obtain⟨z,A⟩:=p
    go_wp2_with fail
    go_roundw
    case rel=>
     refine⟨k+1,by omega,by go_num,?_,n.setCell (Nat.le_refl _) _⟩
     have u:=t.set k (.int .u8 ((loC s[k]).toNat:Int))
     rw[sx _ rest k _ g,jI loC s k b,x.out]at u
     have e:(((s[k].toNat:Int)+32):Int)=((s[k].toNat+32:Nat):Int):=by omega
     rw[e]
     exact u
    case measure=>simp[intOf];omega
   ·have y:Hid (dU loC s.data.toList k=dU loC s.data.toList (k+1)):=kv loC s k b (by unfold loC;rw[if_neg p])
    go_wp2_with fail
    all_goals
     go_roundw
     case rel=>exact⟨k+1,by omega,by go_num,by rw[←y.out];exact t,n⟩
     case measure=>simp[intOf];omega
  ·have f:=lX (P:=prog) (w:=wr) 60 9 5 w.heap.size o (dU loC s.data.toList k) rest s.size (by rw[eF];rfl) underlying60 underlying5 underlying9 a
   rw[lY loC s k (by omega)]at f
   go_wp2_with fail
   go_ret
   exact⟨rfl,n⟩
end Lx
section
open Go.Shelf
def Tryz.lays26_ren:Go.Shelf.Ren:=⟨fun|26=>262|33=>279|34=>280|38=>298|n=>n,fun|24=>101|40=>230|n=>n,fun|n=>n⟩
theorem Tryz.lays26:Go.Proofs.Lays2.n26 prog Tryz.lays26_ren:= {
 mixed:=by kernel_rfl
 f26:=func262.trans (congrArg some (by kernel_rfl))
 f33:=func279.trans (congrArg some (by kernel_rfl))
 f34:=func280.trans (congrArg some (by kernel_rfl))
 f38:=func298.trans (congrArg some (by kernel_rfl))
 t0:=underlying0
 a0:=Tryz.isAgg0
 z0:=Tryz.sizeOf0
 v0:=Tryz.zeroValue0
 t3:=underlying3
 a3:=Tryz.isAgg3
 z3:=Tryz.sizeOf3
 v3:=Tryz.zeroValue3
 t4:=underlying4
 a4:=Tryz.isAgg4
 z4:=Tryz.sizeOf4
 v4:=Tryz.zeroValue4
 t9:=underlying9
 a9:=Tryz.isAgg9
 z9:=Tryz.sizeOf9
 v9:=Tryz.zeroValue9
 t24:=underlying101
 a24:=Tryz.isAgg101
 z24:=Tryz.sizeOf101
 v24:=Tryz.zeroValue101
 t40:=underlying230
 a40:=Tryz.isAgg230
 z40:=Tryz.sizeOf230
 v40:=Tryz.zeroValue230 }
open Go.RowKit in
theorem Tryz.slices_BinarySearch (b a n c:Nat) (Sx:Nat→BA) (x:BA) (w:World) (f:n<4611686018427387904) (g:∀j,j<n→w.cell? ⟨b,a+j,none⟩=some (.string (Sx j))):
  Cl 262 #[.slice (some ⟨b,a,none⟩) n c,.string x] w fun e w'=>
   e= .returned (.tuple #[i4 (Lib.bsGo (fun t=>Op.bytesLess (Sx t).toList x.toList) n 0 n:Nat),.bool (decide (Lib.bsGo (fun t=>Op.bytesLess (Sx t).toList x.toList) n 0 n<n∧Sx (Lib.bsGo (fun t=>Op.bytesLess (Sx t).toList x.toList) n 0 n)=x))])∧∃q,w'=w.drewN q:=Any2.slices_BinarySearch_string Tryz.lays26 b a n c Sx x w f g
end
namespace Lx
def kwAt (t:Nat):List UInt8:=kwNames.getD t [255]
def kwStr (t:Nat):BA:=⟨(kwAt t).toArray⟩
def kwVals:LV:=kwNames.map fun l=> .string ⟨l.toArray⟩
theorem kwVals_get (k:Nat) (h:k<47):kwVals[k]? =some (.string (kwStr k)):=by
 have a:k<kwNames.length:=h
 unfold kwVals kwStr kwAt
 rw[getElem?_map,getD_eq_getElem?_getD,getElem?_eq_getElem a]
 rfl
theorem lZ (l:List UInt8):(⟨l.toArray⟩:BA).toList=l:=by rw[ByteArray.toList_eq]
theorem gz (k:Nat):(kwStr k).toList=kwAt k:=lZ _
theorem kw_sorted:(List.range 47).all (fun j=> (List.range 48).all fun t=>Op.bytesLess (kwAt t) (kwAt j)==decide (t<j))=true:=by decide+kernel
theorem kw_less (j t:Nat) (f:j<47):Op.bytesLess (kwAt t) (kwAt j)=decide (t<j):=by
 have b:=List.all_eq_true.1 (List.all_eq_true.1 kw_sorted j (List.mem_range.2 f))
 rcases Nat.lt_or_ge t 48 with h|h
 ·exact eq_of_beq (b t (List.mem_range.2 h))
 ·have a:=eq_of_beq (b 47 (List.mem_range.2 (by omega)))
  have e:kwAt t=kwAt 47:=by
   unfold kwAt
   rw[getD_eq_getElem?_getD,getD_eq_getElem?_getD,getElem?_eq_none (show kwNames.length≤t from Nat.le_trans (by decide) h),getElem?_eq_none (show kwNames.length≤47 from Nat.le_refl _)]
  rw[e,a]
  apply decide_eq_decide.2
  omega
theorem kw_search (x:List UInt8):decide (Lib.bsGo (fun t=>Op.bytesLess (kwStr t).toList (⟨x.toArray⟩:BA).toList) 47 0 47<47∧kwStr (Lib.bsGo (fun t=>Op.bytesLess (kwStr t).toList (⟨x.toArray⟩:BA).toList) 47 0 47)=⟨x.toArray⟩)=decide (x∈kwNames):=by
 by_cases h:x∈kwNames
 ·obtain⟨j,f,m⟩:=getElem_of_mem h
  have a:j<47:=f
  have e:x=kwAt j:=by unfold kwAt;rw[getD_eq_getElem?_getD,getElem?_eq_getElem f,m];rfl
  have l:Lib.bsGo (fun t=>Op.bytesLess (kwStr t).toList (⟨x.toArray⟩:BA).toList) 47 0 47=j:=by
   apply Lib.bsGo_spec _ j
   ·intro t g
    show Op.bytesLess (kwStr t).toList _=true
    rw[gz,lZ,e,kw_less j t a,decide_eq_true g]
   ·intro t g
    show Op.bytesLess (kwStr t).toList _=false
    rw[gz,lZ,e,kw_less j t a,decide_eq_false (by omega)]
   ·omega
   ·omega
   ·omega
  rw[l,decide_eq_true h,decide_eq_true]
  refine⟨a,?_⟩
  unfold kwStr
  rw[e]
 ·rw[decide_eq_false h]
  apply decide_eq_false
  generalize Lib.bsGo _ 47 0 47=I
  rintro⟨i,k⟩
  apply h
  have b:=congrArg ByteArray.toList k
  rw[gz,lZ]at b
  rw[←b]
  unfold kwAt
  rw[getD_eq_getElem?_getD,getElem?_eq_getElem (show I<kwNames.length from i)]
  exact getElem_mem _
def KwAt (w:World):Prop:=∃b off c,w.cell? ⟨0,0,none⟩=some (.slice (some ⟨b,off,none⟩) 47 c)∧∀j,j<47→w.cell? ⟨b,off+j,none⟩=some (.string (kwStr j))
theorem KwAt.ext {w w':World} (h:KwAt w) (e:Ext w w'):KwAt w':=by
 obtain⟨b,a,c,f,g⟩:=h
 exact⟨b,a,c,e.keep f,fun j i=>e.keep (g j i)⟩
theorem wn (b a c:Nat) (x:List UInt8) (w:World) (h:∀j,j<47→w.cell? ⟨b,a+j,none⟩=some (.string (kwStr j))):
  ∃I:Int,∀(y:ai w),Cl 262 #[.slice (some ⟨b,a,none⟩) 47 c,.string ⟨x.toArray⟩] y.now fun e w'=>e= .returned (.tuple #[i4 I,.bool (decide (x∈kwNames))])∧Ext y.now w':=by
 refine⟨((Lib.bsGo (fun t=>Op.bytesLess (kwStr t).toList (⟨x.toArray⟩:BA).toList) 47 0 47:Nat):Int),fun y=>?_⟩
 refine(Tryz.slices_BinarySearch b a 47 c kwStr ⟨x.toArray⟩ y.now (by decide) fun j f=>y.ext.keep (h j f)).mono ?_
 rintro e w' ⟨rfl,q,rfl⟩
 refine⟨?_,(Ext.refl _).drewN q⟩
 rw[kw_search]
theorem keyword_any (s:BA) (w:World) (hs:s.size≤20000) (l:KwAt w):Cl 229 #[.string s] w fun e w'=>e= .returned (.bool (isKw s.data.toList))∧Ext w w':=by
 obtain⟨b,f,c,g,h⟩:=l
 obtain⟨I,i⟩:=wn b f c (s.data.toList.map upC) w h
 have k:=ai.keep g
 have j:=hid i
 clear i h
 go_enter func229,ntmps229
 go_wp2_with fail
 refine af (by kernel_rfl) (by kernel_rfl) ?_
 repeat (go_big_quiet_step ((first|(go_at_call 230;exact aq (ra s _ hs))|(go_at_call 262;exact aq (j _)))))
 refine wpQuiet_nil ?_
 intro w' a
 have m:=am a
 clear a k g
 go_wp2_with fail
 go_ret
 exact⟨rfl,m⟩
theorem sy (w:World):Cl 224 #[] w fun e w'=>e= .returned (.slice (some ⟨w.heap.size,0,none⟩) 47 47)∧Ext w w'∧Blk w' w.heap.size 9 kwVals:=by
 go_enter func224,ntmps224
 go_wp2_with fail
 go_ret
 exact⟨rfl,x10 w _,Blk.of_new w 9 kwVals⟩
theorem sA (s:BA) (w:World) (hs:s.size≤20000):Cl 164 #[.string s] w fun e w'=>e= .returned (.bool (isKw s.data.toList))∧Ext w w':=by
 go_enter func164,ntmps164
 go_wp2_with fail
 refine(sy _).mono ?_
 rintro e B ⟨rfl,r,t⟩
 go_wp2_with fail
 go_loopw [4] (fun i wr=> ∃k:Nat,k≤47∧i= i4 k∧(∀j,j<k→kwAt j≠s.data.toList.map upC)∧Ext B wr) (fun i _=>47- (intOf i).toNat)
 case atStart=>exact⟨0,Nat.zero_le _,rfl,fun j m=>absurd m (Nat.not_lt_zero _),Ext.refl _⟩
 case round=>
  obtain⟨k,C,rfl,o,b⟩:=hrel
  have g:=hid o
  clear o
  by_cases n:k<47
  ·have u:=(t.ext b).cell_some (kwVals_get k n)
   have l:=ai.keep u
   by_cases f:kwAt k=s.data.toList.map upC
   ·have z:((kwStr k).toList==s.data.toList.map upC)=true:=by rw[gz,beq_iff_eq];exact f
    have y:Hid (isKw s.data.toList=true):=by
     unfold Hid isKw
     apply decide_eq_true
     rw[←f]
     unfold kwAt
     rw[getD_eq_getElem?_getD,getElem?_eq_getElem (show k<kwNames.length from n)]
     exact getElem_mem _
    clear f
    go_wp2_with fail
    refine af (by kernel_rfl) (by kernel_rfl) ?_
    repeat (go_big_quiet_step ((go_at_call 165;exact aq (lj s _ hs))))
    refine wpQuiet_nil ?_
    intro w' a
    have p:=am a
    clear a u l
    go_wp2_with fail
    go_ret
    exact⟨aa y.symm,r.trans (b.trans p)⟩
   ·have z:((kwStr k).toList==s.data.toList.map upC)=false:=by rw[gz,beq_eq_false_iff_ne];exact f
    have x:=hid f
    clear f
    go_wp2_with fail
    refine af (by kernel_rfl) (by kernel_rfl) ?_
    repeat (go_big_quiet_step ((go_at_call 165;exact aq (lj s _ hs))))
    refine wpQuiet_nil ?_
    intro w' a
    have p:=am a
    clear a u l
    go_wp2_with fail
    go_roundw
    case rel=>
     refine⟨k+1,by omega,by go_num,fun j m=>?_,b.trans p⟩
     rcases Nat.lt_or_ge j k with h|h
     ·exact g j h
     ·obtain rfl:j=k:=by omega
      exact x
    case measure=>simp[intOf];omega
  ·go_wp2_with fail
   go_ret
   refine⟨aa ?_,r.trans b⟩
   obtain rfl:k=47:=by omega
   unfold isKw
   symm
   apply decide_eq_false
   intro A
   obtain⟨j,m,p⟩:=getElem_of_mem A
   refine g j m ?_
   unfold kwAt
   rw[getD_eq_getElem?_getD,getElem?_eq_getElem m,p]
   rfl
end Lx
namespace Lx
def TRes:TR→Value
 | .bad e=> .tuple #[.agg #[i4 0,.string ⟨#[]⟩,i4 0],i4 0,i4 e]
 | .tok k x n=> .tuple #[.agg #[i4 k,.string ⟨x.toArray⟩,i4 0],i4 n,i4 0]
def om:Option (List UInt8×Nat)→TR
 |none=> .bad 2
 |some (X,i)=>if 16<X.length then .bad 3 else .tok 4 X i
theorem u8s_b8 (l:List UInt8):u8s (l.map UInt8.toNat)=b8 l:=by unfold u8s b8;rw[map_map];rfl
theorem S_list (l:List UInt8):S (l.map UInt8.toNat)=⟨l.toArray⟩:=by
 unfold S
 rw[map_map]
 congr 1
 simp[Function.comp_def]
theorem conv_own8 {P:Program} {w:World} (b a e B n:Nat) (v:Value) (l:List UInt8) (hs:P.underlying b=some (.slice e)) (g:P.underlying e=some (.int .u8)) (hd:P.underlying a=some .string)
  (f:w.ownsRow B e 1 v n (b8 l)):(convert b a v).run P w= .ok (.string ⟨l.toArray⟩) w:=by
 rw[←u8s_b8]at f
 rw[conv_own b a e B n v (l.map UInt8.toNat) hs g hd f,S_list]
theorem own_shape {w:World} {B e n:Nat} {v:Value} {a:LV} (h:w.ownsRow B e 1 v n a):∃A c,v= .slice A n c:=by
 rcases h.2 with ⟨rfl,h0⟩|⟨g,cap,cur,rfl,_⟩
 ·exact⟨none,0,by rw[h0]⟩
 ·exact⟨some ⟨g,0,none⟩,cap,rfl⟩
theorem info5:(prog.info? 5).map (fun i=> (i.zero,i.size,i.bytes))=some (some (.int .u8 0),1,1):=by kernel_rfl
theorem info_parts {t:TypeId} {z:Value} {n b:Nat} (h:(prog.info? t).map (fun i=> (i.zero,i.size,i.bytes))=some (some z,n,b)):∃i,prog.info? t=some i∧i.zero=some z∧i.size=n∧i.bytes=b:=by
 cases hi:prog.info? t with
 |none=>rw[hi]at h;cases h
 |some i=>
  rw[hi]at h
  simp only[Option.map_some,Option.some.injEq,Prod.mk.injEq]at h
  exact⟨i,rfl,h.1,h.2.1,h.2.2⟩
theorem b8_snoc (l:List UInt8) (c:UInt8):b8 (l++ [c])=b8 l++ [.int .u8 (c.toNat:Int)]:=by unfold b8;rw[map_append];rfl
theorem text_any (s:BA) (w:World) (hs:s.size≤20000) (h0:0<s.size):Cl 175 #[.string s] w fun e w'=>e= .returned (TRes (textL (s.data.toList.drop 1)))∧Ext w w':=by
 obtain⟨i0,hi,J,K,L⟩:=info_parts info5
 have HL:Hid (TRes (textL (s.data.toList.drop 1))=TRes (om (litF (s.data.toList.drop 1) [] 1))):=rfl
 generalize TRes (textL (s.data.toList.drop 1))=V at*
 have O:=hid (Blk.of_new w 70 [i4 0,.string ⟨#[]⟩,i4 0])
 go_enter func175,ntmps175
 go_wp2_with fail
 go_loopw [5,6] (fun v i wr=> ∃(k:Nat) (X:List UInt8),i= i4 k∧1≤k∧k≤s.size∧X.length≤k∧Ext w wr∧Blk wr w.heap.size 70 [i4 0,.string ⟨#[]⟩,i4 0]∧wr.ownsRow (w.heap.size+1) 5 1 v X.length (b8 X)∧V=TRes (om (litF (s.data.toList.drop k) X k))) (fun _ i _=>s.size- (intOf i).toNat)
 case atStart=>exact⟨1,[],rfl,Nat.le_refl _,h0,Nat.zero_le _,x10 w _,O,World.ownsRow_nil _ _ _ _,HL⟩
 case round=>
  obtain⟨k,X,rfl,a1,a2,ac,f,z,a,hv⟩:=hrel
  obtain⟨A,c,rfl⟩:=own_shape a
  have y:=hid hv
  have b:=hid z
  clear hv
  have ad:=z.cell 0
  have ag:=z.cell 1
  have an:=z.cell 2
  obtain⟨ax,aS,a0,-⟩:=frz z
  clear z
  have r:=conv_own8 (P:=prog) 60 9 5 (w.heap.size+1) X.length _ X underlying60 underlying5 underlying9 a
  by_cases U:k<s.size
  ·have B:=hid (bM s k U)
   by_cases W:32≤s[k].toNat∧s[k].toNat≤126
   ·have Q:Hid (isPrint s[k]=true):=by unfold Hid isPrint;simpa using W
    have p:Hid (¬isPrint s[k]=false):=by unfold Hid;rw[Q.out];decide
    obtain⟨Y,Z⟩:=W
    by_cases H:s[k].toNat=39
    ·have b1:((s[k].toNat:Int)==39)=true:=by rw[H];rfl
     have E:=hid H
     clear H
     by_cases hl:k+1<s.size
     ·have C:=hid (bM s (k+1) hl)
      have b0:((k:Int)+1==(s.size:Int))=false:=by rw[beq_eq_false_iff_ne];omega
      by_cases j:s[k+1].toNat=39
      ·have b2:((s[k+1].toNat:Int)==39)=true:=by rw[j];rfl
       have b3:((s[k+1].toNat:Int) !=39)=false:=by rw[j];rfl
       have t:=hid j
       clear j r
       go_wp2_with (at_builtin;refine pa _ rfl _ _ 60 rfl (w.heap.size+1) 5 i0 (.int .u8 0) 1 underlying60 hi J K L rfl _ _ _ rfl (own_ext a (x10 _ _)) ⟨wr.heap.size,0,none⟩ 1 1 [Value.int .u8 (s[k+1].toNat:Int)] rfl rfl (lV _ _ _) (by intro u I;simp at I;subst I;rfl) (by unfold maxLen;omega) (by omega) (by have:=b.out.lt;simp;omega) ?_;intro v' w2 h l G x _)
       go_roundw
       case rel=>
        refine⟨k+1+1,X++ [s[k+1]],by go_num,by omega,by omega,by rw[length_append];simp only[length_cons,length_nil];omega,Ext.grown (f.alloc _) l (fun g R=>Nat.le_of_succ_le (dH a R)),(b.ext (x10 _ _)).grown l (fun e=>by have:=dH a e.symm;omega),by rw[b8_snoc,length_append];exact h,?_⟩
        rw[y.out,B.out,lit_cons,if_neg p.out,if_pos E.out,C.out]
        simp only
        rw[if_pos t.out]
       case measure=>simp[intOf];omega
      ·have b2:((s[k+1].toNat:Int)==39)=false:=by rw[beq_eq_false_iff_ne];omega
       have b3:((s[k+1].toNat:Int) !=39)=true:=by rw[bne_iff_ne];omega
       have t:Hid (¬s[k+1].toNat=39):=j
       clear j
       have D:Hid (V=TRes (om (some (X,k+1)))):=by
        unfold Hid
        rw[y.out,B.out,lit_cons,if_neg p.out,if_pos E.out,C.out]
        simp only
        rw[if_neg t.out]
       by_cases F:16<X.length
       ·go_wp2_with fail
        have m:(wr.setCell ⟨w.heap.size,0,none⟩ (i4 0)).cell? ⟨w.heap.size,0,none⟩=some (i4 0):=(b.set 0 _).cell 0
        have n:((wr.setCell ⟨w.heap.size,0,none⟩ (i4 0)).setCell ⟨w.heap.size,1,none⟩ (.string ⟨#[]⟩)).cell? ⟨w.heap.size,1,none⟩=some (.string ⟨#[]⟩):=((b.set 0 _).set 1 _).cell 1
        have o:(((wr.setCell ⟨w.heap.size,0,none⟩ (i4 0)).setCell ⟨w.heap.size,1,none⟩ (.string ⟨#[]⟩)).setCell ⟨w.heap.size,2,none⟩ (i4 0)).cell? ⟨w.heap.size,2,none⟩=some (i4 0):=(((b.set 0 _).set 1 _).set 2 _).cell 2
        exact bodyPost_ret (v:= .tuple #[.agg #[i4 0,.string ⟨#[]⟩,i4 0],i4 (0),i4 (3)]) (by simp[results,results175,go_sem,m,n,o]) rfl ⟨by rw[D.out];unfold om;simp only;rw[if_pos F];rfl,((f.setCell (Nat.le_refl _) _).setCell (Nat.le_refl _) _).setCell (Nat.le_refl _) _⟩
       ·go_wp2_with fail
        have m:(wr.setCell ⟨w.heap.size,0,none⟩ (i4 4)).cell? ⟨w.heap.size,0,none⟩=some (i4 4):=(b.set 0 _).cell 0
        have n:((wr.setCell ⟨w.heap.size,0,none⟩ (i4 4)).setCell ⟨w.heap.size,1,none⟩ (.string ⟨X.toArray⟩)).cell? ⟨w.heap.size,1,none⟩=some (.string ⟨X.toArray⟩):=((b.set 0 _).set 1 _).cell 1
        have o:(((wr.setCell ⟨w.heap.size,0,none⟩ (i4 4)).setCell ⟨w.heap.size,1,none⟩ (.string ⟨X.toArray⟩)).setCell ⟨w.heap.size,2,none⟩ (i4 0)).cell? ⟨w.heap.size,2,none⟩=some (i4 0):=(((b.set 0 _).set 1 _).set 2 _).cell 2
        exact bodyPost_ret (v:= .tuple #[.agg #[i4 4,.string ⟨X.toArray⟩,i4 0],i4 ((k:Int)+1),i4 (0)]) (by simp[results,results175,go_sem,m,n,o]) rfl ⟨by rw[D.out];unfold om;simp only;rw[if_neg F];rfl,((f.setCell (Nat.le_refl _) _).setCell (Nat.le_refl _) _).setCell (Nat.le_refl _) _⟩
     ·have b0:((k:Int)+1==(s.size:Int))=true:=by rw[beq_iff_eq];omega
      have D:Hid (V=TRes (om (some (X,k+1)))):=by
       unfold Hid
       rw[y.out,B.out,lit_cons,if_neg p.out,if_pos E.out]
       rw[drop_of_length_le (show s.data.toList.length≤k+1 by show s.size≤_;omega)]
      by_cases F:16<X.length
      ·go_wp2_with fail
       have m:(wr.setCell ⟨w.heap.size,0,none⟩ (i4 0)).cell? ⟨w.heap.size,0,none⟩=some (i4 0):=(b.set 0 _).cell 0
       have n:((wr.setCell ⟨w.heap.size,0,none⟩ (i4 0)).setCell ⟨w.heap.size,1,none⟩ (.string ⟨#[]⟩)).cell? ⟨w.heap.size,1,none⟩=some (.string ⟨#[]⟩):=((b.set 0 _).set 1 _).cell 1
       have o:(((wr.setCell ⟨w.heap.size,0,none⟩ (i4 0)).setCell ⟨w.heap.size,1,none⟩ (.string ⟨#[]⟩)).setCell ⟨w.heap.size,2,none⟩ (i4 0)).cell? ⟨w.heap.size,2,none⟩=some (i4 0):=(((b.set 0 _).set 1 _).set 2 _).cell 2
       exact bodyPost_ret (v:= .tuple #[.agg #[i4 0,.string ⟨#[]⟩,i4 0],i4 (0),i4 (3)]) (by simp[results,results175,go_sem,m,n,o]) rfl ⟨by rw[D.out];unfold om;simp only;rw[if_pos F];rfl,((f.setCell (Nat.le_refl _) _).setCell (Nat.le_refl _) _).setCell (Nat.le_refl _) _⟩
      ·go_wp2_with fail
       have m:(wr.setCell ⟨w.heap.size,0,none⟩ (i4 4)).cell? ⟨w.heap.size,0,none⟩=some (i4 4):=(b.set 0 _).cell 0
       have n:((wr.setCell ⟨w.heap.size,0,none⟩ (i4 4)).setCell ⟨w.heap.size,1,none⟩ (.string ⟨X.toArray⟩)).cell? ⟨w.heap.size,1,none⟩=some (.string ⟨X.toArray⟩):=((b.set 0 _).set 1 _).cell 1
       have o:(((wr.setCell ⟨w.heap.size,0,none⟩ (i4 4)).setCell ⟨w.heap.size,1,none⟩ (.string ⟨X.toArray⟩)).setCell ⟨w.heap.size,2,none⟩ (i4 0)).cell? ⟨w.heap.size,2,none⟩=some (i4 0):=(((b.set 0 _).set 1 _).set 2 _).cell 2
       exact bodyPost_ret (v:= .tuple #[.agg #[i4 4,.string ⟨X.toArray⟩,i4 0],i4 ((k:Int)+1),i4 (0)]) (by simp[results,results175,go_sem,m,n,o]) rfl ⟨by rw[D.out];unfold om;simp only;rw[if_neg F];rfl,((f.setCell (Nat.le_refl _) _).setCell (Nat.le_refl _) _).setCell (Nat.le_refl _) _⟩
    ·have b1:((s[k].toNat:Int)==39)=false:=by rw[beq_eq_false_iff_ne];omega
     have E:Hid (¬s[k].toNat=39):=H
     clear H r
     go_wp2_with (at_builtin;refine pa _ rfl _ _ 60 rfl (w.heap.size+1) 5 i0 (.int .u8 0) 1 underlying60 hi J K L rfl _ _ _ rfl (own_ext a (x10 _ _)) ⟨wr.heap.size,0,none⟩ 1 1 [Value.int .u8 (s[k].toNat:Int)] rfl rfl (lV _ _ _) (by intro u I;simp at I;subst I;rfl) (by unfold maxLen;omega) (by omega) (by have:=b.out.lt;simp;omega) ?_;intro v' w2 h l G x _)
     go_roundw
     case rel=>
      refine⟨k+1,X++ [s[k]],by go_num,by omega,by omega,by rw[length_append];simp only[length_cons,length_nil];omega,Ext.grown (f.alloc _) l (fun g R=>Nat.le_of_succ_le (dH a R)),(b.ext (x10 _ _)).grown l (fun e=>by have:=dH a e.symm;omega),by rw[b8_snoc,length_append];exact h,?_⟩
      rw[y.out,B.out,lit_cons,if_neg p.out,if_neg E.out]
     case measure=>simp[intOf];omega
   ·have Q:Hid (isPrint s[k]=false):=by
     unfold Hid isPrint
     rw[Bool.and_eq_false_iff]
     simp only[decide_eq_false_iff_not]
     omega
    clear r
    go_wp2_with fail
    all_goals
     have m:(wr.setCell ⟨w.heap.size,0,none⟩ (i4 0)).cell? ⟨w.heap.size,0,none⟩=some (i4 0):=(b.set 0 _).cell 0
     have n:((wr.setCell ⟨w.heap.size,0,none⟩ (i4 0)).setCell ⟨w.heap.size,1,none⟩ (.string ⟨#[]⟩)).cell? ⟨w.heap.size,1,none⟩=some (.string ⟨#[]⟩):=((b.set 0 _).set 1 _).cell 1
     have o:(((wr.setCell ⟨w.heap.size,0,none⟩ (i4 0)).setCell ⟨w.heap.size,1,none⟩ (.string ⟨#[]⟩)).setCell ⟨w.heap.size,2,none⟩ (i4 0)).cell? ⟨w.heap.size,2,none⟩=some (i4 0):=(((b.set 0 _).set 1 _).set 2 _).cell 2
     exact bodyPost_ret (v:= .tuple #[.agg #[i4 0,.string ⟨#[]⟩,i4 0],i4 (0),i4 (2)]) (by simp[results,results175,go_sem,m,n,o]) rfl ⟨by rw[y.out,B.out,lit_cons,if_pos Q.out];rfl,((f.setCell (Nat.le_refl _) _).setCell (Nat.le_refl _) _).setCell (Nat.le_refl _) _⟩
  ·clear r
   go_wp2_with fail
   have m:(wr.setCell ⟨w.heap.size,0,none⟩ (i4 0)).cell? ⟨w.heap.size,0,none⟩=some (i4 0):=(b.set 0 _).cell 0
   have n:((wr.setCell ⟨w.heap.size,0,none⟩ (i4 0)).setCell ⟨w.heap.size,1,none⟩ (.string ⟨#[]⟩)).cell? ⟨w.heap.size,1,none⟩=some (.string ⟨#[]⟩):=((b.set 0 _).set 1 _).cell 1
   have o:(((wr.setCell ⟨w.heap.size,0,none⟩ (i4 0)).setCell ⟨w.heap.size,1,none⟩ (.string ⟨#[]⟩)).setCell ⟨w.heap.size,2,none⟩ (i4 0)).cell? ⟨w.heap.size,2,none⟩=some (i4 0):=(((b.set 0 _).set 1 _).set 2 _).cell 2
   exact bodyPost_ret (v:= .tuple #[.agg #[i4 0,.string ⟨#[]⟩,i4 0],i4 (0),i4 (2)]) (by simp[results,results175,go_sem,m,n,o]) rfl ⟨by rw[y.out,drop_of_length_le (show s.data.toList.length≤k by show s.size≤_;omega),litF];rfl,((f.setCell (Nat.le_refl _) _).setCell (Nat.le_refl _) _).setCell (Nat.le_refl _) _⟩
end Lx
namespace Lx
theorem name_long (l:List UInt8) (h:24<l.length):nameP l=false:=by
 cases l with
 |nil=>rfl
 |cons c r=>unfold nameP;simp only;rw[decide_eq_false (by omega)];rfl
theorem iF (s:BA) (h:0<s.size):s.data.toList=s[0]::s.data.toList.drop 1:=by
 have:=bM s 0 h
 rw[drop_zero]at this
 exact this
theorem bJ (s:BA):s.data.toList.length=s.size:=rfl
end Lx
namespace Lx
def Sh (w:World):Prop:=∃m:Int,w.cell? ⟨1,0,none⟩=some (i4 m)
theorem Sh.ext {w w':World} (h:Sh w) (a:Ext w w'):Sh w':=by
 obtain⟨m,h⟩:=h
 exact⟨m,a.keep h⟩
theorem countB_le (t:BA):Lib.countB t ⟨#[39]⟩≤t.size+1:=Lib.count_le t.data.toList [39]
theorem flat_len:∀l:List UInt8,(flat l).length≤2*l.length
 | []=>Nat.le_refl _
 |c::r=>by
  have:=flat_len r
  rw[flat]
  split<;>simp only[length_cons] <;>omega
theorem ma {a b:BA} (h:a.data.toList=b.data.toList):a=b:=by
 obtain⟨⟨a⟩⟩:=a
 obtain⟨⟨b⟩⟩:=b
 simpa using h
end Lx
namespace Lx
theorem nh (s:BA) (k:Nat):(s.extract k s.size).data.toList=s.data.toList.drop k:=by
 rw[Lib.extract_data]
 rw[take_of_length_le]
 rw[length_drop,bJ]
 exact Nat.le_refl _
theorem pc:∀l:List UInt8,(Lib.indexByte l 10= -1→skipN true l=l.length)∧∀i:Nat,Lib.indexByte l 10=(i:Int)→i<l.length∧skipN true l=i+skipN false (l.drop i)
 | []=>by
  constructor
  ·intro _;rfl
  ·intro i h
   unfold Lib.indexByte at h
   omega
 |b::l=>by
  have m:=pc l
  have p:=Lib.indexByte_ge l 10
  rw[Lib.indexByte]
  by_cases a:b=10
  ·subst a
   constructor
   ·intro h;simp at h
   ·intro i h
    simp at h
    obtain rfl:i=0:=by omega
    refine⟨by simp,?_⟩
    rw[drop_zero,skipN,if_pos (by decide),skipN,if_pos (.inr (.inr (by decide)))]
    omega
  ·have e:(b==10)=false:=by simpa using a
   have f:¬b.toNat=10:=fun h=>a (num_ext b 10 h)
   rw[e]
   simp only[Bool.false_eq_true,if_false]
   rw[skipN,if_neg f]
   by_cases g:Lib.indexByte l 10= -1
   ·have k:=m.1 g
    rw[g,k]
    constructor
    ·intro _;rw[length_cons]
    ·intro i h;simp at h;try omega
   ·have n:(Lib.indexByte l 10== -1)=false:=by simpa using g
    rw[n]
    simp only[Bool.false_eq_true,if_false]
    constructor
    ·intro h;omega
    ·intro i h
     obtain⟨j,rfl⟩:∃j,i=j+1:=⟨i-1,by omega⟩
     obtain⟨k,o⟩:=m.2 j (by omega)
     rw[length_cons,drop_succ_cons,o]
     omega
theorem rb (r:List UInt8) (h:r.head? =some 45):skipN false (45::r)=skipN true (45::r):=by
 have a:skipN true (45::r)=skipN true r+1:=by rw[skipN];rfl
 rw[a,skipN.eq_def]
 simp only
 rw[if_neg (by decide),if_pos ⟨by decide,h⟩]
theorem iY (c:UInt8) (r:List UInt8) (a:¬(c.toNat=32∨c.toNat=9∨c.toNat=10)) (b:¬(c.toNat=45∧r.head? =some 45)):skipN false (c::r)=0:=by
 rw[skipN,if_neg a,if_neg b]
theorem lk (c:UInt8) (r:List UInt8) (a:c.toNat=32∨c.toNat=9∨c.toNat=10):skipN false (c::r)=skipN false r+1:=by
 rw[skipN,if_pos a]
theorem uj (c:UInt8) (r:List UInt8): [45,45].isPrefixOf (c::r)=decide (c.toNat=45∧r.head? =some 45):=by
 rw[Bool.eq_iff_iff,decide_eq_true_eq]
 cases r with
 |nil=>simp[List.isPrefixOf]
 |cons d q=>
  simp only[List.isPrefixOf,Bool.and_true,Bool.and_eq_true,beq_iff_eq,head?_cons,Option.some.injEq]
  constructor
  ·rintro⟨a,b⟩;exact⟨by rw[←a];rfl,b.symm⟩
  ·rintro⟨a,b⟩;exact⟨(num_ext c 45 a).symm,b.symm⟩
theorem skip_any (s:BA) (a:Nat) (w:World) (hs:s.size≤20000) (K:a≤s.size):Cl 96 #[.string s,i4 a] w fun e w'=>e= .returned (i4 ((a+skipN false (s.data.toList.drop a):Nat):Int))∧w'=w:=by
 generalize H:a+skipN false (s.data.toList.drop a)=V
 have n:=hid H
 clear H
 go_enter func96,ntmps96
 go_wp2_with fail
 go_loop [1] (fun i=> ∃k:Nat,k≤s.size∧i= i4 k∧k+skipN false (s.data.toList.drop k)=V) (fun i=>s.size- (intOf i).toNat)
 case atStart=>exact⟨a,K,rfl,n⟩
 case round=>
  obtain⟨k,P,rfl,I⟩:=hrel
  have n:=hid I
  clear I
  by_cases p:k<s.size
  ·have u:=hid (bM s k p)
   by_cases g:s[k].toNat=32∨s[k].toNat=9∨s[k].toNat=10
   ·have b:Hid (k+1+skipN false (s.data.toList.drop (k+1))=V):=by
     have h:=n.out
     rw[u.out,lk _ _ g]at h
     unfold Hid
     omega
    clear n u
    rcases g with h|h|h
    ·have C:((s[k].toNat:Int)==32)=true:=by rw[h];rfl
     clear h
     go_wp2_with fail
     go_round
     case rel=>exact⟨k+1,by omega,by go_num,b⟩
     case measure=>simp[intOf];omega
    ·have C:((s[k].toNat:Int)==32)=false:=by rw[h];rfl
     have F:((s[k].toNat:Int)==9)=true:=by rw[h];rfl
     clear h
     go_wp2_with fail
     go_round
     case rel=>exact⟨k+1,by omega,by go_num,b⟩
     case measure=>simp[intOf];omega
    ·have C:((s[k].toNat:Int)==32)=false:=by rw[h];rfl
     have F:((s[k].toNat:Int)==9)=false:=by rw[h];rfl
     have J:((s[k].toNat:Int)==10)=true:=by rw[h];rfl
     clear h
     go_wp2_with fail
     go_round
     case rel=>exact⟨k+1,by omega,by go_num,b⟩
     case measure=>simp[intOf];omega
   ·have C:((s[k].toNat:Int)==32)=false:=by rw[beq_eq_false_iff_ne];omega
    have F:((s[k].toNat:Int)==9)=false:=by rw[beq_eq_false_iff_ne];omega
    have J:((s[k].toNat:Int)==10)=false:=by rw[beq_eq_false_iff_ne];omega
    have B:Hid (¬(s[k].toNat=32∨s[k].toNat=9∨s[k].toNat=10)):=g
    clear g
    have l:Lib.hasPrefix (s.extract k s.size).data.toList (ByteArray.mk #[45,45]).data.toList=decide (s[k].toNat=45∧(s.data.toList.drop (k+1)).head? =some 45):=by
     rw[nh,bM s k p]
     exact uj _ _
    have r:Hid (∀W,Cl 169 #[.string (s.extract k s.size),.string ⟨#[45,45]⟩] W fun e w'=>e= .returned (.bool (decide (s[k].toNat=45∧(s.data.toList.drop (k+1)).head? =some 45)))∧w'=W):=by
     intro W
     rw[←l]
     exact Tryz.strings_HasPrefix (s.extract k s.size) ⟨#[45,45]⟩ W
    clear l
    by_cases f:s[k].toNat=45∧(s.data.toList.drop (k+1)).head? =some 45
    ·rw[decide_eq_true f]at r
     have E:((10:Int)).toNat.toUInt8=10:=rfl
     have x:Hid (∀W,Cl 170 #[.string (s.extract k s.size),.int .u8 10] W fun e w'=>e= .returned (i4 (Lib.indexByte (s.data.toList.drop k) 10))∧w'=W):=by
      intro W
      have:=Tryz.strings_IndexByte (s.extract k s.size) 10 W
      rw[nh,E]at this
      exact this
     have A:Hid (k+skipN true (s.data.toList.drop k)=V):=by
      have h:=n.out
      rw[u.out]at h ⊢
      rw[num_ext s[k] 45 f.1]at h ⊢
      rw[rb _ f.2]at h
      exact h
     have o:(s.data.toList.drop k).length=s.size-k:=by rw[length_drop,bJ]
     have t:=Lib.indexByte_ge (s.data.toList.drop k) 10
     by_cases y:Lib.indexByte (s.data.toList.drop k) 10= -1
     ·have b:Hid ((V:Int)=s.size):=by
       have D:=(pc _).1 y
       have h:=A.out
       rw[D]at h
       unfold Hid
       omega
      rw[y]at x
      clear f t o y
      go_wp2_with (first|(go_at_call 169;refine(r _).mono ?_;rintro e z ⟨rfl,rfl⟩)|(go_at_call 170;refine(x _).mono ?_;rintro e z ⟨rfl,rfl⟩))
      go_ret
      exact⟨aM b.symm,rfl⟩
     ·obtain⟨m,j⟩:∃m:Nat,Lib.indexByte (s.data.toList.drop k) 10=m:=⟨(Lib.indexByte (s.data.toList.drop k) 10).toNat,by omega⟩
      obtain⟨D,G⟩:=(pc _).2 m j
      have b:Hid (k+m+skipN false (s.data.toList.drop (k+m))=V):=by
       have h:=A.out
       rw[G,drop_drop]at h
       unfold Hid
       omega
      have O:0<m:=by
       rcases Nat.eq_zero_or_pos m with h0|h0
       ·exfalso
        subst h0
        rw[bM s k p,Lib.indexByte]at j
        rw[num_ext s[k] 45 f.1]at j
        have:((45:UInt8)==10)=false:=rfl
        rw[this]at j
        simp only[Bool.false_eq_true,if_false]at j
        have L:=Lib.indexByte_ge (s.data.toList.drop (k+1)) 10
        split at j
        ·omega
        ·rename_i hx
         have:Lib.indexByte (s.data.toList.drop (k+1)) 10≠ -1:=fun e=>hx (by rw[e];rfl)
         omega
       ·exact h0
      rw[o]at D
      rw[j]at x
      clear f t o y G j A
      go_wp2_with (first|(go_at_call 169;refine(r _).mono ?_;rintro e z ⟨rfl,rfl⟩)|(go_at_call 170;refine(x _).mono ?_;rintro e z ⟨rfl,rfl⟩))
      go_round
      case rel=>exact⟨k+m,by omega,by go_num,b⟩
      case measure=>simp[intOf];omega
    ·rw[decide_eq_false f]at r
     have b:Hid (k=V):=by
      have h:=n.out
      rw[u.out,iY _ _ B.out f]at h
      exact h
     clear f
     go_wp2_with (go_at_call 169;refine(r _).mono ?_;rintro e z ⟨rfl,rfl⟩)
     go_ret
     exact⟨aM (by rw[b.out]),rfl⟩
  ·go_wp2_with fail
   go_ret
   obtain rfl:k=s.size:=by omega
   have h:=n.out
   rw[drop_of_length_le (Nat.le_of_eq (bJ s))]at h
   exact⟨aM (by rw[←h];rfl),rfl⟩
theorem rskip_any (s:BA) (a:Nat) (w:World) (hs:s.size≤20000) (I:a≤s.size):Cl 94 #[.string s,i4 a] w fun e w'=>e= .returned (i4 ((a+skipN false (s.data.toList.drop a):Nat):Int))∧w'=w:=by
 generalize C:a+skipN false (s.data.toList.drop a)=V
 have f:=hid C
 clear C
 go_enter func94,ntmps94
 go_wp2_with fail
 go_loop [1] (fun i=> ∃k:Nat,k≤s.size∧i= i4 k∧k+skipN false (s.data.toList.drop k)=V) (fun i=>s.size- (intOf i).toNat)
 case atStart=>exact⟨a,I,rfl,f⟩
 case round=>
  obtain⟨k,J,rfl,u⟩:=hrel
  have f:=hid u
  clear u
  by_cases A:k<s.size
  ·have m:=hid (bM s k A)
   have b:=hid (fun W=>wk s[k] W)
   by_cases n:s[k].toNat=32∨s[k].toNat=9∨s[k].toNat=10
   ·have g:Hid (k+1+skipN false (s.data.toList.drop (k+1))=V):=by
     have h:=f.out
     rw[m.out,lk _ _ n]at h
     unfold Hid
     omega
    have y:kt s[k]=true:=by unfold kt;grind
    rw[y]at b
    clear f m n
    go_wp2_with (go_at_call 161;refine(b _).mono ?_;rintro e x ⟨rfl,rfl⟩)
    go_round
    case rel=>exact⟨k+1,by omega,by go_num,g⟩
    case measure=>simp[intOf];omega
   ·have y:kt s[k]=false:=by unfold kt;grind
    rw[y]at b
    have p:Hid (¬(s[k].toNat=32∨s[k].toNat=9∨s[k].toNat=10)):=n
    clear n
    by_cases L:k+1<s.size
    ·have o:=hid (bM s (k+1) L)
     by_cases r:s[k].toNat=45
     ·have F:((s[k].toNat:Int)==45)=true:=by rw[r];rfl
      have P:((s[k].toNat:Int) !=10)=true:=by rw[r];rfl
      have B:=hid r
      clear r
      by_cases t:s[k+1].toNat=45
      ·have G:((s[k+1].toNat:Int)==45)=true:=by rw[t];rfl
       have E:Hid (k+skipN true (s.data.toList.drop k)=V):=by
        have h:=f.out
        rw[m.out]at h ⊢
        rw[num_ext s[k] 45 B.out]at h ⊢
        rw[rb _ (by rw[o.out,head?_cons,num_ext s[k+1] 45 t])]at h
        exact h
       clear t
       go_wp2_with (go_at_call 161;refine(b _).mono ?_;rintro e x ⟨rfl,rfl⟩)
       clear f m o
       go_loop [1] (fun i=> ∃j:Nat,k≤j∧j≤s.size∧i= i4 j∧j+skipN true (s.data.toList.drop j)=V) (fun i=>s.size- (intOf i).toNat)
       case atStart=>exact⟨k,Nat.le_refl _,J,rfl,E⟩
       case round=>
        obtain⟨j,K,D,rfl,u⟩:=hrel
        have f:=hid u
        clear u
        by_cases z:j<s.size
        ·have m:=hid (bM s j z)
         by_cases l:s[j].toNat=10
         ·have H:((s[j].toNat:Int) !=10)=false:=by rw[l];rfl
          have g:Hid (j+skipN false (s.data.toList.drop j)=V):=by
           have h:=f.out
           rw[m.out]at h ⊢
           rw[skipN,if_pos l]at h
           rw[lk _ _ (.inr (.inr l))]
           exact h
          have O:k<j:=by
           rcases Nat.lt_or_ge k j with h|h
           ·exact h
           ·exfalso
            obtain rfl:k=j:=by omega
            have:=B.out
            omega
          clear l
          go_wp2_with fail
          go_round
          case rel=>exact⟨j,D,rfl,g⟩
          case measure=>simp[intOf];omega
         ·have H:((s[j].toNat:Int) !=10)=true:=by rw[bne_iff_ne];omega
          have g:Hid (j+1+skipN true (s.data.toList.drop (j+1))=V):=by
           have h:=f.out
           rw[m.out,skipN,if_neg l]at h
           unfold Hid
           omega
          clear l
          go_wp2_with fail
          go_round
          case rel=>exact⟨j+1,by omega,by omega,by go_num,g⟩
          case measure=>simp[intOf];omega
        ·have g:Hid (j+skipN false (s.data.toList.drop j)=V):=by
          have h:=f.out
          have e:s.data.toList.drop j= []:=drop_of_length_le (by rw[bJ];omega)
          rw[e]at h ⊢
          exact h
         go_wp2_with fail
         go_round
         case rel=>exact⟨j,D,rfl,g⟩
         case measure=>simp[intOf];omega
      ·have G:((s[k+1].toNat:Int)==45)=false:=by rw[beq_eq_false_iff_ne];omega
       have g:Hid (k=V):=by
        have h:=f.out
        rw[m.out,iY _ _ p.out (by
         rw[o.out,head?_cons]
         rintro⟨_,h⟩
         injection h with h
         rw[h]at t
         exact t rfl)]at h
        exact h
       clear t
       go_wp2_with (go_at_call 161;refine(b _).mono ?_;rintro e x ⟨rfl,rfl⟩)
       go_ret
       exact⟨aM (by rw[g.out]),rfl⟩
     ·have F:((s[k].toNat:Int)==45)=false:=by rw[beq_eq_false_iff_ne];omega
      have g:Hid (k=V):=by
       have h:=f.out
       rw[m.out,iY _ _ p.out (fun h=>r h.1)]at h
       exact h
      clear r
      go_wp2_with (go_at_call 161;refine(b _).mono ?_;rintro e x ⟨rfl,rfl⟩)
      go_ret
      exact⟨aM (by rw[g.out]),rfl⟩
    ·have g:Hid (k=V):=by
      have h:=f.out
      rw[m.out,iY _ _ p.out (by
       rw[drop_of_length_le (show s.data.toList.length≤k+1 by rw[bJ];omega)]
       rintro⟨_,h⟩
       cases h)]at h
      exact h
     go_wp2_with (go_at_call 161;refine(b _).mono ?_;rintro e x ⟨rfl,rfl⟩)
     go_ret
     exact⟨aM (by rw[g.out]),rfl⟩
  ·go_wp2_with fail
   go_ret
   obtain rfl:k=s.size:=by omega
   have h:=f.out
   rw[drop_of_length_le (Nat.le_of_eq (bJ s))]at h
   exact⟨aM (by rw[←h];rfl),rfl⟩
end Lx
namespace Lx
theorem fj (s:BA) (k:Nat):(s.extract 0 k).data.toList=s.data.toList.take k:=by
 rw[Lib.extract_data,drop_zero,Nat.sub_zero]
theorem pd (s:BA) (a k:Nat):(s.extract a k).size≤s.size:=by
 rw[ByteArray.size_extract];omega
theorem word_any (s:BA) (w:World) (hs:s.size≤20000) (H:KwAt w):Cl 172 #[.string s] w fun e w'=>e= .returned (TRes (wordL s.data.toList))∧Ext w w':=by
 have I:spanN inWord s.data.toList≤s.size:=span_le inWord s.data.toList
 have C:=hid (fun W=>span_word s W (by unfold maxLen;omega))
 have D:Hid (wordL s.data.toList=if isKw (s.data.toList.take (spanN inWord s.data.toList))=true then .tok 2 ((s.data.toList.take (spanN inWord s.data.toList)).map upC) (spanN inWord s.data.toList)
   else if 24<spanN inWord s.data.toList then .bad 3
   else .tok 1 ((s.data.toList.take (spanN inWord s.data.toList)).map loC) (spanN inWord s.data.toList)):=rfl
 generalize spanN inWord s.data.toList=n at*
 have h:(s.extract 0 n).size≤20000:=Nat.le_trans (pd s 0 n) hs
 have F:Hid (∀W,Cl 230 #[.string (s.extract 0 n)] W fun e w'=>e= .returned (.string ⟨((s.data.toList.take n).map upC).toArray⟩)∧Ext W w'):=by
  intro W
  have:=ra (s.extract 0 n) W h
  rw[fj]at this
  exact this
 have E:Hid (∀W,Cl 231 #[.string (s.extract 0 n)] W fun e w'=>e= .returned (.string ⟨((s.data.toList.take n).map loC).toArray⟩)∧Ext W w'):=by
  intro W
  have:=lower_any (s.extract 0 n) W h
  rw[fj]at this
  exact this
 have B:Hid (∀W,Ext w W→Cl 229 #[.string (s.extract 0 n)] W fun e w'=>e= .returned (.bool (isKw (s.data.toList.take n)))∧Ext W w'):=by
  intro W G
  have:=keyword_any (s.extract 0 n) W h (H.ext G)
  rw[fj]at this
  exact this
 have j:=hid (Blk.of_new w 70 [i4 0,.string ⟨#[]⟩,i4 0])
 clear h
 cases f:isKw (s.data.toList.take n)
 ·by_cases m:24<n
  ·have l:Hid (wordL s.data.toList= .bad 3):=by unfold Hid;rw[D.out,f,if_neg (by decide),if_pos m]
   go_enter func172,ntmps172
   go_wp2_with (first|(go_at_call 227;refine(C _).mono ?_;rintro e i ⟨rfl,rfl⟩)|(go_at_call 229;refine(B _ (x10 w _)).mono ?_;rintro e i ⟨rfl,b⟩;rw[f];have a:=hid (j.ext b);have o:=a.cell 0;have p:=a.cell 1;have r:=a.cell 2;obtain⟨t,u,x,-⟩:=frz a))
   have y:(i.setCell ⟨w.heap.size,0,none⟩ (i4 0)).cell? ⟨w.heap.size,0,none⟩=some (i4 0):=(a.set 0 _).cell 0
   have z:((i.setCell ⟨w.heap.size,0,none⟩ (i4 0)).setCell ⟨w.heap.size,1,none⟩ (.string ⟨#[]⟩)).cell? ⟨w.heap.size,1,none⟩=some (.string ⟨#[]⟩):=((a.set 0 _).set 1 _).cell 1
   have A:(((i.setCell ⟨w.heap.size,0,none⟩ (i4 0)).setCell ⟨w.heap.size,1,none⟩ (.string ⟨#[]⟩)).setCell ⟨w.heap.size,2,none⟩ (i4 0)).cell? ⟨w.heap.size,2,none⟩=some (i4 0):=(((a.set 0 _).set 1 _).set 2 _).cell 2
   exact bodyPost_ret (v:= .tuple #[.agg #[i4 0,.string ⟨#[]⟩,i4 0],i4 (0),i4 (3)]) (by simp[results,results172,go_sem,y,z,A]) rfl ⟨by rw[l.out];rfl,((((x10 w _).trans b).setCell (Nat.le_refl _) _).setCell (Nat.le_refl _) _).setCell (Nat.le_refl _) _⟩
  ·have l:Hid (wordL s.data.toList= .tok 1 ((s.data.toList.take n).map loC) n):=by unfold Hid;rw[D.out,f,if_neg (by decide),if_neg m]
   generalize (s.data.toList.take n).map loC=L at*
   go_enter func172,ntmps172
   go_wp2_with (first|(go_at_call 227;refine(C _).mono ?_;rintro e i ⟨rfl,rfl⟩)|(go_at_call 229;refine(B _ (x10 w _)).mono ?_;rintro e i ⟨rfl,b⟩;rw[f])|(go_at_call 231;refine(E _).mono ?_;rintro e k ⟨rfl,g⟩;have a:=hid ((j.ext b).ext g);have o:=a.cell 0;have p:=a.cell 1;have r:=a.cell 2;obtain⟨t,u,x,-⟩:=frz a))
   have y:(k.setCell ⟨w.heap.size,0,none⟩ (i4 1)).cell? ⟨w.heap.size,0,none⟩=some (i4 1):=(a.set 0 _).cell 0
   have z:((k.setCell ⟨w.heap.size,0,none⟩ (i4 1)).setCell ⟨w.heap.size,1,none⟩ (.string ⟨L.toArray⟩)).cell? ⟨w.heap.size,1,none⟩=some (.string ⟨L.toArray⟩):=((a.set 0 _).set 1 _).cell 1
   have A:(((k.setCell ⟨w.heap.size,0,none⟩ (i4 1)).setCell ⟨w.heap.size,1,none⟩ (.string ⟨L.toArray⟩)).setCell ⟨w.heap.size,2,none⟩ (i4 0)).cell? ⟨w.heap.size,2,none⟩=some (i4 0):=(((a.set 0 _).set 1 _).set 2 _).cell 2
   exact bodyPost_ret (v:= .tuple #[.agg #[i4 1,.string ⟨L.toArray⟩,i4 0],i4 (n),i4 (0)]) (by simp[results,results172,go_sem,y,z,A]) rfl ⟨by rw[l.out];rfl,(((((x10 w _).trans b).trans g).setCell (Nat.le_refl _) _).setCell (Nat.le_refl _) _).setCell (Nat.le_refl _) _⟩
 ·have l:Hid (wordL s.data.toList= .tok 2 ((s.data.toList.take n).map upC) n):=by unfold Hid;rw[D.out,f,if_pos rfl]
  generalize (s.data.toList.take n).map upC=L at*
  go_enter func172,ntmps172
  go_wp2_with (first|(go_at_call 227;refine(C _).mono ?_;rintro e i ⟨rfl,rfl⟩)|(go_at_call 229;refine(B _ (x10 w _)).mono ?_;rintro e i ⟨rfl,b⟩;rw[f])|(go_at_call 230;refine(F _).mono ?_;rintro e k ⟨rfl,g⟩;have a:=hid ((j.ext b).ext g);have o:=a.cell 0;have p:=a.cell 1;have r:=a.cell 2;obtain⟨t,u,x,-⟩:=frz a))
  have y:(k.setCell ⟨w.heap.size,0,none⟩ (i4 2)).cell? ⟨w.heap.size,0,none⟩=some (i4 2):=(a.set 0 _).cell 0
  have z:((k.setCell ⟨w.heap.size,0,none⟩ (i4 2)).setCell ⟨w.heap.size,1,none⟩ (.string ⟨L.toArray⟩)).cell? ⟨w.heap.size,1,none⟩=some (.string ⟨L.toArray⟩):=((a.set 0 _).set 1 _).cell 1
  have A:(((k.setCell ⟨w.heap.size,0,none⟩ (i4 2)).setCell ⟨w.heap.size,1,none⟩ (.string ⟨L.toArray⟩)).setCell ⟨w.heap.size,2,none⟩ (i4 0)).cell? ⟨w.heap.size,2,none⟩=some (i4 0):=(((a.set 0 _).set 1 _).set 2 _).cell 2
  exact bodyPost_ret (v:= .tuple #[.agg #[i4 2,.string ⟨L.toArray⟩,i4 0],i4 (n),i4 (0)]) (by simp[results,results172,go_sem,y,z,A]) rfl ⟨by rw[l.out];rfl,(((((x10 w _).trans b).trans g).setCell (Nat.le_refl _) _).setCell (Nat.le_refl _) _).setCell (Nat.le_refl _) _⟩
theorem dv_snoc (l:List UInt8) (c:UInt8):digVal (l++ [c])=10*digVal l+(c.toNat-48):=by
 unfold digVal
 rw[foldl_append]
 rfl
theorem dv_mono (a b:List UInt8):digVal a≤digVal (a++b):=by
 have:digVal (a++b)=digVal a*10^b.length+digVal b:=by
  rw[←dv_from]
  unfold digVal
  rw[foldl_append]
 rw[this]
 have e:digVal a*1≤digVal a*10^b.length:=Nat.mul_le_mul_left _ (Nat.pow_pos (by decide))
 omega
theorem dv_take (l:List UInt8) (i j:Nat) (h:i≤j):digVal (l.take i)≤digVal (l.take j):=by
 have:l.take j=l.take i++(l.take j).drop i:=by
  conv=>lhs;rw[←take_append_drop i (l.take j)]
  rw[take_take,Nat.min_eq_left h]
 rw[this]
 exact dv_mono _ _
theorem uk (s:BA) (n:Nat):headW (s.data.toList.drop n)=if h:n<s.size then inWord s[n]else false:=by
 split
 ·rename_i h
  rw[bM s n h];rfl
 ·rw[drop_of_length_le (by rw[bJ];omega)];rfl
theorem number_any (s:BA) (w:World) (hs:s.size≤20000) (h0:0<s.size):Cl 174 #[.string s] w fun e w'=>e= .returned (TRes (numL s.data.toList))∧Ext w w':=by
 have a0:spanN isDigit s.data.toList≤s.size:=span_le isDigit s.data.toList
 have U:=hid (fun W=>wl s W (by unfold maxLen;omega))
 have O:=hid (span_all isDigit s.data.toList)
 have Q:Hid (numL s.data.toList=if (1<spanN isDigit s.data.toList∧s.data.toList.head? =some 48)∨headW (s.data.toList.drop (spanN isDigit s.data.toList))=true then .bad 2
   else if 2147483648<digVal (s.data.toList.take (spanN isDigit s.data.toList))then .bad 3
   else .tok 3 (s.data.toList.take (spanN isDigit s.data.toList)) (spanN isDigit s.data.toList)):=rfl
 have HH:Hid (s.data.toList.head? =some s[0]):=by unfold Hid;rw[iF s h0];rfl
 generalize spanN isDigit s.data.toList=n at*
 have HW:=hid (uk s n)
 have a:=hid (Blk.of_new w 70 [i4 0,.string ⟨#[]⟩,i4 0])
 have j:=a.cell 0
 have l:=a.cell 1
 have m:=a.cell 2
 obtain⟨F,G,H,-⟩:=frz a
 by_cases z:1<n∧s[0].toNat=48
 ·have A:Hid (numL s.data.toList= .bad 2):=by unfold Hid;rw[Q.out,if_pos (.inl ⟨z.1,by rw[HH.out,num_ext s[0] 48 z.2]⟩)]
  have b1:((s[0].toNat:Int)==48)=true:=by rw[z.2];rfl
  obtain⟨a2,_⟩:=z
  go_enter func174,ntmps174
  go_wp2_with (go_at_call 227;refine(U _).mono ?_;rintro e K ⟨rfl,rfl⟩)
  exact bodyPost_ret (v:= .tuple #[.agg #[i4 0,.string ⟨#[]⟩,i4 0],i4 0,i4 2]) (by simp[results,results174,go_sem,j,l,m]) rfl ⟨by rw[A.out];rfl,x10 w _⟩
 ·have HZ:Hid (¬(1<n∧s.data.toList.head? =some 48)):=by
   unfold Hid
   rw[HH.out]
   rintro⟨C,Z⟩
   injection Z with Z
   exact z ⟨C,by rw[Z];rfl⟩
  have b:n≤1∨(1<n∧((s[0].toNat:Int)==48)=false):=by
   rcases Nat.lt_or_ge 1 n with h|h
   ·right;exact⟨h,by rw[beq_eq_false_iff_ne];intro e;exact z ⟨h,by omega⟩⟩
   ·left;omega
  clear z
  by_cases x:∃h:n<s.size,inWord s[n]=true
  ·obtain⟨hn,x⟩:=x
   have A:Hid (numL s.data.toList= .bad 2):=by unfold Hid;rw[Q.out,if_pos (.inr (by rw[HW.out,dif_pos hn];exact x))]
   have HI:=hid (fun W=>iX s[n] W)
   rw[x]at HI
   rcases b with C|⟨C,b1⟩
   all_goals
    go_enter func174,ntmps174
    go_wp2_with (first|(go_at_call 227;refine(U _).mono ?_;rintro e K ⟨rfl,rfl⟩)|(go_at_call 228;refine(HI _).mono ?_;rintro e K ⟨rfl,rfl⟩))
    exact bodyPost_ret (v:= .tuple #[.agg #[i4 0,.string ⟨#[]⟩,i4 0],i4 0,i4 2]) (by simp[results,results174,go_sem,j,l,m]) rfl ⟨by rw[A.out];rfl,x10 w _⟩
  ·have HF:Hid (headW (s.data.toList.drop n)=false):=by
    unfold Hid
    rw[HW.out]
    split
    ·rename_i h
     cases J:inWord s[n]
     ·rfl
     ·exact absurd ⟨h,J⟩ x
    ·rfl
   have A:Hid (numL s.data.toList=if 2147483648<digVal (s.data.toList.take n)then .bad 3 else .tok 3 (s.data.toList.take n) n):=by
    unfold Hid
    rw[Q.out,if_neg]
    rintro(h|h)
    ·exact HZ h
    ·rw[HF.out]at h;cases h
   have o:(∃h:n<s.size,∀W,Cl 228 #[.int .u8 s[n].toNat] W fun e w'=>e= .returned (.bool false)∧w'=W)∨¬n<s.size:=by
    rcases Nat.lt_or_ge n s.size with h|h
    ·left
     refine⟨h,fun W=>?_⟩
     have:=iX s[n] W
     cases J:inWord s[n]
     ·rw[J]at this;exact this
     ·exact absurd ⟨h,J⟩ x
    ·right;omega
   clear x
   have u:(s.extract 0 n).size=n:=by rw[ByteArray.size_extract];omega
   have ag:=hid u
   obtain⟨an,B,rest,t,y,ac,r⟩:=jG (P:=prog) (w.alloc (.cells #[i4 0,.string ⟨#[]⟩,i4 0] 70)) 9 60 5 (s.extract 0 n) underlying9 underlying60 underlying5
   rw[u]at t
   rw[fj]at r
   have g:=hid (a.ext y)
   have HX:=hid ((x10 w (.cells #[i4 0,.string ⟨#[]⟩,i4 0] 70)).trans y)
   have L:=hid r
   simp only[World.size_alloc]at t
   have X:Hid ((w.alloc (.cells #[i4 0,.string ⟨#[]⟩,i4 0] 70)).heap.size=w.heap.size+1):=by unfold Hid;rw[World.size_alloc]
   clear r ac y u j l m F G H
   rcases b with C|⟨C,b1⟩
   all_goals
    rcases o with ⟨hn,hI⟩|hn
    all_goals
     go_enter func174,ntmps174
     go_wp2_with (first|(go_at_call 227;refine(U _).mono ?_;rintro e K ⟨rfl,rfl⟩)|(go_at_call 228;refine(hI _).mono ?_;rintro e K ⟨rfl,rfl⟩))
     have j:=g.cell 0
     have l:=g.cell 1
     have m:=g.cell 2
     obtain⟨F,G,H,-⟩:=frz g
     clear t
     go_loop [6,36] (fun v i=> ∃(k V:Nat),k≤n∧i= i4 k∧v= i4 V∧V=digVal (s.data.toList.take k)∧V≤2147483648) (fun _ i=>n- (intOf i).toNat)
     case atStart=>exact⟨0,0,Nat.zero_le _,rfl,rfl,rfl,Nat.zero_le _⟩
     case round=>
      obtain⟨k,V,hk,rfl,rfl,hv,hV⟩:=hrel
      have HV:=hid hv
      clear hv
      by_cases a1:k<n
      ·have p:k<s.size:=by omega
       have f:k<(s.data.toList.take n).length:=by rw[length_take,bJ];omega
       have D:=L.cell (ku _ rest k f)
       rw[getElem_take]at D
       have I:(s.data.toList[k]'p)=s[k]:=rfl
       rw[I,X.out]at D
       have E:isDigit s[k]=true:=O s[k] (by
        have:=getElem_mem f
        rw[getElem_take]at this
        exact this)
       have hd:48≤s[k].toNat∧s[k].toNat≤57:=by unfold isDigit at E;grind
       obtain⟨ax,aS⟩:=hd
       clear E I f
       have HT:Hid (digVal (s.data.toList.take (k+1))=10*V+(s[k].toNat-48)):=by
        unfold Hid
        rw[take1 s k p,dv_snoc,←HV.out]
       by_cases ad:2147483648<10*V+(s[k].toNat-48)
       ·have R:Hid (numL s.data.toList= .bad 3):=by
         unfold Hid
         rw[A.out,if_pos]
         have:=dv_take s.data.toList (k+1) n (by omega)
         rw[HT.out]at this
         omega
        go_wp2_with fail
        have s0:(B.setCell ⟨w.heap.size,0,none⟩ (i4 0)).cell? ⟨w.heap.size,0,none⟩=some (i4 0):=(g.set 0 _).cell 0
        have s1:((B.setCell ⟨w.heap.size,0,none⟩ (i4 0)).setCell ⟨w.heap.size,1,none⟩ (.string ⟨#[]⟩)).cell? ⟨w.heap.size,1,none⟩=some (.string ⟨#[]⟩):=((g.set 0 _).set 1 _).cell 1
        have s2:(((B.setCell ⟨w.heap.size,0,none⟩ (i4 0)).setCell ⟨w.heap.size,1,none⟩ (.string ⟨#[]⟩)).setCell ⟨w.heap.size,2,none⟩ (i4 0)).cell? ⟨w.heap.size,2,none⟩=some (i4 0):=(((g.set 0 _).set 1 _).set 2 _).cell 2
        exact bodyPost_ret (v:= .tuple #[.agg #[i4 0,.string ⟨#[]⟩,i4 0],i4 (0),i4 (3)]) (by simp[results,results174,go_sem,s0,s1,s2]) rfl ⟨by rw[R.out];rfl,((HX.setCell (Nat.le_refl _) _).setCell (Nat.le_refl _) _).setCell (Nat.le_refl _) _⟩
       ·go_wp2_with fail
        go_round
        case rel=>exact⟨k+1,10*V+(s[k].toNat-48),by omega,by go_num,by go_num,HT.symm,by omega⟩
        case measure=>simp[intOf];omega
      ·obtain rfl:k=n:=by omega
       have R:Hid (numL s.data.toList= .tok 3 (s.data.toList.take k) k):=by
        unfold Hid
        rw[A.out,if_neg]
        rw[←HV.out]
        omega
       have Y:Hid (s.extract 0 k=⟨(s.data.toList.take k).toArray⟩):=ma (by rw[fj])
       go_wp2_with fail
       have s0:(B.setCell ⟨w.heap.size,0,none⟩ (i4 3)).cell? ⟨w.heap.size,0,none⟩=some (i4 3):=(g.set 0 _).cell 0
       have s1:((B.setCell ⟨w.heap.size,0,none⟩ (i4 3)).setCell ⟨w.heap.size,1,none⟩ (.string (s.extract 0 k))).cell? ⟨w.heap.size,1,none⟩=some (.string (s.extract 0 k)):=((g.set 0 _).set 1 _).cell 1
       have s2:(((B.setCell ⟨w.heap.size,0,none⟩ (i4 3)).setCell ⟨w.heap.size,1,none⟩ (.string (s.extract 0 k))).setCell ⟨w.heap.size,2,none⟩ (i4 0)).cell? ⟨w.heap.size,2,none⟩=some (i4 0):=(((g.set 0 _).set 1 _).set 2 _).cell 2
       exact bodyPost_ret (v:= .tuple #[.agg #[i4 3,.string (s.extract 0 k),i4 0],i4 (k),i4 (0)]) (by simp[results,results174,go_sem,s0,s1,s2]) rfl ⟨by rw[R.out,Y.out];rfl,((HX.setCell (Nat.le_refl _) _).setCell (Nat.le_refl _) _).setCell (Nat.le_refl _) _⟩
end Lx
namespace Lx
theorem two_list (s:BA) (a:Nat) (h:a+1<s.size):(s.extract a (a+2)).toList= [s[a],s[a+1]]:=by
 rw[ByteArray.toList_eq,Lib.extract_data,bM s a (by omega),bM s (a+1) h,show a+2-a=2 by omega]
 rfl
def two (c d:UInt8):Prop:=(c=60∧d=62)∨(c=60∧d=61)∨(c=62∧d=61)
theorem oR (c d:UInt8) (r:List UInt8) (h:two c d):symN (c::d::r)=2:=by rw[symN];exact if_pos h
theorem sB (c:UInt8) (r:List UInt8) (h:∀d q,r=d::q→¬two c d):symN (c::r)=if c∈syms then 1 else 0:=by
 cases r with
 |nil=>rw[symN]
 |cons d q=>rw[symN];exact if_neg (h d q rfl)
def symB:BA:=⟨#[40,41,44,59,46,42,43,45,47,37,61,60,62]⟩
theorem symB_at (k:Nat) (h:k<13):symB[k]'h∈syms:=getElem_mem (show k<syms.length from h)
theorem ul (c:UInt8) (h:∀k (a:k<13),symB[k]'a≠c):c∉syms:=by
 intro b
 obtain⟨k,a,e⟩:=getElem_of_mem b
 exact h k a e
theorem wu (s:BA) (a:Nat) (w:World) (hs:s.size≤20000) (B:a<s.size):Cl 168 #[.string s,i4 a] w fun e w'=>e= .returned (i4 ((symN (s.data.toList.drop a):Nat):Int))∧Ext w w':=by
 have t:=hid (bM s a B)
 by_cases z:a+1<s.size
 ·have r:=hid (bM s (a+1) z)
  have p:=hid (two_list s a z)
  by_cases l:two s[a] s[a+1]
  ·have u:Hid (symN (s.data.toList.drop a)=2):=by unfold Hid;rw[t.out,r.out];exact oR _ _ _ l
   rcases l with ⟨e1,e2⟩|⟨e1,e2⟩|⟨e1,e2⟩
   ·have y:((s.extract a (a+2)).toList== [60,62])=true:=by rw[p.out,e1,e2];rfl
    clear e1 e2
    go_enter func168,ntmps168
    go_wp2_with fail
    go_ret
    exact⟨aM (by rw[u.out];rfl),Ext.refl _⟩
   ·have y:((s.extract a (a+2)).toList== [60,62])=false:=by rw[p.out,e1,e2];rfl
    have A:((s.extract a (a+2)).toList== [60,61])=true:=by rw[p.out,e1,e2];rfl
    clear e1 e2
    go_enter func168,ntmps168
    go_wp2_with fail
    go_ret
    exact⟨aM (by rw[u.out];rfl),Ext.refl _⟩
   ·have y:((s.extract a (a+2)).toList== [60,62])=false:=by rw[p.out,e1,e2];rfl
    have A:((s.extract a (a+2)).toList== [60,61])=false:=by rw[p.out,e1,e2];rfl
    have D:((s.extract a (a+2)).toList== [62,61])=true:=by rw[p.out,e1,e2];rfl
    clear e1 e2
    go_enter func168,ntmps168
    go_wp2_with fail
    go_ret
    exact⟨aM (by rw[u.out];rfl),Ext.refl _⟩
  ·have n:Hid (symN (s.data.toList.drop a)=if s[a]∈syms then 1 else 0):=by
    unfold Hid
    rw[t.out]
    refine sB _ _ fun d q e=>?_
    rw[r.out]at e
    injection e with e _
    rw[←e]
    exact l
   have y:((s.extract a (a+2)).toList== [60,62])=false:=by
    rw[p.out,beq_eq_false_iff_ne];intro h;injection h with h h';injection h' with h' _;exact l (.inl ⟨h,h'⟩)
   have A:((s.extract a (a+2)).toList== [60,61])=false:=by
    rw[p.out,beq_eq_false_iff_ne];intro h;injection h with h h';injection h' with h' _;exact l (.inr (.inl ⟨h,h'⟩))
   have D:((s.extract a (a+2)).toList== [62,61])=false:=by
    rw[p.out,beq_eq_false_iff_ne];intro h;injection h with h h';injection h' with h' _;exact l (.inr (.inr ⟨h,h'⟩))
   clear l
   go_enter func168,ntmps168
   go_wp2_with fail
   go_loopw [7] (fun i wr=> ∃k:Nat,k≤13∧i= i4 k∧(∀j (f:j<13),j<k→symB[j]'f≠s[a])∧Ext w wr) (fun i _=>13- (intOf i).toNat)
   case atStart=>exact⟨0,Nat.zero_le _,rfl,fun j _ f=>absurd f (Nat.not_lt_zero _),Ext.refl _⟩
   case round=>
    obtain⟨k,C,rfl,o,g⟩:=hrel
    have m:=hid o
    clear o
    by_cases b:k<13
    ·go_wp2_with fail
     go_region
     go_wp2_with fail
     ·rename_i hbt
      have e:symB[k]'b=s[a]:=num_ext _ _ (by have:=eq_of_beq hbt;exact Int.ofNat.inj this)
      go_ret
      exact⟨aM (by rw[n.out,if_pos (by rw[←e];exact symB_at k b)];rfl),g.drew⟩
     ·rename_i hbt
      have e:symB[k]'b≠s[a]:=fun e=>by
       have l:((((symB[k]'b).toNat:Nat):Int)==(s[a].toNat:Int))=false:=hbt
       rw[e]at l
       simp at l
      go_roundw
      case rel=>
       refine⟨k+1,by omega,by go_num,fun j f x=>?_,g.drew⟩
       rcases Nat.lt_or_ge j k with h|h
       ·exact m j f h
       ·obtain rfl:j=k:=by omega
        exact e
      case measure=>simp[intOf];omega
    ·go_wp2_with fail
     go_ret
     obtain rfl:k=13:=by omega
     exact⟨aM (by rw[n.out,if_neg (ul _ fun j f=>m j f f)];rfl),g⟩
 ·have n:Hid (symN (s.data.toList.drop a)=if s[a]∈syms then 1 else 0):=by
   unfold Hid
   rw[t.out]
   refine sB _ _ fun d q e=>?_
   rw[drop_of_length_le (by rw[bJ];omega)]at e
   cases e
  go_enter func168,ntmps168
  go_wp2_with fail
  go_loopw [7] (fun i wr=> ∃k:Nat,k≤13∧i= i4 k∧(∀j (f:j<13),j<k→symB[j]'f≠s[a])∧Ext w wr) (fun i _=>13- (intOf i).toNat)
  case atStart=>exact⟨0,Nat.zero_le _,rfl,fun j _ f=>absurd f (Nat.not_lt_zero _),Ext.refl _⟩
  case round=>
   obtain⟨k,C,rfl,o,g⟩:=hrel
   have m:=hid o
   clear o
   by_cases b:k<13
   ·go_wp2_with fail
    go_region
    go_wp2_with fail
    ·rename_i hbt
     have e:symB[k]'b=s[a]:=num_ext _ _ (by have:=eq_of_beq hbt;exact Int.ofNat.inj this)
     go_ret
     exact⟨aM (by rw[n.out,if_pos (by rw[←e];exact symB_at k b)];rfl),g.drew⟩
    ·rename_i hbt
     have e:symB[k]'b≠s[a]:=fun e=>by
      have l:((((symB[k]'b).toNat:Nat):Int)==(s[a].toNat:Int))=false:=hbt
      rw[e]at l
      simp at l
     go_roundw
     case rel=>
      refine⟨k+1,by omega,by go_num,fun j f x=>?_,g.drew⟩
      rcases Nat.lt_or_ge j k with h|h
      ·exact m j f h
      ·obtain rfl:j=k:=by omega
       exact e
     case measure=>simp[intOf];omega
   ·go_wp2_with fail
    go_ret
    obtain rfl:k=13:=by omega
    exact⟨aM (by rw[n.out,if_neg (ul _ fun j f=>m j f f)];rfl),g⟩
end Lx
end Go.Proofs.YtjigcpfjhfoheaaGreatDoor
