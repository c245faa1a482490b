/- Walks over the lexer: the classes of bytes; Walks over the lexer's reference: Text; Walks over the lexer: span; Plain laws: a pure lexer; Plain laws over the pure lexer: offsets shifted, two strings joined, the case of letters; Pl. -/
import Derived.Test.YtjigcpfjhfoheaaGreatDoorYaa
import Derived.WalkSmall
import Derived.Test.YtjigcpfjhfoheaaGreatDoorProg
import Derived.Shelf.Spec.SearchS
import Derived.BigQuiet
namespace Go.Proofs.YtjigcpfjhfoheaaGreatDoor
open Go.RowKit
set_option maxHeartbeats 4000000
set_option maxRecDepth 100000
set_option linter.unusedVariables false
set_option linter.unusedSimpArgs false
namespace Lx
def isLetter (c:UInt8):Bool:=(97≤c.toNat&&c.toNat≤122)||(65≤c.toNat&&c.toNat≤90)
def isDigit (c:UInt8):Bool:=48≤c.toNat&&c.toNat≤57
def inWord (c:UInt8):Bool:=isLetter c||isDigit c||c.toNat==95
theorem dh (c:UInt8) (w:World):Calls Tryz.prog 171 #[.int .u8 c.toNat] w fun e w'=>e= .returned (.bool (isLetter c))∧w'=w:=by
 go_enter Tryz.func171,Tryz.ntmps171
 go_wp2_with fail
 all_goals
  go_ret
  refine⟨ab ?_,rfl⟩
  unfold isLetter
  grind
theorem db (c:UInt8) (w:World):Calls Tryz.prog 173 #[.int .u8 c.toNat] w fun e w'=>e= .returned (.bool (isDigit c))∧w'=w:=by
 go_enter Tryz.func173,Tryz.ntmps173
 go_wp2_with fail
 all_goals
  go_ret
  refine⟨ab ?_,rfl⟩
  unfold isDigit
  grind
theorem dT (c:UInt8) (w:World):Calls Tryz.prog 228 #[.int .u8 c.toNat] w fun e w'=>e= .returned (.bool (inWord c))∧w'=w:=by
 have b:=hid (dh c)
 have f:=hid (db c)
 cases a:isLetter c<;>cases hd:isDigit c
 all_goals
  go_enter Tryz.func228,Tryz.ntmps228
  go_wp2_with (first
   |(go_at_call 171;refine(b _).mono ?_;rintro e g ⟨rfl,rfl⟩;rw[a])
   |(go_at_call 173;refine(f _).mono ?_;rintro e g ⟨rfl,rfl⟩;rw[hd]))
  all_goals
   go_ret
   refine⟨ab ?_,rfl⟩
   unfold inWord
   rw[a,hd]
   grind
end Lx
namespace Lx
theorem take1 (t:ByteArray) (k:Nat) (h:k<t.size):t.data.toList.take (k+1)=t.data.toList.take k++ [t[k]]:=by
 have a:k<t.data.toList.length:=by simpa using h
 rw[List.take_succ_eq_append_getElem a]
 rfl
end Lx
namespace Lx
def spanN (f:UInt8→Bool):List UInt8→Nat
 | []=>0
 |c::r=>if f c=true then spanN f r+1 else 0
theorem span_word (s:ByteArray) (w:World) (hs:s.size≤maxLen):Calls Tryz.prog 227 #[.string s,.func (.func 228) #[] #[]] w fun e w'=>e= .returned (.int .i64 (spanN inWord s.data.toList))∧w'=w:=by
 unfold maxLen at hs
 go_enter Tryz.func227,Tryz.ntmps227
 go_wp2_with fail
 go_loop [5] (fun i=> ∃k:Nat,k≤s.size∧i= .int .i64 k∧spanN inWord s.data.toList=k+spanN inWord (s.data.toList.drop k)) (fun i=>s.size- (intOf i).toNat)
 case atStart=>exact⟨0,Nat.zero_le _,rfl,by simp⟩
 case round=>
  obtain⟨k,l,rfl,g⟩:=hrel
  have f:=hid g
  clear g
  by_cases b:k<s.size
  ·have h:Hid (s.data.toList.drop k=s[k]::s.data.toList.drop (k+1)):=List.drop_eq_getElem_cons (show k<s.data.toList.length from b)
   cases a:inWord s[k]
   ·go_wp2_with (go_at_call 228;refine(dT s[k] _).mono ?_;rintro e j ⟨rfl,rfl⟩;rw[a])
    go_ret
    refine⟨aP ?_,rfl⟩
    rw[f.out,h.out,spanN,if_neg (by rw[a];decide)]
    omega
   ·go_wp2_with (go_at_call 228;refine(dT s[k] _).mono ?_;rintro e j ⟨rfl,rfl⟩;rw[a])
    go_round
    case rel=>
     refine⟨k+1,by omega,by go_num,?_⟩
     rw[f.out,h.out,spanN,if_pos a]
     omega
    case measure=>simp[intOf];omega
  ·obtain rfl:k=s.size:=by omega
   go_wp2_with fail
   go_ret
   refine⟨aP ?_,rfl⟩
   rw[f.out,List.drop_of_length_le (show s.data.toList.length≤s.size from Nat.le_refl _),spanN]
   omega
theorem ny (s:ByteArray) (w:World) (hs:s.size≤maxLen):Calls Tryz.prog 227 #[.string s,.func (.func 173) #[] #[]] w fun e w'=>e= .returned (.int .i64 (spanN isDigit s.data.toList))∧w'=w:=by
 unfold maxLen at hs
 go_enter Tryz.func227,Tryz.ntmps227
 go_wp2_with fail
 go_loop [5] (fun i=> ∃k:Nat,k≤s.size∧i= .int .i64 k∧spanN isDigit s.data.toList=k+spanN isDigit (s.data.toList.drop k)) (fun i=>s.size- (intOf i).toNat)
 case atStart=>exact⟨0,Nat.zero_le _,rfl,by simp⟩
 case round=>
  obtain⟨k,l,rfl,g⟩:=hrel
  have f:=hid g
  clear g
  by_cases b:k<s.size
  ·have h:Hid (s.data.toList.drop k=s[k]::s.data.toList.drop (k+1)):=List.drop_eq_getElem_cons (show k<s.data.toList.length from b)
   cases a:isDigit s[k]
   ·go_wp2_with (go_at_call 173;refine(db s[k] _).mono ?_;rintro e j ⟨rfl,rfl⟩;rw[a])
    go_ret
    refine⟨aP ?_,rfl⟩
    rw[f.out,h.out,spanN,if_neg (by rw[a];decide)]
    omega
   ·go_wp2_with (go_at_call 173;refine(db s[k] _).mono ?_;rintro e j ⟨rfl,rfl⟩;rw[a])
    go_round
    case rel=>
     refine⟨k+1,by omega,by go_num,?_⟩
     rw[f.out,h.out,spanN,if_pos a]
     omega
    case measure=>simp[intOf];omega
  ·obtain rfl:k=s.size:=by omega
   go_wp2_with fail
   go_ret
   refine⟨aP ?_,rfl⟩
   rw[f.out,List.drop_of_length_le (show s.data.toList.length≤s.size from Nat.le_refl _),spanN]
   omega
def isPrint (c:UInt8):Bool:=32≤c.toNat&&c.toNat≤126
end Lx
namespace Lx
def upC (c:UInt8):UInt8:=if 97≤c.toNat∧c.toNat≤122 then c-32 else c
def loC (c:UInt8):UInt8:=if 65≤c.toNat∧c.toNat≤90 then c+32 else c
def kwNames:List (List UInt8):= [
 [65,78,68],
 [65,83],
 [65,83,67],
 [66,69,71,73,78],
 [66,69,84,87,69,69,78],
 [66,89],
 [67,72,69,67,75],
 [67,79,77,77,73,84],
 [67,79,85,78,84],
 [67,82,69,65,84,69],
 [68,69,76,69,84,69],
 [68,69,83,67],
 [70,79,82,69,73,71,78],
 [70,82,79,77],
 [71,82,79,85,80],
 [73,78],
 [73,78,83,69,82,84],
 [73,78,84,69,71,69,82],
 [73,78,84,79],
 [73,83],
 [74,79,73,78],
 [75,69,89],
 [76,69,78,71,84,72],
 [76,73,75,69],
 [76,73,77,73,84],
 [77,65,88],
 [77,73,78],
 [78,79,84],
 [78,85,76,76],
 [79,78],
 [79,82],
 [79,82,68,69,82],
 [80,82,73,77,65,82,89],
 [82,69,70,69,82,69,78,67,69,83],
 [82,69,76,69,65,83,69],
 [82,79,76,76,66,65,67,75],
 [83,65,86,69,80,79,73,78,84],
 [83,69,76,69,67,84],
 [83,69,84],
 [83,85,77],
 [84,65,66,76,69],
 [84,69,88,84],
 [84,79],
 [85,78,73,81,85,69],
 [85,80,68,65,84,69],
 [86,65,76,85,69,83],
 [87,72,69,82,69]]
def isKw (l:List UInt8):Bool:=decide (l.map upC∈kwNames)
def digVal (l:List UInt8):Nat:=l.foldl (fun v c=>10*v+(c.toNat-48)) 0
def eg:List UInt8:= [40,41,44,59,46,42,43,45,47,37,61,60,62]
def symN:List UInt8→Nat
 | []=>0
 | [c]=>if c∈eg then 1 else 0
 |c::d::_=>if (c=60∧d=62)∨(c=60∧d=61)∨(c=62∧d=61)then 2 else if c∈eg then 1 else 0
def litF:List UInt8→List UInt8→Nat→Option (List UInt8×Nat)
 | [],_,_=>none
 |c::r,X,i=>
  if isPrint c=false then none
  else if c.toNat=39 then
   match r with
   | []=>some (X,i+1)
   |d::r'=>if d.toNat=39 then litF r' (X++ [d]) (i+1+1)else some (X,i+1)
  else litF r (X++ [c]) (i+1)
theorem lit_cons (c:UInt8) (r X:List UInt8) (i:Nat):litF (c::r) X i=
  if isPrint c=false then none
  else if c.toNat=39 then
   (match r with
   | []=>some (X,i+1)
   |d::r'=>if d.toNat=39 then litF r' (X++ [d]) (i+1+1)else some (X,i+1))
  else litF r (X++ [c]) (i+1):=by rw[litF.eq_def]
inductive TR where
 |bad (e:Nat)
 |tok (kind:Nat) (text:List UInt8) (n:Nat)
def headW:List UInt8→Bool
 | []=>false
 |c::_=>inWord c
def wordL (l:List UInt8):TR:=
 if isKw (l.take (spanN inWord l))=true then .tok 2 ((l.take (spanN inWord l)).map upC) (spanN inWord l)
 else if 24<spanN inWord l then .bad 3
 else .tok 1 ((l.take (spanN inWord l)).map loC) (spanN inWord l)
def numL (l:List UInt8):TR:=
 if (1<spanN isDigit l∧l.head? =some 48)∨headW (l.drop (spanN isDigit l))=true then .bad 2
 else if 2147483648<digVal (l.take (spanN isDigit l))then .bad 3
 else .tok 3 (l.take (spanN isDigit l)) (spanN isDigit l)
def textL (r:List UInt8):TR:=
 match litF r [] 1 with
 |none=> .bad 2
 |some (X,i)=>if 16<X.length then .bad 3 else .tok 4 X i
def symL (l:List UInt8):TR:=if symN l=0 then .bad 2 else .tok 5 (l.take (symN l)) (symN l)
def tokL:List UInt8→TR
 | []=> .bad 2
 |c::r=>
  if isLetter c=true then wordL (c::r)
  else if isDigit c=true then numL (c::r)
  else if c.toNat=39 then textL r
  else symL (c::r)
def skipN:Bool→List UInt8→Nat
 |_,[]=>0
 |true,c::r=>if c.toNat=10 then skipN false r+1 else skipN true r+1
 |false,c::r=>
  if c.toNat=32∨c.toNat=9∨c.toNat=10 then skipN false r+1
  else if c.toNat=45∧r.head? =some 45 then skipN true r+1
  else 0
structure Tk where
 kind:Nat
 text:List UInt8
 pos:Nat
inductive Ls where
 |bad (at_ e:Nat)
 |ok (l:List Tk)
def Ls.pre (o:List Tk):Ls→Ls
 | .bad a e=> .bad a e
 | .ok l=> .ok (o++l)
def toksF:Nat→List UInt8→Nat→Ls
 |0,_,p=> .bad p 0
 |f+1,l,p=>
  match l.drop (skipN false l)with
  | []=> .ok [⟨0,[],p+skipN false l⟩]
  |c::r=>
   match tokL (c::r)with
   | .bad e=> .bad (p+skipN false l) e
   | .tok k x n=> (toksF f ((c::r).drop n) (p+skipN false l+n)).pre [⟨k,x,p+skipN false l⟩]
def T (l:List UInt8) (p:Nat):Ls:=toksF (l.length+1) l p
theorem span_le (f:UInt8→Bool):∀l:List UInt8,spanN f l≤l.length
 | []=>Nat.le_refl _
 |c::r=>by
  rw[spanN]
  have:=span_le f r
  split
  ·rw[List.length_cons];omega
  ·exact Nat.zero_le _
theorem span_all (f:UInt8→Bool):∀l:List UInt8,∀c∈l.take (spanN f l),f c=true
 | []=>by intro c h;simp at h
 |d::r=>by
  intro c h
  rw[spanN]at h
  split at h
  ·rw[List.take_succ_cons]at h
   rcases List.mem_cons.1 h with rfl|h
   ·assumption
   ·exact span_all f r c h
  ·simp at h
theorem span_pos (f:UInt8→Bool) (c:UInt8) (r:List UInt8) (h:f c=true):1≤spanN f (c::r):=by
 rw[spanN,if_pos h];omega
theorem skip_le:∀(b:Bool) (l:List UInt8),skipN b l≤l.length
 |_,[]=>by cases ‹Bool› <;>exact Nat.le_refl _
 |true,c::r=>by
  rw[skipN,List.length_cons]
  have e:=skip_le true r
  have a:=skip_le false r
  split<;>omega
 |false,c::r=>by
  rw[skipN,List.length_cons]
  have e:=skip_le true r
  have a:=skip_le false r
  split
  ·omega
  ·split<;>omega
theorem sym_le (l:List UInt8):symN l≤l.length:=by
 match l with
 | []=>exact Nat.le_refl _
 | [c]=>rw[symN];split<;>simp
 |c::d::r=>
  rw[symN]
  simp only[List.length_cons]
  split
  ·omega
  ·split<;>omega
theorem lit_bound:∀(l X:List UInt8) (i:Nat) (Y:List UInt8) (j:Nat),litF l X i=some (Y,j)→i+1≤j∧j≤i+l.length∧Y.length+i+1≤X.length+j
 | [],X,i,Y,j=>by intro h;simp[litF]at h
 | [c],X,i,Y,j=>by
  intro h
  rw[litF]at h
  split at h
  ·exact absurd h (by simp)
  split at h
  ·simp only[Option.some.injEq,Prod.mk.injEq]at h
   obtain⟨rfl,rfl⟩:=h
   simp only[List.length_cons,List.length_nil]
   omega
  ·simp[litF]at h
 |c::d::r,X,i,Y,j=>by
  intro h
  rw[litF]at h
  simp only[List.length_cons]
  split at h
  ·exact absurd h (by simp)
  split at h
  ·split at h
   ·have:=lit_bound r _ _ Y j h
    simp only[List.length_append,List.length_cons,List.length_nil]at this
    omega
   ·simp only[Option.some.injEq,Prod.mk.injEq]at h
    obtain⟨rfl,rfl⟩:=h
    omega
  ·have:=lit_bound (d::r) _ _ Y j h
   simp only[List.length_append,List.length_cons,List.length_nil]at this
   omega
theorem tok_bound (c:UInt8) (r:List UInt8) (k:Nat) (x:List UInt8) (n:Nat) (h:tokL (c::r)= .tok k x n):1≤n∧n≤(c::r).length:=by
 rw[tokL]at h
 split at h
 ·rename_i hc
  have f:inWord c=true:=by unfold inWord;rw[hc];rfl
  have b:=span_pos inWord c r f
  have a:=span_le inWord (c::r)
  unfold wordL at h
  split at h
  ·cases h;exact⟨b,a⟩
  ·split at h
   ·cases h
   ·cases h;exact⟨b,a⟩
 split at h
 ·rename_i hc
  have b:=span_pos isDigit c r hc
  have a:=span_le isDigit (c::r)
  unfold numL at h
  split at h
  ·cases h
  ·split at h
   ·cases h
   ·cases h;exact⟨b,a⟩
 split at h
 ·unfold textL at h
  cases e:litF r [] 1 with
  |none=>rw[e]at h;cases h
  |some q=>
   obtain⟨X,i⟩:=q
   have:=lit_bound r [] 1 X i e
   rw[e]at h
   simp only at h
   split at h
   ·cases h
   ·cases h
    rw[List.length_cons];omega
 ·unfold symL at h
  have a:=sym_le (c::r)
  split at h
  ·cases h
  ·cases h
   omega
theorem lQ:∀(f g:Nat) (l:List UInt8) (p:Nat),l.length<f→l.length<g→toksF f l p=toksF g l p
 |0,_,l,p=>by intro h;omega
 |_+1,0,l,p=>by intro _ h;omega
 |f+1,g+1,l,p=>by
  intro m i
  rw[toksF,toksF]
  cases hd:l.drop (skipN false l)with
  |nil=>rfl
  |cons c r=>
   simp only
   cases a:tokL (c::r)with
   |bad e=>rfl
   |tok k x n=>
    simp only
    have j:=tok_bound c r k x n a
    have b:(c::r).length≤l.length:=by rw[←hd,List.length_drop];omega
    rw[lQ f g _ _ (by rw[List.length_drop];omega) (by rw[List.length_drop];omega)]
theorem T_eq (l:List UInt8) (p:Nat):T l p=
  (match l.drop (skipN false l)with
  | []=> .ok [⟨0,[],p+skipN false l⟩]
  |c::r=>
   match tokL (c::r)with
   | .bad e=> .bad (p+skipN false l) e
   | .tok k x n=> (T ((c::r).drop n) (p+skipN false l+n)).pre [⟨k,x,p+skipN false l⟩]):=by
 unfold T
 rw[toksF]
 cases hd:l.drop (skipN false l)with
 |nil=>rfl
 |cons c r=>
  simp only
  cases a:tokL (c::r)with
  |bad e=>rfl
  |tok k x n=>
   simp only
   have b:=tok_bound c r k x n a
   have f:(c::r).length≤l.length:=by rw[←hd,List.length_drop];omega
   rw[lQ l.length (((c::r).drop n).length+1) _ _ (by rw[List.length_drop];omega) (by omega)]
theorem T_end (l:List UInt8) (p:Nat) (h:l.drop (skipN false l)= []):T l p= .ok [⟨0,[],p+skipN false l⟩]:=by
 rw[T_eq,h]
theorem T_bad (l:List UInt8) (p:Nat) (c:UInt8) (r:List UInt8) (e:Nat) (h:l.drop (skipN false l)=c::r) (a:tokL (c::r)= .bad e):T l p= .bad (p+skipN false l) e:=by
 rw[T_eq,h];simp only;rw[a]
theorem T_tok (l:List UInt8) (p:Nat) (c:UInt8) (r:List UInt8) (k:Nat) (x:List UInt8) (n:Nat) (h:l.drop (skipN false l)=c::r) (a:tokL (c::r)= .tok k x n):
  T l p=(T ((c::r).drop n) (p+skipN false l+n)).pre [⟨k,x,p+skipN false l⟩]:=by
 rw[T_eq,h];simp only;rw[a]
theorem pre_pre (a b:List Tk) (x:Ls):(x.pre b).pre a=x.pre (a++b):=by
 cases x<;>simp[Ls.pre]
def tokAll (s:ByteArray):Ls:=if 16384<s.size then .bad 16384 3 else T s.data.toList 0
end Lx
namespace Lx
def Tk.sh (d:Nat) (t:Tk):Tk:=⟨t.kind,t.text,t.pos+d⟩
def Ls.sh (d:Nat):Ls→Ls
 | .bad a e=> .bad (a+d) e
 | .ok l=> .ok (l.map (Tk.sh d))
theorem T_shift (d:Nat):∀(m:Nat) (l:List UInt8) (p:Nat),l.length≤m→T l (p+d)=(T l p).sh d:=by
 intro m
 induction m with
 |zero=>
  intro l p g
  obtain rfl:l= []:=List.eq_nil_of_length_eq_zero (by omega)
  rw[T_end [] (p+d) rfl,T_end [] p rfl]
  rfl
 |succ m ih=>
  intro l p g
  cases hd:l.drop (skipN false l)with
  |nil=>
   rw[T_end l _ hd,T_end l _ hd]
   simp only[Ls.sh,Tk.sh,List.map_cons,List.map_nil,Ls.ok.injEq,List.cons.injEq,Tk.mk.injEq,true_and,and_true]
   omega
  |cons c r=>
   cases b:tokL (c::r)with
   |bad e=>
    rw[T_bad l _ c r e hd b,T_bad l _ c r e hd b]
    simp only[Ls.sh,Ls.bad.injEq,and_true]
    omega
   |tok k x n=>
    have h:=tok_bound c r k x n b
    have f:(c::r).length≤l.length:=by rw[←hd,List.length_drop];omega
    rw[T_tok l _ c r k x n hd b,T_tok l _ c r k x n hd b]
    rw[show p+d+skipN false l+n=p+skipN false l+n+d by omega,ih _ _ (by rw[List.length_drop];omega)]
    cases T ((c::r).drop n) (p+skipN false l+n)with
    |bad a e=>rfl
    |ok y=>
     simp only[Ls.sh,Ls.pre,Tk.sh,List.map_append,List.map_cons,List.map_nil,Ls.ok.injEq,List.append_cancel_right_eq,List.cons.injEq,Tk.mk.injEq,true_and,and_true]
     omega
theorem skip_app (b:List UInt8):∀(m:Bool) (l:List UInt8),skipN m (l++10::b)=if skipN m l<l.length then skipN m l else l.length+1+skipN false b
 |true,[]=>by simp[skipN];omega
 |false,[]=>by simp[skipN];omega
 |true,c::r=>by
  have e:=skip_app b true r
  have a:=skip_app b false r
  rw[List.cons_append,skipN,skipN,e,a,List.length_cons]
  split<;>split<;>split<;>omega
 |false,c::r=>by
  have e:=skip_app b true r
  have a:=skip_app b false r
  have f:((r++10::b).head? =some 45)=(r.head? =some 45):=by
   cases r with
   |nil=>simp
   |cons d q=>rfl
  rw[List.cons_append,skipN,skipN,e,a,List.length_cons]
  simp only[f]
  repeat' split
  all_goals omega
theorem span_app (f:UInt8→Bool) (b:List UInt8) (a:f 10=false):∀l:List UInt8,spanN f (l++10::b)=spanN f l
 | []=>by simp[spanN,a]
 |c::r=>by rw[List.cons_append,spanN,spanN,span_app f b a r]
theorem lit_app (b:List UInt8):∀(l X:List UInt8) (i:Nat) (q:List UInt8×Nat),litF l X i=some q→litF (l++10::b) X i=some q
 | [],X,i,q=>by intro h;simp[litF]at h
 | [c],X,i,q=>by
  intro h
  rw[litF]at h
  rw[List.cons_append,List.nil_append,litF]
  split at h
  ·exact absurd h (by simp)
  rename_i h1
  rw[if_neg h1]
  split at h
  ·rename_i h2
   rw[if_pos h2]
   rw[if_neg (by decide)]
   exact h
  ·simp[litF]at h
 |c::d::r,X,i,q=>by
  intro h
  rw[litF]at h
  rw[List.cons_append,List.cons_append,litF]
  split at h
  ·exact absurd h (by simp)
  rename_i h1
  rw[if_neg h1]
  split at h
  ·rename_i h2
   rw[if_pos h2]
   split at h
   ·rename_i h3
    rw[if_pos h3]
    exact lit_app b r _ _ q h
   ·rename_i h3
    rw[if_neg h3]
    exact h
  ·rename_i h2
   rw[if_neg h2]
   exact lit_app b (d::r) _ _ q h
theorem sym_app (b:List UInt8) (c:UInt8) (r:List UInt8):symN (c::r++10::b)=symN (c::r):=by
 cases r with
 |nil=>
  show symN (c::10::b)=_
  rw[symN,symN,if_neg (by simp)]
 |cons d q=>
  show symN (c::d::(q++10::b))=_
  rw[symN,symN]
theorem head_app (l b:List UInt8) (n:Nat):headW ((l++10::b).drop n)=headW (l.drop n)∨l.length≤n:=by
 rcases Nat.lt_or_ge n l.length with h|h
 ·left
  rw[List.drop_append_of_le_length (by omega)]
  cases hd:l.drop n with
  |nil=>
   have:=congrArg List.length hd
   rw[List.length_drop,List.length_nil]at this
   omega
  |cons c r=>rfl
 ·exact .inr h
theorem tok_app (b:List UInt8) (c:UInt8) (r:List UInt8) (k:Nat) (x:List UInt8) (n:Nat) (h:tokL (c::r)= .tok k x n):tokL (c::r++10::b)= .tok k x n:=by
 rw[tokL]at h
 rw[List.cons_append,tokL,←List.cons_append]
 split at h
 ·rename_i h1
  rw[if_pos h1]
  unfold wordL at h ⊢
  rw[span_app inWord b (by decide),List.take_append_of_le_length (span_le inWord (c::r))]
  exact h
 rename_i h1
 rw[if_neg h1]
 split at h
 ·rename_i h2
  rw[if_pos h2]
  unfold numL at h ⊢
  rw[span_app isDigit b (by decide),List.take_append_of_le_length (span_le isDigit (c::r))]
  have i:(c::r++10::b).head? =(c::r).head? :=rfl
  have g:headW ((c::r++10::b).drop (spanN isDigit (c::r)))=headW ((c::r).drop (spanN isDigit (c::r))):=by
   rcases head_app (c::r) b (spanN isDigit (c::r))with e|e
   ·exact e
   ·have f:spanN isDigit (c::r)=(c::r).length:=by have:=span_le isDigit (c::r);omega
    rw[f,List.drop_append_of_le_length (Nat.le_refl _),List.drop_length]
    rfl
  rw[i,g]
  exact h
 rename_i h2
 rw[if_neg h2]
 split at h
 ·rename_i h3
  rw[if_pos h3]
  unfold textL at h ⊢
  cases a:litF r [] 1 with
  |none=>rw[a]at h;cases h
  |some q=>rw[lit_app b r [] 1 q a];rw[a]at h;exact h
 ·rename_i h3
  rw[if_neg h3]
  unfold symL at h ⊢
  rw[sym_app]
  rw[List.take_append_of_le_length (sym_le (c::r))]
  exact h
theorem T_skip (l a:List UInt8) (p b:Nat) (f:l.drop (skipN false l)=a.drop (skipN false a)) (e:p+skipN false l=b+skipN false a):T l p=T a b:=by
 rw[T_eq l p,T_eq a b,f,e]
theorem T_cat:∀(m:Nat) (a:List UInt8) (p:Nat) (x:List Tk),a.length≤m→T a p= .ok x→
  ∃h:List Tk,x=h++ [⟨0,[],p+a.length⟩]∧∀b,T (a++10::b) p=(T b (p+a.length+1)).pre h:=by
 intro m
 have base:∀(a:List UInt8) (p:Nat) (x:List Tk),a.drop (skipN false a)= []→T a p= .ok x→
   ∃h:List Tk,x=h++ [⟨0,[],p+a.length⟩]∧∀b,T (a++10::b) p=(T b (p+a.length+1)).pre h:=by
  intro a p x hd f
  have hs:skipN false a=a.length:=by
   have D:=skip_le false a
   have w:=congrArg List.length hd
   rw[List.length_drop,List.length_nil]at w
   omega
  rw[T_end a p hd,Ls.ok.injEq]at f
  refine⟨[],by rw[←f,hs];rfl,fun b=>?_⟩
  have e:∀y:Ls,y.pre []=y:=fun y=>by cases y<;>rfl
  rw[e]
  have g:skipN false (a++10::b)=a.length+1+skipN false b:=by rw[skip_app,if_neg (by omega)]
  apply T_skip
  ·rw[g,Nat.add_assoc,←List.drop_drop,List.drop_left,Nat.add_comm,List.drop_succ_cons]
  ·rw[g];omega
 induction m with
 |zero=>
  intro a p x A f
  obtain rfl:a= []:=List.eq_nil_of_length_eq_zero (by omega)
  exact base [] p x rfl f
 |succ m ih=>
  intro a p x A f
  cases hd:a.drop (skipN false a)with
  |nil=>exact base a p x hd f
  |cons c r=>
   have i:(c::r).length=a.length-skipN false a:=by rw[←hd,List.length_drop]
   have q:skipN false a<a.length:=by rw[List.length_cons]at i;omega
   cases j:tokL (c::r)with
   |bad e=>rw[T_bad a p c r e hd j]at f;cases f
   |tok k y n=>
    have C:=tok_bound c r k y n j
    rw[T_tok a p c r k y n hd j]at f
    cases l:T ((c::r).drop n) (p+skipN false a+n)with
    |bad a' e=>rw[l]at f;cases f
    |ok z=>
     rw[l,Ls.pre,Ls.ok.injEq]at f
     have u:((c::r).drop n).length=a.length-skipN false a-n:=by rw[List.length_drop];omega
     obtain⟨B,o,t⟩:=ih _ _ z (by omega) l
     refine⟨[⟨k,y,p+skipN false a⟩]++B,?_,fun b=>?_⟩
     ·rw[←f,o,u,List.append_assoc]
      rw[show p+skipN false a+n+(a.length-skipN false a-n)=p+a.length by omega]
     ·have g:skipN false (a++10::b)=skipN false a:=by rw[skip_app,if_pos q]
      have s:(a++10::b).drop (skipN false (a++10::b))=c::(r++10::b):=by
       rw[g,List.drop_append_of_le_length (by omega),hd];rfl
      rw[T_tok _ p c (r++10::b) k y n s (tok_app b c r k y n j),g]
      rw[←List.cons_append,List.drop_append_of_le_length C.2,t,u]
      rw[show p+skipN false a+n+(a.length-skipN false a-n)=p+a.length by omega]
      rw[pre_pre]
theorem upC_num (c:UInt8):(upC c).toNat=if 97≤c.toNat∧c.toNat≤122 then c.toNat-32 else c.toNat:=by
 unfold upC
 split
 ·rename_i h
  rw[UInt8.toNat_sub_of_le _ _ (by rw[UInt8.le_iff_toNat_le];have:(32:UInt8).toNat=32:=rfl;omega)]
  rfl
 ·rfl
theorem loC_num (c:UInt8):(loC c).toNat=if 65≤c.toNat∧c.toNat≤90 then c.toNat+32 else c.toNat:=by
 unfold loC
 split
 ·rename_i h
  rw[UInt8.toNat_add]
  have:(32:UInt8).toNat=32:=rfl
  omega
 ·rfl
theorem num_ext (c d:UInt8) (h:c.toNat=d.toNat):c=d:=UInt8.toNat_inj.1 h
theorem up_letter (c:UInt8):isLetter (upC c)=isLetter c:=by
 unfold isLetter
 have h:=upC_num c
 split at h<;>grind
theorem i7 (c:UInt8):isDigit (upC c)=isDigit c:=by
 unfold isDigit
 have h:=upC_num c
 split at h<;>grind
theorem dD (c:UInt8) (v:Nat) (a:v<65):((upC c).toNat=v)=(c.toNat=v):=by
 have h:=upC_num c
 split at h
 ·exact propext ⟨fun _=>by omega,fun _=>by omega⟩
 ·rw[h]
theorem i8 (c v:UInt8) (a:v.toNat<65):(upC c=v)=(c=v):=by
 have h:=dD c v.toNat a
 exact propext ⟨fun e=>num_ext _ _ (h ▸ congrArg UInt8.toNat e),fun e=>num_ext _ _ (h.symm ▸ congrArg UInt8.toNat e)⟩
theorem up_word (c:UInt8):inWord (upC c)=inWord c:=by
 unfold inWord
 rw[up_letter,i7]
 have h:=dD c 95
 have a:=upC_num c
 split at a<;>grind
theorem up_up (c:UInt8):upC (upC c)=upC c:=by
 apply num_ext
 have h:=upC_num (upC c)
 have a:=upC_num c
 split at h<;>split at a<;>omega
theorem lo_up (c:UInt8):loC (upC c)=loC c:=by
 apply num_ext
 have h:=loC_num (upC c)
 have a:=upC_num c
 have b:=loC_num c
 split at h<;>split at a<;>split at b<;>omega
theorem lR (c:UInt8) (h:isDigit c=true):upC c=c:=by
 unfold upC
 rw[if_neg]
 unfold isDigit at h
 grind
theorem ja (f:UInt8→Bool) (a:∀c,f (upC c)=f c):∀l:List UInt8,spanN f (l.map upC)=spanN f l
 | []=>rfl
 |c::r=>by rw[List.map_cons,spanN,spanN,a,ja f a r]
theorem em:∀(m:Bool) (l:List UInt8),skipN m (l.map upC)=skipN m l
 |m,[]=>rfl
 |true,c::r=>by
  rw[List.map_cons,skipN,skipN,em true r,em false r]
  simp only[dD c 10 (by decide)]
 |false,c::r=>by
  have h:((r.map upC).head? =some 45)=(r.head? =some 45):=by
   cases r with
   |nil=>rfl
   |cons d q=>
    simp only[List.map_cons,List.head?_cons,Option.some.injEq]
    exact i8 d 45 (by decide)
  rw[List.map_cons,skipN,skipN,em true r,em false r]
  simp only[dD c 10 (by decide),dD c 32 (by decide),dD c 9 (by decide),dD c 45 (by decide),h]
theorem syms_up (c:UInt8):(upC c∈eg)=(c∈eg):=by
 unfold eg
 simp only[List.mem_cons,List.not_mem_nil,or_false]
 repeat rw[i8 c _ (by decide)]
theorem sym_map:∀l:List UInt8,symN (l.map upC)=symN l
 | []=>rfl
 | [c]=>by
  show symN [upC c]=_
  rw[symN,symN]
  simp only[syms_up]
 |c::d::r=>by
  show symN (upC c::upC d::r.map upC)=_
  rw[symN,symN]
  simp only[syms_up,i8 c 60 (by decide),i8 c 62 (by decide),i8 d 61 (by decide),i8 d 62 (by decide)]
theorem sym_text:∀l:List UInt8,(l.take (symN l)).map upC=l.take (symN l)
 | []=>rfl
 | [c]=>by
  rw[symN]
  split
  ·rename_i h
   simp only[List.take_succ_cons,List.take_nil,List.map_cons,List.map_nil,List.cons.injEq,and_true]
   revert h
   unfold eg
   simp only[List.mem_cons,List.not_mem_nil,or_false]
   rintro(rfl|rfl|rfl|rfl|rfl|rfl|rfl|rfl|rfl|rfl|rfl|rfl|rfl)<;>rfl
  ·rfl
 |c::d::r=>by
  rw[symN]
  split
  ·rename_i h
   rcases h with ⟨rfl,rfl⟩|⟨rfl,rfl⟩|⟨rfl,rfl⟩<;>rfl
  ·split
   ·rename_i h
    simp only[List.take_succ_cons,List.take_zero,List.map_cons,List.map_nil,List.cons.injEq,and_true]
    revert h
    unfold eg
    simp only[List.mem_cons,List.not_mem_nil,or_false]
    rintro(rfl|rfl|rfl|rfl|rfl|rfl|rfl|rfl|rfl|rfl|rfl|rfl|rfl)<;>rfl
   ·rfl
theorem map_up_id (l:List UInt8) (h:∀c∈l,isDigit c=true):l.map upC=l:=by
 conv=>rhs;rw[←List.map_id l]
 exact List.map_congr_left fun c a=>lR c (h c a)
theorem isKw_up (l:List UInt8):isKw (l.map upC)=isKw l:=by
 unfold isKw
 rw[List.map_map]
 have:upC∘upC=upC:=funext up_up
 rw[this]
theorem head_map (l:List UInt8):headW (l.map upC)=headW l:=by
 cases l with
 |nil=>rfl
 |cons c r=>exact up_word c
theorem tok_map (c:UInt8) (r:List UInt8) (a:c.toNat≠39):tokL ((c::r).map upC)=tokL (c::r):=by
 have b:(c::r).map upC=upC c::r.map upC:=rfl
 rw[b,tokL,tokL,up_letter,i7]
 simp only[dD c 39 (by decide)]
 rw[←b]
 split
 ·unfold wordL
  rw[ja inWord up_word,←List.map_take,isKw_up,List.map_map,List.map_map]
  have g:upC∘upC=upC:=funext up_up
  have f:loC∘upC=loC:=funext lo_up
  rw[g,f]
 split
 ·unfold numL
  rw[ja isDigit i7,←List.map_take,←List.map_drop,head_map,map_up_id _ (span_all isDigit (c::r))]
  have e:(((c::r).map upC).head? =some 48)=((c::r).head? =some 48):=by
   simp only[List.map_cons,List.head?_cons,Option.some.injEq]
   exact i8 c 48 (by decide)
  simp only[e]
 try rw[if_neg a,if_neg a]
 unfold symL
 rw[sym_map,←List.map_take,sym_text]
theorem T_map:∀(m:Nat) (l:List UInt8) (p:Nat),l.length≤m→(∀c∈l,c.toNat≠39)→T (l.map upC) p=T l p:=by
 intro m
 induction m with
 |zero=>
  intro l p o _
  obtain rfl:l= []:=List.eq_nil_of_length_eq_zero (by omega)
  rfl
 |succ m ih=>
  intro l p o q
  have b:=em false l
  cases hd:l.drop (skipN false l)with
  |nil=>
   rw[T_end l p hd,T_end (l.map upC) p (by rw[b,←List.map_drop,hd];rfl),b]
  |cons c r=>
   have g:(l.map upC).drop (skipN false (l.map upC))=upC c::r.map upC:=by rw[b,←List.map_drop,hd];rfl
   have a:∀x∈c::r,x.toNat≠39:=fun x h=>q x (List.mem_of_mem_drop (hd ▸ h))
   have i:=tok_map c r (a c (List.mem_cons_self))
   have j:(c::r).length≤l.length:=by rw[←hd,List.length_drop];omega
   cases f:tokL (c::r)with
   |bad e=>
    rw[T_bad l p c r e hd f,T_bad _ p (upC c) (r.map upC) e g (i.trans f),b]
   |tok k x n=>
    have s:=tok_bound c r k x n f
    rw[T_tok l p c r k x n hd f,T_tok _ p (upC c) (r.map upC) k x n g (i.trans f),b]
    rw[←List.map_cons,←List.map_drop,ih _ _ (by rw[List.length_drop];omega) fun x h=>a x (List.mem_of_mem_drop h)]
theorem T_case (l a:List UInt8) (p:Nat) (h:a.map upC=l.map upC) (f:∀c∈l,c.toNat≠39):T a p=T l p:=by
 have b:∀c∈a,c.toNat≠39:=by
  intro c m k
  have j:upC c∈l.map upC:=h ▸ List.mem_map_of_mem m
  obtain⟨d,hd,e⟩:=List.mem_map.1 j
  have i:=dD c 39 (by decide)
  have g:=dD d 39 (by decide)
  rw[e]at g
  exact f d hd (g ▸ i.symm ▸ k)
 rw[←T_map _ a p (Nat.le_refl _) b,←T_map _ l p (Nat.le_refl _) f,h]
end Lx
namespace Lx
def lowW (c:UInt8):Bool:=(97≤c.toNat&&c.toNat≤122)||isDigit c||c.toNat==95
def nameP (l:List UInt8):Bool:=
 match l with
 | []=>false
 |c::r=>decide (l.length≤24) && (decide (97≤c.toNat) &&decide (c.toNat≤122)) &&l.all lowW&&!(isKw l)
theorem letter_word (c:UInt8) (h:isLetter c=true):inWord c=true:=by unfold inWord;rw[h];rfl
def flat:List UInt8→List UInt8
 | []=> []
 |c::r=>if c.toNat=39 then c::c::flat r else c::flat r
theorem dv_from (l:List UInt8):∀v,l.foldl (fun v c=>10*v+(c.toNat-48)) v=v*10^l.length+digVal l:=by
 unfold digVal
 induction l with
 |nil=>intro v;simp
 |cons c r ih=>
  intro v
  rw[List.foldl_cons,List.foldl_cons,ih,ih (10*0+_),List.length_cons,Nat.pow_succ,Nat.add_mul]
  have:10*v*10^r.length=v* (10^r.length*10):=by rw[Nat.mul_comm 10 v,Nat.mul_assoc,Nat.mul_comm 10]
  rw[this]
  simp only[Nat.mul_zero,Nat.zero_add]
  omega
theorem dv_cons (c:UInt8) (r:List UInt8):digVal (c::r)=(c.toNat-48)*10^r.length+digVal r:=by
 have:=dv_from r (10*0+(c.toNat-48))
 rw[Nat.mul_zero,Nat.zero_add]at this
 rw[←this]
 show List.foldl _ _ _=_
 rw[List.foldl_cons,Nat.mul_zero,Nat.zero_add]
end Lx
namespace Lx
def kW:Option (List UInt8×Nat)→Value
 |some (X,i)=> .tuple #[.string ⟨X.toArray⟩,.int .i64 i]
 |none=> .tuple #[.string ⟨#[]⟩,.int .i64 (-1)]
def litS (s:ByteArray) (k:Nat):Value:=kW (litF (s.data.toList.drop (k+1)) [] (k+1))
theorem ext1 (t:ByteArray) (k:Nat) (h:k<t.size):(t.extract k (k+1)).data.toList= [t[k]]:=by
 have a:k<t.data.toList.length:=by simpa using h
 rw[Lib.extract_data]
 have:t.data.toList.drop k=t.data.toList[k]::t.data.toList.drop (k+1):=List.drop_eq_getElem_cons a
 rw[show k+1-k=1 by omega,this]
 rfl
theorem drop1 (s:ByteArray) (k:Nat) (h:k<s.size):s.data.toList.drop k=s[k]::s.data.toList.drop (k+1):=List.drop_eq_getElem_cons (show k<s.data.toList.length from h)
theorem lit_end (X:ByteArray) (k:Nat):Value.tuple #[.string X,.int .i64 ((k:Int)+1)]=kW (some (X.data.toList,k+1)):=by
 show _=Value.tuple #[.string ⟨X.data.toList.toArray⟩,.int .i64 ((k+1:Nat):Int)]
 congr
theorem literal_any (s:ByteArray) (a:Nat) (w:World) (hs:s.size≤20000) (E:a<s.size):
  Calls Tryz.prog 167 #[.string s,.int .i64 a] w fun e w'=>e= .returned (litS s a)∧w'=w:=by
 have F:Hid (litS s a=kW (litF (s.data.toList.drop (a+1)) [] (a+1))):=rfl
 generalize litS s a=V at*
 go_enter Tryz.func167,Tryz.ntmps167
 go_wp2_with fail
 go_loop [6,7] (fun x i=> ∃(k:Nat) (X:ByteArray),k≤s.size∧X.size≤k∧i= .int .i64 k∧x= .string X∧V=kW (litF (s.data.toList.drop k) X.data.toList k)) (fun _ i=>s.size- (intOf i).toNat)
 case atStart=>exact⟨a+1,⟨#[]⟩,E,Nat.zero_le _,by go_num,rfl,F⟩
 case round=>
  obtain⟨k,X,K,I,rfl,rfl,y⟩:=hrel
  have j:=hid y
  clear y
  by_cases h:k<s.size
  ·have m:=hid (drop1 s k h)
   have C:=hid (ext1 s k h)
   have G:(s.extract k (k+1)).size=1:=by
    show(s.extract k (k+1)).data.toList.length=1
    rw[ext1 s k h];rfl
   by_cases u:32≤s[k].toNat∧s[k].toNat≤126
   ·have r:Hid (isPrint s[k]=true):=by unfold Hid isPrint;simpa using u
    have f:Hid (¬isPrint s[k]=false):=by unfold Hid;rw[r.out];decide
    obtain⟨H,J⟩:=u
    by_cases n:s[k].toNat=39
    ·have B:((s[k].toNat:Int)==39)=true:=by rw[n];rfl
     have o:=hid n
     clear n
     by_cases q:k+1<s.size
     ·have l:=hid (drop1 s (k+1) q)
      have D:=hid (ext1 s (k+1) q)
      have A:(s.extract (k+1) (k+1+1)).size=1:=by
       show(s.extract (k+1) (k+1+1)).data.toList.length=1
       rw[ext1 s (k+1) q];rfl
      have t:((k:Int)+1==(s.size:Int))=false:=by rw[beq_eq_false_iff_ne];omega
      by_cases b:s[k+1].toNat=39
      ·have z:((s[k+1].toNat:Int)==39)=true:=by rw[b];rfl
       have p:((s[k+1].toNat:Int) !=39)=false:=by rw[b];rfl
       have g:=hid b
       clear b
       go_wp2_with fail
       all_goals first
        |(exfalso;simp only[t,p]at*;simp at*;done)
        |skip
       go_round
       case rel=>
        refine⟨k+1+1,X++s.extract (k+1) (k+1+1),by omega,?_,by go_num,rfl,?_⟩
        ·rw[ByteArray.size_append,A];omega
        ·rw[j.out,m.out,lit_cons,if_neg f.out,if_pos o.out,l.out]
         simp only
         rw[if_pos g.out]
         rw[ByteArray.data_append,Array.toList_append,D.out]
       case measure=>simp[intOf];omega
      ·have z:((s[k+1].toNat:Int)==39)=false:=by rw[beq_eq_false_iff_ne];omega
       have p:((s[k+1].toNat:Int) !=39)=true:=by rw[bne_iff_ne];omega
       have g:Hid (¬s[k+1].toNat=39):=b
       clear b
       go_wp2_with fail
       all_goals first
        |(exfalso;simp only[t,p]at*;simp at*;done)
        |skip
       go_ret2
       refine⟨?_,rfl⟩
       show Ending.returned (.tuple #[.string X,.int .i64 ((k:Int)+1)])=_
       rw[lit_end,j.out,m.out,lit_cons,if_neg f.out,if_pos o.out,l.out]
       simp only
       rw[if_neg g.out]
     ·have t:((k:Int)+1==(s.size:Int))=true:=by rw[beq_iff_eq];omega
      go_wp2_with fail
      go_ret2
      refine⟨?_,rfl⟩
      show Ending.returned (.tuple #[.string X,.int .i64 ((k:Int)+1)])=_
      rw[lit_end,j.out,m.out,lit_cons,if_neg f.out,if_pos o.out]
      rw[List.drop_of_length_le (show s.data.toList.length≤k+1 by show s.size≤_;omega)]
    ·have B:((s[k].toNat:Int)==39)=false:=by rw[beq_eq_false_iff_ne];omega
     have o:Hid (¬s[k].toNat=39):=n
     clear n
     go_wp2_with fail
     go_round
     case rel=>
      refine⟨k+1,X++s.extract k (k+1),by omega,?_,by go_num,rfl,?_⟩
      ·rw[ByteArray.size_append,G];omega
      ·rw[j.out,m.out,lit_cons,if_neg f.out,if_neg o.out]
       rw[ByteArray.data_append,Array.toList_append,C.out]
     case measure=>simp[intOf];omega
   ·have r:Hid (isPrint s[k]=false):=by
     unfold Hid isPrint
     rw[Bool.and_eq_false_iff]
     simp only[decide_eq_false_iff_not]
     omega
    go_wp2_with fail
    all_goals
     go_ret2
     refine⟨?_,rfl⟩
     rw[j.out,m.out,lit_cons,if_pos r.out]
     rfl
  ·go_wp2_with fail
   go_ret2
   refine⟨?_,rfl⟩
   rw[j.out,List.drop_of_length_le (show s.data.toList.length≤k by show s.size≤_;omega),litF]
   rfl
end Lx
namespace Lx
def BM (w:World) (g:Nat) (t:TypeId) (cs:List Value):Prop:=∃lo hi:Nat,cs.length≤lo∧w.heap[g]? =some (.cells cs.toArray t (lo,hi))
theorem BM.cell {w:World} {g:Nat} {t:TypeId} {cs:List Value} (h:BM w g t cs) {i:Nat} {v:Value} (a:cs[i]? =some v):w.cell? ⟨g,i,none⟩=some v:=by
 obtain⟨lo,hi,_,h⟩:=h
 simp[World.cell?,h,a]
theorem BM.frozen {w:World} {g:Nat} {t:TypeId} {cs:List Value} (h:BM w g t cs) {i:Nat} (hi:i<cs.length):w.frozen? ⟨g,i,none⟩=false:=by
 obtain⟨lo,a,b,h⟩:=h
 unfold World.frozen?
 rw[h]
 simp only[Bool.and_eq_false_iff,decide_eq_false_iff_not]
 left;omega
theorem BM.set {w:World} {g:Nat} {t:TypeId} {cs:List Value} (h:BM w g t cs) (i:Nat) (u:Value):BM (w.setCell ⟨g,i,none⟩ u) g t (cs.set i u):=by
 obtain⟨lo,hi,a,h⟩:=h
 refine⟨lo,hi,by rw[List.length_set];exact a,?_⟩
 simp[World.setCell,Array.getElem?_modify,h]
theorem BM.ext {w w':World} {g:Nat} {t:TypeId} {cs:List Value} (h:BM w g t cs) (b:Ext w w'):BM w' g t cs:=by
 obtain⟨lo,hi,a,h⟩:=h
 exact⟨lo,hi,a,(Below.block b g (Array.getElem?_eq_some_iff.1 h).1).trans h⟩
theorem BM.lt {w:World} {g:Nat} {t:TypeId} {cs:List Value} (h:BM w g t cs):g<w.heap.size:=by
 obtain⟨lo,hi,_,h⟩:=h
 exact(Array.getElem?_eq_some_iff.1 h).1
def b8 (l:List UInt8):List Value:=l.map fun c=> .int .u8 (c.toNat:Int)
theorem b8_len (l:List UInt8):(b8 l).length=l.length:=List.length_map _
theorem b8_get (l:List UInt8) (i:Nat) (h:i<l.length):(b8 l)[i]? =some (.int .u8 ((l[i].toNat:Nat):Int)):=by
 simp[b8,List.getElem?_map,List.getElem?_eq_getElem h]
theorem b8_get' (l:List UInt8) (r:List Value) (i:Nat) (h:i<l.length):(b8 l++r)[i]? =some (.int .u8 ((l[i].toNat:Nat):Int)):=by
 rw[List.getElem?_append_left (by rw[b8_len];exact h),b8_get l i h]
theorem b8_set (l:List UInt8) (r:List Value) (i:Nat) (c:UInt8) (h:i<l.length):(b8 l++r).set i (.int .u8 (c.toNat:Int))=b8 (l.set i c)++r:=by
 rw[List.set_append_left _ _ (by rw[b8_len];exact h)]
 simp[b8,List.map_set]
theorem conv_blk {P:Program} (w:World) (a b e:TypeId) (s:ByteArray) (hs:P.underlying a=some .string) (hd:P.underlying b=some (.slice e)) (i:P.underlying e=some (.int .u8)):
  ∃g f rest,(convert a b (.string s)).run P w= .ok (.slice (some ⟨w.heap.size,0,none⟩) s.size g) f∧Ext w f∧f.heap.size=w.heap.size+1∧BM f w.heap.size e (b8 s.data.toList++rest):=by
 refine⟨_,_,(Array.replicate (grownCap w s.size 0 e-s.size) (.int .u8 0)).toList,run_bytes_of_string w a b e s hs hd i,((Ext.refl w).drew).alloc _,by simp,?_⟩
 have h:b8 s.data.toList++(Array.replicate (grownCap w s.size 0 e-s.size) (Value.int .u8 0)).toList=(bytesRow s (grownCap w s.size 0 e)).toList:=by
  unfold bytesRow b8
  rw[Array.toList_append,Array.toList_map]
 rw[h]
 refine⟨(bytesRow s (grownCap w s.size 0 e)).size,(bytesRow s (grownCap w s.size 0 e)).size+1,Nat.le_of_eq (by rw[Array.length_toList]),?_⟩
 show(w.heap.push _)[w.heap.size]? =_
 simp
theorem strOf_b8 (l:List UInt8):strOfNums (l.map fun c=> (c.toNat:Int))=⟨l.toArray⟩:=by
 unfold strOfNums
 congr 1
 simp[Function.comp_def]
theorem conv_pre {P:Program} {w:World} (a b e g f:Nat) (l:List UInt8) (r:List Value) (n:Nat) (k:n=l.length) (hs:P.underlying a=some (.slice e)) (j:P.underlying e=some (.int .u8)) (hd:P.underlying b=some .string)
  (h:BM w g e (b8 l++r)):(convert a b (.slice (some ⟨g,0,none⟩) n f)).run P w= .ok (.string ⟨l.toArray⟩) w:=by
 rw[run_convert_bytes_arg w a e hs j g 0 n f (l.map fun c=> (c.toNat:Int)) (by simp[k]) (fun i hi=>?_) b hd,strOf_b8]
 rw[Nat.zero_add,h.cell (b8_get' l r i (by omega))]
 simp[List.getElem?_eq_getElem (show i<l.length by omega)]
def di (f:UInt8→UInt8) (l:List UInt8) (k:Nat):List UInt8:=(l.take k).map f++l.drop k
theorem en (f:UInt8→UInt8) (l:List UInt8) (k:Nat):(di f l k).length=l.length:=by
 unfold di
 rw[List.length_append,List.length_map,List.length_take,List.length_drop]
 omega
theorem jb (f:UInt8→UInt8) (s:ByteArray) (k:Nat) (h:k<s.size) (b:k<(di f s.data.toList k).length):(di f s.data.toList k)[k]=s[k]:=by
 have a:((s.data.toList.take k).map f).length=k:=by
  rw[List.length_map,List.length_take]
  have:s.data.toList.length=s.size:=rfl
  omega
 unfold di at*
 rw[List.getElem_append_right (by omega)]
 simp only[a,Nat.sub_self]
 simp only[drop1 s k h,List.getElem_cons_zero]
theorem jc (f:UInt8→UInt8) (s:ByteArray) (k:Nat) (h:k<s.size):(di f s.data.toList k).set k (f s[k])=di f s.data.toList (k+1):=by
 have a:((s.data.toList.take k).map f).length=k:=by
  rw[List.length_map,List.length_take]
  have:s.data.toList.length=s.size:=rfl
  omega
 unfold di
 rw[List.set_append_right _ _ (by omega),a,Nat.sub_self,drop1 s k h,List.set_cons_zero,take1 s k h,List.map_append,List.append_assoc]
 rfl
theorem kq (f:UInt8→UInt8) (s:ByteArray) (k:Nat) (h:k<s.size) (e:f s[k]=s[k]):di f s.data.toList k=di f s.data.toList (k+1):=by
 have a:k<(di f s.data.toList k).length:=by rw[en];exact h
 rw[←jc f s k h,e]
 conv=>rhs;rw[←jb f s k h a]
 exact(List.set_getElem_self a).symm
theorem lS (f:UInt8→UInt8) (s:ByteArray) (k:Nat) (h:k=s.size):di f s.data.toList k=s.data.toList.map f:=by
 subst h
 unfold di
 have e:s.data.toList.length=s.size:=rfl
 rw[List.take_of_length_le (Nat.le_of_eq e),List.drop_of_length_le (Nat.le_of_eq e),List.append_nil]
theorem kr (s:ByteArray) (w:World) (hs:s.size≤20000):Calls Tryz.prog 230 #[.string s] w fun e w'=>e= .returned (.string ⟨(s.data.toList.map upC).toArray⟩)∧Ext w w':=by
 obtain⟨p,C,rest,g,l,j,m⟩:=conv_blk (P:=Tryz.prog) w 9 60 5 s Tryz.underlying9 Tryz.underlying60 Tryz.underlying5
 have B:=hid j
 clear j
 go_enter Tryz.func230,Tryz.ntmps230
 go_wp2_with fail
 go_loopw [4,5,10] (fun _ _ i wr=> ∃k:Nat,k≤s.size∧i= .int .i64 k∧BM wr w.heap.size 5 (b8 (di upC s.data.toList k)++rest)∧Ext w wr) (fun _ _ i _=>s.size- (intOf i).toNat)
 case atStart=>exact⟨0,Nat.zero_le _,rfl,m,l⟩
 case round=>
  obtain⟨k,D,rfl,a,h⟩:=hrel
  have r:=hid a
  have n:=hid h
  clear h l m g
  by_cases b:k<s.size
  ·have f:k<(di upC s.data.toList k).length:=by rw[en];exact b
   have q:=a.cell (b8_get' _ rest k f)
   rw[jb upC s k b f]at q
   have x:wr.frozen? ⟨w.heap.size,k,none⟩=false:=a.frozen (by rw[List.length_append,b8_len];omega)
   clear a
   by_cases o:97≤s[k].toNat∧s[k].toNat≤122
   ·have y:Hid ((upC s[k]).toNat=s[k].toNat-32):=by unfold Hid;rw[upC_num,if_pos o]
    obtain⟨z,A⟩:=o
    go_wp2_with fail
    go_roundw
    case rel=>
     refine⟨k+1,by omega,by go_num,?_,n.setCell (Nat.le_refl _) _⟩
     have t:=r.set k (.int .u8 ((upC s[k]).toNat:Int))
     rw[b8_set _ rest k _ f,jc upC s k b,y.out]at t
     have e:(((s[k].toNat:Int)-97+65):Int)=((s[k].toNat-32:Nat):Int):=by omega
     rw[e]
     exact t
    case measure=>simp[intOf];omega
   ·have u:Hid (di upC s.data.toList k=di upC s.data.toList (k+1)):=kq upC s k b (by unfold upC;rw[if_neg o])
    go_wp2_with fail
    all_goals
     go_roundw
     case rel=>exact⟨k+1,by omega,by go_num,by rw[←u.out];exact r,n⟩
     case measure=>simp[intOf];omega
  ·have g:=conv_pre (P:=Tryz.prog) (w:=wr) 60 9 5 w.heap.size p (di upC s.data.toList k) rest s.size (by rw[en];rfl) Tryz.underlying60 Tryz.underlying5 Tryz.underlying9 a
   rw[lS upC s k (by omega)]at g
   go_wp2_with fail
   go_ret
   exact⟨rfl,n⟩
theorem lower_any (s:ByteArray) (w:World) (hs:s.size≤20000):Calls Tryz.prog 231 #[.string s] w fun e w'=>e= .returned (.string ⟨(s.data.toList.map loC).toArray⟩)∧Ext w w':=by
 obtain⟨p,C,rest,g,l,j,m⟩:=conv_blk (P:=Tryz.prog) w 9 60 5 s Tryz.underlying9 Tryz.underlying60 Tryz.underlying5
 have B:=hid j
 clear j
 go_enter Tryz.func231,Tryz.ntmps231
 go_wp2_with fail
 go_loopw [4,5,10] (fun _ _ i wr=> ∃k:Nat,k≤s.size∧i= .int .i64 k∧BM wr w.heap.size 5 (b8 (di loC s.data.toList k)++rest)∧Ext w wr) (fun _ _ i _=>s.size- (intOf i).toNat)
 case atStart=>exact⟨0,Nat.zero_le _,rfl,m,l⟩
 case round=>
  obtain⟨k,D,rfl,a,h⟩:=hrel
  have r:=hid a
  have n:=hid h
  clear h l m g
  by_cases b:k<s.size
  ·have f:k<(di loC s.data.toList k).length:=by rw[en];exact b
   have q:=a.cell (b8_get' _ rest k f)
   rw[jb loC s k b f]at q
   have x:wr.frozen? ⟨w.heap.size,k,none⟩=false:=a.frozen (by rw[List.length_append,b8_len];omega)
   clear a
   by_cases o:65≤s[k].toNat∧s[k].toNat≤90
   ·have y:Hid ((loC s[k]).toNat=s[k].toNat+32):=by unfold Hid;rw[loC_num,if_pos o]
    obtain⟨z,A⟩:=o
    go_wp2_with fail
    go_roundw
    case rel=>
     refine⟨k+1,by omega,by go_num,?_,n.setCell (Nat.le_refl _) _⟩
     have t:=r.set k (.int .u8 ((loC s[k]).toNat:Int))
     rw[b8_set _ rest k _ f,jc loC s k b,y.out]at t
     have e:(((s[k].toNat:Int)-65+97):Int)=((s[k].toNat+32:Nat):Int):=by omega
     rw[e]
     exact t
    case measure=>simp[intOf];omega
   ·have u:Hid (di loC s.data.toList k=di loC s.data.toList (k+1)):=kq loC s k b (by unfold loC;rw[if_neg o])
    go_wp2_with fail
    all_goals
     go_roundw
     case rel=>exact⟨k+1,by omega,by go_num,by rw[←u.out];exact r,n⟩
     case measure=>simp[intOf];omega
  ·have g:=conv_pre (P:=Tryz.prog) (w:=wr) 60 9 5 w.heap.size p (di loC s.data.toList k) rest s.size (by rw[en];rfl) Tryz.underlying60 Tryz.underlying5 Tryz.underlying9 a
   rw[lS loC s k (by omega)]at g
   go_wp2_with fail
   go_ret
   exact⟨rfl,n⟩
end Lx
section
open Go.Shelf
def Tryz.lays26_ren:Go.Shelf.Ren:=⟨fun|26=>262|33=>279|34=>280|38=>298|n=>n,fun|24=>101|40=>230|n=>n,fun|n=>n⟩
theorem Tryz.lays26:Go.Proofs.Lays2.n26 Tryz.prog Tryz.lays26_ren:= {
 mixed:=by kernel_rfl
 f26:=Tryz.func262.trans (congrArg some (by kernel_rfl))
 f33:=Tryz.func279.trans (congrArg some (by kernel_rfl))
 f34:=Tryz.func280.trans (congrArg some (by kernel_rfl))
 f38:=Tryz.func298.trans (congrArg some (by kernel_rfl))
 t0:=Tryz.underlying0
 a0:=Tryz.isAgg0
 z0:=Tryz.sizeOf0
 v0:=Tryz.zeroValue0
 t3:=Tryz.underlying3
 a3:=Tryz.isAgg3
 z3:=Tryz.sizeOf3
 v3:=Tryz.zeroValue3
 t4:=Tryz.underlying4
 a4:=Tryz.isAgg4
 z4:=Tryz.sizeOf4
 v4:=Tryz.zeroValue4
 t9:=Tryz.underlying9
 a9:=Tryz.isAgg9
 z9:=Tryz.sizeOf9
 v9:=Tryz.zeroValue9
 t24:=Tryz.underlying101
 a24:=Tryz.isAgg101
 z24:=Tryz.sizeOf101
 v24:=Tryz.zeroValue101
 t40:=Tryz.underlying230
 a40:=Tryz.isAgg230
 z40:=Tryz.sizeOf230
 v40:=Tryz.zeroValue230 }
open Go.RowKit in
theorem Tryz.slices_BinarySearch (b a n c:Nat) (Sx:Nat→ByteArray) (x:ByteArray) (w:World) (f:n<4611686018427387904) (g:∀j,j<n→w.cell? ⟨b,a+j,none⟩=some (.string (Sx j))):
  Calls Tryz.prog 262 #[.slice (some ⟨b,a,none⟩) n c,.string x] w fun e w'=>
   e= .returned (.tuple #[.int .i64 (Lib.bsGo (fun t=>Op.bytesLess (Sx t).toList x.toList) n 0 n:Nat),.bool (decide (Lib.bsGo (fun t=>Op.bytesLess (Sx t).toList x.toList) n 0 n<n∧Sx (Lib.bsGo (fun t=>Op.bytesLess (Sx t).toList x.toList) n 0 n)=x))])∧∃q,w'=w.drewN q:=Any2.slices_BinarySearch_string Tryz.lays26 b a n c Sx x w f g
end
namespace Lx
def kwAt (t:Nat):List UInt8:=kwNames.getD t [255]
def kwStr (t:Nat):ByteArray:=⟨(kwAt t).toArray⟩
def kwVals:List Value:=kwNames.map fun l=> .string ⟨l.toArray⟩
theorem kwVals_get (k:Nat) (h:k<47):kwVals[k]? =some (.string (kwStr k)):=by
 have a:k<kwNames.length:=h
 unfold kwVals kwStr kwAt
 rw[List.getElem?_map,List.getD_eq_getElem?_getD,List.getElem?_eq_getElem a]
 rfl
theorem fY (l:List UInt8):(⟨l.toArray⟩:ByteArray).toList=l:=by rw[ByteArray.toList_eq]
theorem fB (k:Nat):(kwStr k).toList=kwAt k:=fY _
theorem kw_sorted:(List.range 47).all (fun j=> (List.range 48).all fun t=>Op.bytesLess (kwAt t) (kwAt j)==decide (t<j))=true:=by decide+kernel
theorem kw_less (j t:Nat) (f:j<47):Op.bytesLess (kwAt t) (kwAt j)=decide (t<j):=by
 have b:=List.all_eq_true.1 (List.all_eq_true.1 kw_sorted j (List.mem_range.2 f))
 rcases Nat.lt_or_ge t 48 with h|h
 ·exact eq_of_beq (b t (List.mem_range.2 h))
 ·have a:=eq_of_beq (b 47 (List.mem_range.2 (by omega)))
  have e:kwAt t=kwAt 47:=by
   unfold kwAt
   rw[List.getD_eq_getElem?_getD,List.getD_eq_getElem?_getD,List.getElem?_eq_none (show kwNames.length≤t from Nat.le_trans (by decide) h),List.getElem?_eq_none (show kwNames.length≤47 from Nat.le_refl _)]
  rw[e,a]
  apply decide_eq_decide.2
  omega
theorem kw_search (x:List UInt8):decide (Lib.bsGo (fun t=>Op.bytesLess (kwStr t).toList (⟨x.toArray⟩:ByteArray).toList) 47 0 47<47∧kwStr (Lib.bsGo (fun t=>Op.bytesLess (kwStr t).toList (⟨x.toArray⟩:ByteArray).toList) 47 0 47)=⟨x.toArray⟩)=decide (x∈kwNames):=by
 by_cases h:x∈kwNames
 ·obtain⟨j,f,m⟩:=List.getElem_of_mem h
  have a:j<47:=f
  have e:x=kwAt j:=by unfold kwAt;rw[List.getD_eq_getElem?_getD,List.getElem?_eq_getElem f,m];rfl
  have l:Lib.bsGo (fun t=>Op.bytesLess (kwStr t).toList (⟨x.toArray⟩:ByteArray).toList) 47 0 47=j:=by
   apply Lib.bsGo_spec _ j
   ·intro t g
    show Op.bytesLess (kwStr t).toList _=true
    rw[fB,fY,e,kw_less j t a,decide_eq_true g]
   ·intro t g
    show Op.bytesLess (kwStr t).toList _=false
    rw[fB,fY,e,kw_less j t a,decide_eq_false (by omega)]
   ·omega
   ·omega
   ·omega
  rw[l,decide_eq_true h,decide_eq_true]
  refine⟨a,?_⟩
  unfold kwStr
  rw[e]
 ·rw[decide_eq_false h]
  apply decide_eq_false
  generalize Lib.bsGo _ 47 0 47=I
  rintro⟨k,i⟩
  apply h
  have b:=congrArg ByteArray.toList i
  rw[fB,fY]at b
  rw[←b]
  unfold kwAt
  rw[List.getD_eq_getElem?_getD,List.getElem?_eq_getElem (show I<kwNames.length from k)]
  exact List.getElem_mem _
def KwAt (w:World):Prop:=∃b off c,w.cell? ⟨0,0,none⟩=some (.slice (some ⟨b,off,none⟩) 47 c)∧∀j,j<47→w.cell? ⟨b,off+j,none⟩=some (.string (kwStr j))
theorem KwAt.ext {w w':World} (h:KwAt w) (e:Ext w w'):KwAt w':=by
 obtain⟨b,a,c,g,f⟩:=h
 exact⟨b,a,c,e.keep g,fun j i=>e.keep (f j i)⟩
theorem nz (b a c:Nat) (x:List UInt8) (w:World) (h:∀j,j<47→w.cell? ⟨b,a+j,none⟩=some (.string (kwStr j))):
  ∃I:Int,∀(y:ae w),Calls Tryz.prog 262 #[.slice (some ⟨b,a,none⟩) 47 c,.string ⟨x.toArray⟩] y.now fun e w'=>e= .returned (.tuple #[.int .i64 I,.bool (decide (x∈kwNames))])∧Ext y.now w':=by
 refine⟨((Lib.bsGo (fun t=>Op.bytesLess (kwStr t).toList (⟨x.toArray⟩:ByteArray).toList) 47 0 47:Nat):Int),fun y=>?_⟩
 refine(Tryz.slices_BinarySearch b a 47 c kwStr ⟨x.toArray⟩ y.now (by decide) fun j f=>y.ext.keep (h j f)).mono ?_
 rintro e w' ⟨rfl,q,rfl⟩
 refine⟨?_,(Ext.refl _).drewN q⟩
 rw[kw_search]
theorem keyword_any (s:ByteArray) (w:World) (hs:s.size≤20000) (j:KwAt w):Calls Tryz.prog 229 #[.string s] w fun e w'=>e= .returned (.bool (isKw s.data.toList))∧Ext w w':=by
 obtain⟨b,f,c,i,h⟩:=j
 obtain⟨I,g⟩:=nz b f c (s.data.toList.map upC) w h
 have k:=ae.keep i
 have l:=hid g
 clear g h
 go_enter Tryz.func229,Tryz.ntmps229
 go_wp2_with fail
 refine aa (by kernel_rfl) (by kernel_rfl) ?_
 repeat (go_big_quiet_step ((first|(go_at_call 230;exact am (kr s _ hs))|(go_at_call 262;exact am (l _)))))
 refine wpQuiet_nil ?_
 intro w' a
 have m:=af a
 clear a k i
 go_wp2_with fail
 go_ret
 exact⟨rfl,m⟩
end Lx
end Go.Proofs.YtjigcpfjhfoheaaGreatDoor
