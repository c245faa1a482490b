/- Tokens: their cells, slices of them; Slices of tokens with the room behind them; Walks over the lexer: Tokens; The parser as plain functions on a list of tokens; no program in sight; The reference's reader as plain functions; it r. -/
import Derived.Test.YtjigcpfjhfoheaaGreatDoorYac
import Derived.Test.YtjigcpfjhfoheaaGreatDoorYaa
import Derived.Test.YtjigcpfjhfoheaaGreatDoorYab
namespace Go.Proofs.YtjigcpfjhfoheaaGreatDoor
open Go.RowKit
set_option maxHeartbeats 2000000
set_option maxRecDepth 100000
set_option linter.unusedVariables false
set_option linter.unusedSimpArgs false
namespace Lx
def Tk.cells (t:Tk):List Value:= [.int .i64 t.kind,.string ⟨t.text.toArray⟩,.int .i64 t.pos]
def tkc (l:List Tk):List Value:=l.flatMap Tk.cells
theorem tkc_app (l m:List Tk):tkc (l++m)=tkc l++tkc m:=by simp[tkc]
theorem tkc_one (a:Tk):tkc [a]=a.cells:=by simp[tkc]
theorem lV (l:List Tk) (a:Tk):tkc (l++ [a])=tkc l++a.cells:=by rw[tkc_app,tkc_one]
theorem lW (a:Tk) (l:List Tk):tkc (a::l)=a.cells++tkc l:=by simp[tkc]
theorem tkc_len (l:List Tk):(tkc l).length=l.length*3:=by
 induction l with
 |nil=>rfl
 |cons a l ih=>rw[lW,List.length_append,ih];simp[Tk.cells];omega
theorem la (l:List Tk):∀(i j:Nat) (a:Tk),l[i]? =some a→j<3→(tkc l)[i*3+j]? =a.cells[j]? :=by
 induction l with
 |nil=>intro i j a h;simp at h
 |cons x l ih=>
  intro i j a h g
  rw[lW]
  cases i with
  |zero=>
   simp at h
   subst h
   rw[List.getElem?_append_left (by simp[Tk.cells];omega)]
   simp
  |succ i=>
   rw[List.getElem?_append_right (by simp[Tk.cells];omega)]
   have e:(i+1)*3+j-x.cells.length=i*3+j:=by simp[Tk.cells];omega
   rw[e]
   exact ih i j a (by simpa using h) g
def je (w:World) (A:Option Addr) (l:List Tk):Prop:=
 ∀(i:Nat) (a:Tk),l[i]? =some a→∃b off,A=some ⟨b,off,none⟩∧w.cell? ⟨b,off+i*3,none⟩=some (.int .i64 a.kind)∧w.cell? ⟨b,off+i*3+1,none⟩=some (.string ⟨a.text.toArray⟩)∧
  w.cell? ⟨b,off+i*3+2,none⟩=some (.int .i64 a.pos)
theorem je.ext {w w':World} {A:Option Addr} {l:List Tk} (h:je w A l) (e:Ext w w'):je w' A l:=fun i a o=>by
 obtain⟨b,g,n,k,m,j⟩:=h i a o
 exact⟨b,g,n,e.keep k,e.keep m,e.keep j⟩
theorem own_tks {w:World} {B e n:Nat} {v:Value} {l:List Tk} (h:w.ownsRow B e 3 v n (tkc l)):∃A c,v= .slice A n c∧je w A l∧l.length=n:=by
 have o:l.length=n:=by have:=h.1;rw[tkc_len]at this;omega
 have m:=fun g (q:v.ownBlock=some g)=>h.cells q
 rcases h.2 with ⟨rfl,h0⟩|⟨g,cap,cur,rfl,_⟩
 ·refine⟨none,0,by rw[h0],?_,o⟩
  have:l= []:=List.eq_nil_of_length_eq_zero (by omega)
  subst this
  intro i a ha
  simp at ha
 ·refine⟨_,_,rfl,fun i a ha=>?_,o⟩
  have m:=m g rfl
  have k:∀j,(⟨g,0,none⟩:Addr).add j=⟨g,0+j,none⟩:=fun j=>by unfold Addr.add;split<;>simp_all
  refine⟨g,0,rfl,?_,?_,?_⟩
  ·have:=m (i*3+0) (.int .i64 a.kind) (by rw[la l i 0 a ha (by omega)];rfl)
   rwa [k]at this
  ·have:=m (i*3+1) (.string ⟨a.text.toArray⟩) (by rw[la l i 1 a ha (by omega)];rfl)
   rwa [k,←Nat.add_assoc]at this
  ·have:=m (i*3+2) (.int .i64 a.pos) (by rw[la l i 2 a ha (by omega)];rfl)
   rwa [k,←Nat.add_assoc]at this
theorem ownN_ext {w w':World} {B e j n:Nat} {v:Value} {k:List Value} (h:w.ownsRow B e j v n k) (m:Ext w w'):w'.ownsRow B e j v n k:=by
 obtain⟨l,i⟩:=h
 refine⟨l,?_⟩
 rcases i with i|⟨g,cap,cur,hv,hg,hh,r⟩
 ·exact .inl i
 ·exact .inr ⟨g,cap,cur,hv,hg,(Below.block m g (Array.getElem?_eq_some_iff.1 hh).1).trans hh,r⟩
theorem news_at (w:World) (cs:Array Value) (e:TypeId) (n:Nat) (g:n=w.heap.size):∀(j:Nat) (u:Value),cs.toList[j]? =some u→(w.alloc (.cells cs e)).cell? ((⟨n,0,none⟩:Addr).add j)=some u:=by
 subst g
 exact fV w cs e
def lsL:Ls→List Tk
 | .bad _ _=> []
 | .ok l=>l
def lsP:Ls→Nat
 | .bad a _=>a
 | .ok _=>0
def lsE:Ls→Nat
 | .bad _ e=>e
 | .ok _=>0
def TokRes (x:Ls) (v:Value) (w:World):Prop:=∃A c,v= .tuple #[.slice A (lsL x).length c,.int .i64 (lsP x),.int .i64 (lsE x)]∧je w A (lsL x)
theorem TokRes.bad (a e:Nat) (w:World):TokRes (.bad a e) (.tuple #[.slice none 0 0,.int .i64 a,.int .i64 e]) w:=⟨none,0,rfl,fun i t h=>by simp[lsL]at h⟩
theorem tok_bad (c:UInt8) (r:List UInt8) (e:Nat) (h:tokL (c::r)= .bad e):e=2∨e=3:=by
 rw[tokL]at h
 split at h
 ·unfold wordL at h
  split at h
  ·cases h
  ·split at h<;>cases h
   exact .inr rfl
 split at h
 ·unfold numL at h
  split at h
  ·cases h;exact .inl rfl
  ·split at h<;>cases h
   exact .inr rfl
 split at h
 ·unfold textL at h
  cases g:litF r [] 1 with
  |none=>rw[g]at h;cases h;exact .inl rfl
  |some q=>
   obtain⟨X,i⟩:=q
   rw[g]at h
   simp only at h
   split at h<;>cases h
   exact .inr rfl
 ·unfold symL at h
  split at h<;>cases h
  exact .inl rfl
end Lx
namespace Lx
theorem own_tks2 {w:World} {B e n:Nat} {v:Value} {l:List Tk} (h:w.ownsRow B e 3 v n (tkc l)):∃A c,v= .slice A n c∧je w A l∧l.length=n∧n≤c:=by
 obtain⟨A,c,rfl,j,i⟩:=own_tks h
 refine⟨A,c,rfl,j,i,?_⟩
 rcases h.2 with ⟨hv,h0⟩|⟨g,cap,cur,hv,_,_,hnc,_⟩
 ·omega
 ·simp only[Value.slice.injEq]at hv
  obtain⟨_,_,rfl⟩:=hv
  exact hnc
def fZ (x:Ls) (v:Value) (w:World):Prop:=∃A c,v= .tuple #[.slice A (lsL x).length c,.int .i64 (lsP x),.int .i64 (lsE x)]∧je w A (lsL x)∧(lsL x).length≤c
theorem fZ.bad (a e:Nat) (w:World):fZ (.bad a e) (.tuple #[.slice none 0 0,.int .i64 a,.int .i64 e]) w:=⟨none,0,rfl,fun i t h=>by simp[lsL]at h,Nat.le_refl _⟩
end Lx
namespace Lx
theorem info_c37:(Tryz.prog.info? 70).map (fun i=> (i.zero,i.size,i.bytes))=some (some (.agg #[.int .i64 0,.string ⟨#[]⟩,.int .i64 0]),3,32):=by kernel_rfl
theorem tokens_cap (s:ByteArray) (w:World) (hs:s.size≤20000) (hk:KwAt w):Calls Tryz.prog 52 #[.string s] w fun e w'=> ∃v,e= .returned v∧fZ (tokAll s) v w'∧Ext w w':=by
 by_cases D:16384<s.size
 ·have Y:Hid (tokAll s= .bad 16384 3):=if_pos D
  go_enter Tryz.func52,Tryz.ntmps52
  go_wp2_with fail
  go_ret3
  exact⟨_,rfl,by rw[Y.out];exact fZ.bad _ _ _,Ext.refl _⟩
 have Y:Hid (tokAll s=T s.data.toList 0):=if_neg D
 obtain⟨i0,hi,R,U,P⟩:=info_parts info_c37
 have a2:skipN false s.data.toList≤s.size:=skip_le false s.data.toList
 have X:=hid (fun W a (ha:a≤s.size)=>skip_any s a W hs ha)
 have J:Hid (∀a,a≤s.size→a+skipN false (s.data.toList.drop a)≤s.size):=fun a ha=>by
  have:=skip_le false (s.data.toList.drop a)
  rw[List.length_drop,lst_len]at this
  omega
 go_enter Tryz.func52,Tryz.ntmps52
 go_wp2_with (go_at_call 96;refine(X _ 0 (Nat.zero_le _)).mono ?_;rintro e' y ⟨rfl,a5⟩;subst y)
 go_loopw [5,6] (fun v i wr=> ∃(p:Nat) (l:List Tk),p≤s.size∧i= .int .i64 ((p+skipN false (s.data.toList.drop p):Nat):Int)∧wr.ownsRow w.heap.size 70 3 v l.length (tkc l)∧l.length≤p∧Ext w wr∧T s.data.toList 0=(T (s.data.toList.drop p) p).pre l) (fun _ i _=>s.size- (intOf i).toNat)
 case atStart=>exact⟨0,[],Nat.zero_le _,by simp,World.ownsRow_nil _ _ _ _,Nat.zero_le _,Ext.refl w,by rw[List.drop_zero];cases T s.data.toList 0<;>rfl⟩
 case round=>
  obtain⟨p,l,hp,rfl,r,ax,m,hv⟩:=hrel
  have HV:=hid hv
  clear hv
  obtain⟨k,j⟩:∃k,p+skipN false (s.data.toList.drop p)=k:=⟨_,rfl⟩
  have a3:k≤s.size:=j ▸ J p hp
  rw[j]
  by_cases G:k<s.size
  ·have hd:(s.data.toList.drop p).drop (skipN false (s.data.toList.drop p))=s[k]::s.data.toList.drop (k+1):=by rw[List.drop_drop,j,drop1 s k G]
   have O:(s.extract k s.size).size=s.size-k:=by rw[ByteArray.size_extract];omega
   have H:∀W,Ext w W→Calls Tryz.prog 97 #[.string (s.extract k s.size)] W fun e w'=>e= .returned (TRes (tokL (s[k]::s.data.toList.drop (k+1))))∧Ext W w':=by
    intro W hW
    have:=token_any (s.extract k s.size) W (by omega) (by omega) (hk.ext hW)
    rw[gI,drop1 s k G]at this
    exact this
   cases z:tokL (s[k]::s.data.toList.drop (k+1))with
   |bad e=>
    have C:T s.data.toList 0= .bad k e:=by rw[HV.out,T_bad _ p _ _ e hd z,j];rfl
    have hb:=tok_bad _ _ e z
    have b1:((e:Int) !=0)=true:=by rw[bne_iff_ne];omega
    rw[z]at H
    have K:=hid H
    have Q:=hid C
    clear H C hd hb z O j
    simp only[TRes]at K
    go_wp2_with (go_at_call 97;refine(K _ m).mono ?_;rintro e' y ⟨rfl,t⟩)
    go_ret3
    exact⟨_,rfl,by rw[Y.out,Q.out];exact fZ.bad _ _ _,(m.trans t).alloc _⟩
   |tok kd x n=>
    have C:T s.data.toList 0=(T (s.data.toList.drop (k+n)) (k+n)).pre (l++ [⟨kd,x,k⟩]):=by
     rw[HV.out,T_tok _ p _ _ kd x n hd z,pre_pre,j,←drop1 s k G,List.drop_drop]
    have F:=tok_bound _ _ kd x n z
    have V:k+n≤s.size:=by
     have:=F.2
     rw[List.length_cons,List.length_drop,lst_len]at this
     omega
    have a4:=F.1
    rw[z]at H
    have K:=hid H
    have Q:=hid C
    have ac:=hid j
    have ad:p≤k:=by omega
    clear H C hd F z O j
    simp only[TRes]at K
    have E:∀y:World,Ext wr y→w.heap.size≤y.heap.size+1+1:=fun y h=>by have:=h.size;have:=m.size;omega
    go_wp2_with (first
     |(go_at_call 97;refine(K _ m).mono ?_;rintro e' y ⟨rfl,t⟩;have HO:=hid (ownN_ext r ((t.alloc (.cells #[.int .i64 kd,.string ⟨x.toArray⟩,.int .i64 k] 70)).alloc (.cells #[.int .i64 kd,.string ⟨x.toArray⟩,.int .i64 k] 70)));have a1:=E y t;clear E)
     |(at_builtin;refine wpList_append_own _ rfl _ _ 66 rfl w.heap.size 70 i0 (.agg #[.int .i64 0,.string ⟨#[]⟩,.int .i64 0]) 3 32 Tryz.underlying66 hi R U P rfl (by decide) _ _ _ rfl HO ⟨_,0,none⟩ 1 1 (Tk.cells ⟨kd,x,k⟩) rfl rfl (news_at _ _ _ _ (by simp)) (by intro u L;simp[Tk.cells]at L;rcases L with rfl|rfl|rfl<;>rfl) (by unfold maxLen;omega) (by omega) (by simp;omega) ?_;intro v' w2 o q _)
     |(go_at_call 96;refine(X _ (k+n) V).mono ?_;rintro e' w3 ⟨rfl,a0⟩;subst w3))
    go_roundw
    case rel=>
     refine⟨k+n,l++ [⟨kd,x,k⟩],V,rfl,by rw[lV,List.length_append];exact o,by rw[List.length_append];simp only[List.length_cons,List.length_nil];omega,Ext.grown ((m.trans t).alloc _|>.alloc _) q (fun g hg=>gG r hg),Q.out⟩
    case measure=>simp[intOf];omega
  ·have hd:(s.data.toList.drop p).drop (skipN false (s.data.toList.drop p))= []:=by rw[List.drop_drop,j];exact List.drop_of_length_le (by rw[lst_len];omega)
   have C:T s.data.toList 0= .ok (l++ [⟨0,[],s.size⟩]):=by rw[HV.out,T_end _ p hd,j,show k=s.size by omega];rfl
   have Q:=hid C
   have ac:=hid j
   have ad:p≤k:=by omega
   have E:w.heap.size≤wr.heap.size+1:=by have:=m.size;omega
   have HO:=hid (ownN_ext r ((Ext.refl wr).alloc (.cells #[.int .i64 0,.string ⟨#[]⟩,.int .i64 s.size] 70)))
   clear hd C j
   go_wp2_with (at_builtin;refine wpList_append_own _ rfl _ _ 66 rfl w.heap.size 70 i0 (.agg #[.int .i64 0,.string ⟨#[]⟩,.int .i64 0]) 3 32 Tryz.underlying66 hi R U P rfl (by decide) _ _ _ rfl HO ⟨_,0,none⟩ 1 1 (Tk.cells ⟨0,[],s.size⟩) rfl rfl (news_at _ _ _ _ (by simp)) (by intro u L;simp[Tk.cells]at L;rcases L with rfl|rfl|rfl<;>rfl) (by unfold maxLen;omega) (by omega) (by simp;omega) ?_;intro v' w2 o q _)
   have an:Ext w w2:=Ext.grown (m.alloc _) q (fun g hg=>gG r hg)
   have ag:w2.ownsRow w.heap.size 70 3 v' (l++ [(⟨0,[],s.size⟩:Tk)]).length (tkc (l++ [⟨0,[],s.size⟩])):=by rw[lV,List.length_append];exact o
   obtain⟨A,c,rfl,Z,B,I⟩:=own_tks2 ag
   go_ret3
   refine⟨_,rfl,?_,an⟩
   rw[Y.out,Q.out]
   exact⟨A,c,by rw[B];rfl,Z,by show(l++ [(⟨0,[],s.size⟩:Tk)]).length≤c;rw[B];exact I⟩
end Lx
section
open Lx (Tk)
structure Ps where
 r:List Tk
 bad:Bool
def Ps.hd (s:Ps):Tk:=s.r.headD ⟨0,[],0⟩
def Ps.next (s:Ps):Ps:=⟨s.r.tail,s.bad⟩
def Ps.fail (s:Ps):Ps:=⟨s.r,true⟩
def tkB (t:Tk):ByteArray:=⟨t.text.toArray⟩
abbrev M (α:Type):=Ps→α×Ps
def isS (t:ByteArray) (s:Ps):Bool:=!s.bad&& ((s.hd.kind==2||s.hd.kind==5) &&decide (tkB s.hd=t))
def aq (t:ByteArray):M Bool:=fun s=> (isS t s,if isS t s then s.next else s)
def needP (t:ByteArray) (s:Ps):Ps:=if isS t s then s.next else s.fail
def hasK (k:Nat) (s:Ps):Bool:=!s.bad&&s.hd.kind==k
def takP (k:Nat):M ByteArray:=fun s=>if hasK k s then (tkB s.hd,s.next)else (⟨#[]⟩,s.fail)
def eh (b:ByteArray):Int:=(Lx.digVal b.data.toList:Nat)
def numP:M Int:=fun s=> (eh (takP 3 s).1,(takP 3 s).2)
def posP:M Int:=fun s=>numP (if hasK 3 s&&eh (tkB s.hd)==0 then s.fail else s)
def opE (o:Int) (ks:List Ex):Ex:= .mk ⟨o,⟨#[]⟩,⟨#[]⟩,0,0,0,⟨#[]⟩⟩ ks
def ei (k i:Int) (t:ByteArray):Ex:= .mk ⟨1,⟨#[]⟩,⟨#[]⟩,0,k,i,t⟩ []
def colE (t n:ByteArray):Ex:= .mk ⟨2,t,n,0,0,0,⟨#[]⟩⟩ []
abbrev kAND:ByteArray:=⟨#[65,78,68]⟩
abbrev kNOT:ByteArray:=⟨#[78,79,84]⟩
abbrev kIS:ByteArray:=⟨#[73,83]⟩
abbrev kNULL:ByteArray:=⟨#[78,85,76,76]⟩
abbrev kt:ByteArray:=⟨#[76,73,75,69]⟩
abbrev dI:ByteArray:=⟨#[66,69,84,87,69,69,78]⟩
abbrev kIN:ByteArray:=⟨#[73,78]⟩
abbrev kLENGTH:ByteArray:=⟨#[76,69,78,71,84,72]⟩
abbrev iG:ByteArray:=⟨#[67,82,69,65,84,69]⟩
abbrev dE:ByteArray:=⟨#[84,65,66,76,69]⟩
abbrev iH:ByteArray:=⟨#[73,78,83,69,82,84]⟩
abbrev kINTO:ByteArray:=⟨#[73,78,84,79]⟩
abbrev kVALUES:ByteArray:=⟨#[86,65,76,85,69,83]⟩
abbrev iI:ByteArray:=⟨#[85,80,68,65,84,69]⟩
abbrev kSET:ByteArray:=⟨#[83,69,84]⟩
abbrev lb:ByteArray:=⟨#[68,69,76,69,84,69]⟩
abbrev kFROM:ByteArray:=⟨#[70,82,79,77]⟩
abbrev iJ:ByteArray:=⟨#[83,69,76,69,67,84]⟩
abbrev kBEGIN:ByteArray:=⟨#[66,69,71,73,78]⟩
abbrev lc:ByteArray:=⟨#[67,79,77,77,73,84]⟩
abbrev gJ:ByteArray:=⟨#[82,79,76,76,66,65,67,75]⟩
abbrev kTO:ByteArray:=⟨#[84,79]⟩
abbrev fD:ByteArray:=⟨#[83,65,86,69,80,79,73,78,84]⟩
abbrev jf:ByteArray:=⟨#[82,69,76,69,65,83,69]⟩
abbrev dj:ByteArray:=⟨#[87,72,69,82,69]⟩
abbrev aJ:ByteArray:=⟨#[80,82,73,77,65,82,89]⟩
abbrev kKEY:ByteArray:=⟨#[75,69,89]⟩
abbrev aZ:ByteArray:=⟨#[85,78,73,81,85,69]⟩
abbrev bC:ByteArray:=⟨#[67,72,69,67,75]⟩
abbrev bp:ByteArray:=⟨#[70,79,82,69,73,71,78]⟩
abbrev kREFERENCES:ByteArray:=⟨#[82,69,70,69,82,69,78,67,69,83]⟩
abbrev dJ:ByteArray:=⟨#[73,78,84,69,71,69,82]⟩
abbrev kTEXT:ByteArray:=⟨#[84,69,88,84]⟩
abbrev fv:ByteArray:=⟨#[74,79,73,78]⟩
abbrev kON:ByteArray:=⟨#[79,78]⟩
abbrev jg:ByteArray:=⟨#[71,82,79,85,80]⟩
abbrev kBY:ByteArray:=⟨#[66,89]⟩
abbrev jh:ByteArray:=⟨#[79,82,68,69,82]⟩
abbrev ji:ByteArray:=⟨#[76,73,77,73,84]⟩
abbrev kAS:ByteArray:=⟨#[65,83]⟩
abbrev kASC:ByteArray:=⟨#[65,83,67]⟩
abbrev ku:ByteArray:=⟨#[68,69,83,67]⟩
abbrev yLp:ByteArray:=⟨#[40]⟩
abbrev yRp:ByteArray:=⟨#[41]⟩
abbrev yCm:ByteArray:=⟨#[44]⟩
abbrev yDot:ByteArray:=⟨#[46]⟩
abbrev dK:ByteArray:=⟨#[42]⟩
abbrev dU:ByteArray:=⟨#[45]⟩
abbrev yEq:ByteArray:=⟨#[61]⟩
abbrev gf:ByteArray:=⟨#[59]⟩
def firstP:List (ByteArray×Int)→Ps→Option Int×Ps
 | [],s=> (none,s)
 |(t,o)::l,s=>if isS t s then (some o,s.next)else firstP l s
def bq (el:M Ex) (ops:List (ByteArray×Int)):Nat→Ex→Ps→Ex×Ps
 |0,e,s=> (e,s)
 |n+1,e,s=>
  match (firstP ops s).1 with
  |none=> (e,s)
  |some o=>bq el ops n (opE o [e,(el (firstP ops s).2).1]) (el (firstP ops s).2).2
def chainP (el:M Ex) (ops:List (ByteArray×Int)):M Ex:=fun s=>bq el ops (s.r.length+1) (el s).1 (el s).2
def listGo {α:Type} (el:M α):Nat→List α→Ps→List α×Ps
 |0,out,s=> (out,s)
 |n+1,out,s=>if isS yCm s then listGo el n (out++ [(el s.next).1]) (el s.next).2 else (out,s)
def listP {α:Type} (el:M α):M (List α):=fun s=>listGo el (s.r.length+1) [(el s).1] (el s).2
def opsOr:List (ByteArray×Int):= [(⟨#[79,82]⟩,19)]
def opsAnd:List (ByteArray×Int):= [(⟨#[65,78,68]⟩,18)]
def opsSum:List (ByteArray×Int):= [(⟨#[43]⟩,4),(⟨#[45]⟩,5)]
def opsPro:List (ByteArray×Int):= [(⟨#[42]⟩,6),(⟨#[47]⟩,7),(⟨#[37]⟩,8)]
def opsCmp:List (ByteArray×Int):= [(⟨#[61]⟩,10),(⟨#[60,62]⟩,11),(⟨#[60]⟩,12),(⟨#[60,61]⟩,13),(⟨#[62]⟩,14),(⟨#[62,61]⟩,15)]
def opsAgg:List (ByteArray×Int):= [(⟨#[67,79,85,78,84]⟩,2),(⟨#[83,85,77]⟩,3),(⟨#[77,73,78]⟩,4),(⟨#[77,65,88]⟩,5)]
def dV:M Ex:=fun s=>
 if isS yDot (takP 1 s).2 then (colE (takP 1 s).1 (takP 1 (takP 1 s).2.next).1,(takP 1 (takP 1 s).2.next).2)
 else (colE ⟨#[]⟩ (takP 1 s).1,(takP 1 s).2)
def negE (b:Bool) (e:Ex):Ex:=if b then opE 20 [e]else e
def optP (t:ByteArray) (s:Ps):Ps:=if isS t s then s.next else s
section
variable (rec:M Ex)
def bQ:M Ex:=fun s=>
 if hasK 3 s then (ei 1 (numP s).1 ⟨#[]⟩,(numP s).2)
 else if hasK 4 s then (ei 2 0 (takP 4 s).1,(takP 4 s).2)
 else if isS kNULL s then (ei 0 0 ⟨#[]⟩,s.next)
 else if isS kLENGTH s then (opE 9 [(rec (needP yLp s.next)).1],needP yRp (rec (needP yLp s.next)).2)
 else if isS yLp s then ((rec s.next).1,needP yRp (rec s.next).2)
 else dV s
def fo (prim:M Ex):M Ex:=fun s=>if isS dU s then (opE 3 [(prim s.next).1],(prim s.next).2)else prim s
def proP (prim:M Ex):M Ex:=chainP (fo prim) opsPro
def sumP (prim:M Ex):M Ex:=chainP (proP prim) opsSum
def fp (sum:M Ex) (a:Ex):Nat→Ex→Ps→Ex×Ps
 |0,e,s=> (e,s)
 |n+1,e,s=>if isS yCm s then fp sum a n (opE 19 [e,opE 10 [a,(sum s.next).1]]) (sum s.next).2 else (e,s)
def inP (sum:M Ex) (a:Ex):M Ex:=fun s=>fp sum a (s.r.length+1) (opE 10 [a,(sum s).1]) (sum s).2
def dL (sum:M Ex) (a:Ex):M Ex:=fun s=>
 match (firstP opsCmp s).1 with
 |some o=> (opE o [a,(sum (firstP opsCmp s).2).1],(sum (firstP opsCmp s).2).2)
 |none=>
  if isS kIS s then (negE (isS kNOT s.next) (opE 17 [a]),needP kNULL (optP kNOT s.next))
  else if isS kt (optP kNOT s)then (negE (isS kNOT s) (opE 16 [a,ei 2 0 (takP 4 (optP kNOT s).next).1]),(takP 4 (optP kNOT s).next).2)
  else if isS dI (optP kNOT s)then
   (negE (isS kNOT s) (opE 18 [opE 15 [a,(sum (optP kNOT s).next).1],opE 13 [a,(sum (needP kAND (sum (optP kNOT s).next).2)).1]]),(sum (needP kAND (sum (optP kNOT s).next).2)).2)
  else if isS kIN (optP kNOT s)then
   (negE (isS kNOT s) (inP sum a (needP yLp (optP kNOT s).next)).1,needP yRp (inP sum a (needP yLp (optP kNOT s).next)).2)
  else (a,if isS kNOT s then (optP kNOT s).fail else s)
def testP (prim:M Ex):M Ex:=fun s=>dL (sumP prim) (sumP prim s).1 (sumP prim s).2
def notGo (prim:M Ex):Nat→Ps→Ex×Ps
 |0,s=>testP prim s
 |n+1,s=>if isS kNOT s then (opE 20 [(notGo prim n s.next).1],(notGo prim n s.next).2)else testP prim s
def notP (prim:M Ex):M Ex:=fun s=>notGo prim s.r.length s
def andP (prim:M Ex):M Ex:=chainP (notP prim) opsAnd
def orP (prim:M Ex):M Ex:=chainP (andP prim) opsOr
end
def exprP:Nat→M Ex
 |0=>fun s=> (colE ⟨#[]⟩ ⟨#[]⟩,s)
 |n+1=>orP (bQ (exprP n))
def aB {α β:Type} (m:M α) (f:α→M β):M β:=fun s=>f (m s).1 (m s).2
def bb {α:Type} (a:α):M α:=fun s=> (a,s)
def aY (t:ByteArray):M Unit:=fun s=> ((),needP t s)
def ifM {α:Type} (t:ByteArray) (m n:M α):M α:=fun s=>if isS t s then m s.next else n s
def gK {α:Type} (ops:List (ByteArray×Int)) (f:Int→M α) (m:M α):M α:=fun s=>
 match (firstP ops s).1 with
 |some o=>f o (firstP ops s).2
 |none=>m s
structure Df where
 cols:List Cd
 keys:List (List ByteArray)
 frs:List Rf
 chk:List Ex
def namesP:M (List ByteArray):=aB (aY yLp) fun _=>aB (listP (takP 1)) fun l=>aB (aY yRp) fun _=>bb l
def bndP:M Int:=ifM dU (aB numP fun n=>bb (-n)) numP
def bnd2P:M (Int×Int×Int×Int):=aB bndP fun a=>aB (aY yCm) fun _=>aB bndP fun b=>aB (aY yRp) fun _=>bb (1,a,b,0)
def maxP:M (Int×Int×Int×Int):=aB numP fun n=>aB (aY yRp) fun _=>bb (2,0,0,n)
def typP:M (Int×Int×Int×Int):=
 ifM dJ (ifM yLp bnd2P (bb (1,-2147483648,2147483647,0))) (aB (aY kTEXT) fun _=>ifM yLp maxP (bb (2,0,0,16)))
def cX:M Cd:=aB (takP 1) fun a=>aB typP fun t=>ifM kNOT (aB (aY kNULL) fun _=>bb ⟨a,t.1,t.2.1,t.2.2.1,t.2.2.2,true⟩) (bb ⟨a,t.1,t.2.1,t.2.2.1,t.2.2.2,false⟩)
def refP:M Rf:=aB namesP fun a=>aB (aY kREFERENCES) fun _=>aB (takP 1) fun t=>aB namesP fun b=>bb ⟨a,t,b⟩
def stZ:St:=⟨0,⟨#[]⟩,[],[],[],[],[],[],[],[],exZ,[],[],0,⟨#[]⟩⟩
def nnC (l:List ByteArray) (c:Cd):Cd:= { c with nn:=c.nn||l.contains c.nm }
def srcP:M Src:=aB (takP 1) fun t=>ifM kAS (aB (takP 1) fun a=>bb ⟨t,a⟩) (bb ⟨t,⟨#[]⟩⟩)
def fE (pos:M Int):M Ord':=aB pos fun n=>ifM kASC (bb ⟨n,false⟩) (ifM ku (bb ⟨n,true⟩) (bb ⟨n,false⟩))
def grpP:M (List Ex):=ifM jg (aB (aY kBY) fun _=>listP dV) (bb [])
def gg (pos:M Int):M (List Ord'):=ifM jh (aB (aY kBY) fun _=>listP (fE pos)) (bb [])
def limP (pos:M Int):M Int:=ifM ji pos (bb 0)
def nmP (k:Int):M St:=aB (takP 1) fun a=>bb { stZ with kd:=k,nm:=a }
section
variable (ex:M Ex)
def elemP (d:Df) (l:List ByteArray):M (Df×List ByteArray):=
 ifM aJ (aB (aY kKEY) fun _=>aB namesP fun k=>bb ({ d with keys:=d.keys++ [k] },l++k))
  (ifM aZ (aB namesP fun k=>bb ({ d with keys:=d.keys++ [k] },l))
   (ifM bC (aB (aY yLp) fun _=>aB ex fun e=>aB (aY yRp) fun _=>bb ({ d with chk:=d.chk++ [e] },l))
    (ifM bp (aB (aY kKEY) fun _=>aB refP fun f=>bb ({ d with frs:=d.frs++ [f] },l))
     (aB cX fun c=>bb ({ d with cols:=d.cols++ [c] },l)))))
def elemGo:Nat→Df→List ByteArray→M (Df×List ByteArray)
 |0,d,l=>bb (d,l)
 |n+1,d,l=>ifM yCm (aB (elemP ex d l) fun x=>elemGo n x.1 x.2) (bb (d,l))
def eo:M (Df×List ByteArray):=fun s=>aB (elemP ex ⟨[],[],[],[]⟩ []) (fun x=>elemGo ex (s.r.length+1) x.1 x.2) s
def createP:M St:=
 aB (aY dE) fun _=>aB (takP 1) fun t=>aB (aY yLp) fun _=>aB (eo ex) fun x=>aB (aY yRp) fun _=>
  bb { stZ with kd:=1,tb:=t,cols:=x.1.cols.map (nnC x.2),keys:=x.1.keys,frs:=x.1.frs,chk:=x.1.chk }
def tupP:M (List Ex):=aB (aY yLp) fun _=>aB (listP ex) fun l=>aB (aY yRp) fun _=>bb l
def whrP:M Ex:=ifM dj ex (bb exZ)
def asgP:M Asg:=aB (takP 1) fun a=>aB (aY yEq) fun _=>aB ex fun e=>bb ⟨a,0,e⟩
def iD (o:Int):M Itm:=aB ex fun e=>aB (aY yRp) fun _=>bb ⟨o,e⟩
def fF:M Itm:=
 gK opsAgg (fun o=>aB (aY yLp) fun _=>if o=2 then ifM dK (aB (aY yRp) fun _=>bb ⟨1,exZ⟩) (iD ex o)else iD ex o) (aB ex fun e=>bb ⟨0,e⟩)
def fromGo:Nat→List Src→List Ex→M (List Src×List Ex)
 |0,l,c=>bb (l,c)
 |n+1,l,c=>ifM yCm (aB srcP fun x=>fromGo n (l++ [x]) c) (ifM fv (aB srcP fun x=>aB (aY kON) fun _=>aB ex fun e=>fromGo n (l++ [x]) (c++ [e])) (bb (l,c)))
def fromP:M (List Src×List Ex):=fun s=>aB srcP (fun x=>fromGo ex (s.r.length+1) [x] []) s
def andL:List Ex→Ex
 | []=>exZ
 |e::l=>l.foldl (fun a b=>opE 18 [a,b]) e
def ep (conj:List Ex→Ex) (c:List Ex):M Ex:=ifM dj (aB ex fun e=>bb (conj (c++ [e]))) (bb (conj c))
def itmsP:M (List Itm):=ifM dK (bb []) (listP (fF ex))
def queryP (pos:M Int) (conj:List Ex→Ex):M St:=
 aB (itmsP ex) fun i=>aB (aY kFROM) fun _=>aB (fromP ex) fun f=>aB (ep ex conj f.2) fun w=>aB grpP fun g=>aB (gg pos) fun o=>aB (limP pos) fun l=>
  bb { stZ with kd:=5,itms:=i,frm:=f.1,whr:=w,grp:=g,ord:=o,lim:=l }
def eP:M St:=aB (aY kINTO) fun _=>aB (takP 1) fun t=>aB (aY kVALUES) fun _=>aB (listP (tupP ex)) fun v=>bb { stZ with kd:=2,tb:=t,vals:=v }
def eQ:M St:=aB (takP 1) fun t=>aB (aY kSET) fun _=>aB (listP (asgP ex)) fun v=>aB (whrP ex) fun w=>bb { stZ with kd:=3,tb:=t,sets:=v,whr:=w }
def eR:M St:=aB (aY kFROM) fun _=>aB (takP 1) fun t=>aB (whrP ex) fun w=>bb { stZ with kd:=4,tb:=t,whr:=w }
def eq (pos:M Int) (conj:List Ex→Ex) (last:M St):M St:=
 ifM iG (createP ex) (ifM iH (eP ex) (ifM iI (eQ ex) (ifM lb (eR ex) (ifM iJ (queryP ex pos conj)
  (ifM kBEGIN (bb { stZ with kd:=6 }) (ifM lc (bb { stZ with kd:=7 }) (ifM gJ (ifM kTO (nmP 10) (bb { stZ with kd:=8 })) (ifM fD (nmP 9) last))))))))
end
def gh:M St:=ifM jf (nmP 11) (fun s=> (stZ,s.fail))
def endP (s:Ps):Ps:=if hasK 0 s then s else s.fail
def dl {α:Type} (m:M α) (l:List Tk):Nat ⊕ α:=
 if (endP (m ⟨l,false⟩).2).bad then .inl (endP (m ⟨l,false⟩).2).hd.pos else .inr (m ⟨l,false⟩).1
def stmP (n:Nat):M St:=eq (exprP n) posP andL gh
end
section
open Lx (Tk)
def Rel {α:Type} (x y:α×Ps):Prop:=x=y∨(x.2=y.2∧x.2.bad=true)
def Sim {α:Type} (m n:M α):Prop:=∀s,Rel (m s) (n s)
def Stk {α:Type} (m:M α):Prop:=∀s,s.bad=true→(m s).2=s
theorem bad_isS {s:Ps} (h:s.bad=true) (t:ByteArray):isS t s=false:=by simp[isS,h]
theorem jj {s:Ps} (h:s.bad=true) (k:Nat):hasK k s=false:=by simp[hasK,h]
theorem lX {s:Ps} (h:s.bad=true):s.fail=s:=by cases s;simp[Ps.fail]at*;exact h
theorem et {s:Ps} (h:s.bad=true) (t:ByteArray):needP t s=s:=by rw[needP,bad_isS h,if_neg (by simp),lX h]
theorem bad_opt {s:Ps} (h:s.bad=true) (t:ByteArray):optP t s=s:=by rw[optP,bad_isS h,if_neg (by simp)]
theorem iK {s:Ps} (h:s.bad=true) (k:Nat):takP k s=(⟨#[]⟩,s):=by unfold takP;rw[jj h,if_neg (by simp),lX h]
theorem ch (k:Nat):Stk (takP k):=fun s h=>by rw[iK h]
theorem ld:Stk numP:=fun s h=>by unfold numP;rw[iK h]
theorem stk_pos:Stk posP:=fun s h=>by unfold posP;rw[jj h];simp[ld s h]
theorem eS (l:List (ByteArray×Int)):∀s:Ps,s.bad=true→firstP l s=(none,s):=by
 induction l with
 |nil=>intro s _;rfl
 |cons a l ih=>intro s h;rw[firstP,bad_isS h,if_neg (by simp),ih s h]
theorem lY (g:M Ex) (ops:List (ByteArray×Int)):∀(n:Nat) (e:Ex) (s:Ps),s.bad=true→bq g ops n e s=(e,s)
 |0,_,_,_=>rfl
 |n+1,e,s,h=>by rw[bq,eS ops s h]
theorem eT {e:M Ex} (h:Stk e) (ops:List (ByteArray×Int)):Stk (chainP e ops):=fun s hb=>by
 unfold chainP
 rw[h s hb,lY e ops _ _ _ hb]
theorem nE {α:Type} (e:M α):∀(n:Nat) (o:List α) (s:Ps),s.bad=true→listGo e n o s=(o,s)
 |0,_,_,_=>rfl
 |n+1,o,s,h=>by rw[listGo,bad_isS h,if_neg (by simp)]
theorem bR {α:Type} {e:M α} (h:Stk e):Stk (listP e):=fun s hb=>by
 unfold listP
 rw[h s hb,nE e _ _ _ hb]
theorem lf:Stk dV:=fun s h=>by
 unfold dV
 rw[iK h,bad_isS h,if_neg (by simp)]
theorem stk_una {p:M Ex} (h:Stk p):Stk (fo p):=fun s hb=>by
 unfold fo
 rw[bad_isS hb,if_neg (by simp),h s hb]
theorem stk_pro {p:M Ex} (h:Stk p):Stk (proP p):=eT (stk_una h) _
theorem stk_sum {p:M Ex} (h:Stk p):Stk (sumP p):=eT (stk_pro h) _
theorem lZ (e:M Ex) (a:Ex):Stk (dL e a):=fun s hb=>by
 unfold dL
 rw[eS _ s hb,bad_isS hb,bad_opt hb]
 simp only[bad_isS hb]
 simp
theorem l8 {p:M Ex} (h:Stk p):Stk (testP p):=fun s hb=>by
 unfold testP
 rw[stk_sum h s hb,lZ _ _ s hb]
theorem stk_notGo {p:M Ex} (h:Stk p):∀n,Stk (notGo p n)
 |0=>l8 h
 |n+1=>fun s hb=>by
  rw[notGo,bad_isS hb,if_neg (by simp)]
  exact l8 h s hb
theorem stk_not {p:M Ex} (h:Stk p):Stk (notP p):=fun s hb=>stk_notGo h _ s hb
theorem stk_or {p:M Ex} (h:Stk p):Stk (orP p):=eT (eT (stk_not h) _) _
theorem ma (rec:M Ex):Stk (bQ rec):=fun s hb=>by
 unfold bQ
 simp only[jj hb,bad_isS hb]
 simpa using lf s hb
theorem mb:∀n,Stk (exprP n)
 |0=>fun _ _=>rfl
 |n+1=>stk_or (ma _)
theorem ah {α β:Type} {m:M α} {f:α→M β} (h:Stk m) (hf:∀a,Stk (f a)):Stk (aB m f):=fun s hb=>by
 unfold aB
 rw[h s hb]
 exact hf _ s hb
theorem aj {α:Type} (a:α):Stk (bb a):=fun s _=>rfl
theorem aA (t:ByteArray):Stk (aY t):=fun s hb=>et hb t
theorem bh {α:Type} (t:ByteArray) (m:M α) {n:M α} (h:Stk n):Stk (ifM t m n):=fun s hb=>by
 unfold ifM
 rw[bad_isS hb,if_neg (by simp)]
 exact h s hb
theorem stk_fst {α:Type} (ops:List (ByteArray×Int)) (f:Int→M α) {m:M α} (h:Stk m):Stk (gK ops f m):=fun s hb=>by
 unfold gK
 rw[eS ops s hb]
 exact h s hb
theorem de:Stk namesP:=ah (aA _) fun _=>ah (bR (ch 1)) fun _=>ah (aA _) fun _=>aj _
theorem mc:Stk bndP:=bh _ _ ld
theorem stk_typ:Stk typP:=bh _ _ (ah (aA _) fun _=>bh _ _ (aj _))
theorem stk_def:Stk cX:=ah (ch 1) fun _=>ah stk_typ fun _=>bh _ _ (aj _)
theorem stk_ref:Stk refP:=ah de fun _=>ah (aA _) fun _=>ah (ch 1) fun _=>ah de fun _=>aj _
theorem stk_src:Stk srcP:=ah (ch 1) fun _=>bh _ _ (aj _)
theorem stk_ord {p:M Int} (h:Stk p):Stk (fE p):=ah h fun _=>bh _ _ (bh _ _ (aj _))
theorem iL:Stk grpP:=bh _ _ (aj _)
theorem eu (p:M Int):Stk (gg p):=bh _ _ (aj _)
theorem eU (p:M Int):Stk (limP p):=bh _ _ (aj _)
theorem stk_elem (ex:M Ex) (d:Df) (l:List ByteArray):Stk (elemP ex d l):=bh _ _ (bh _ _ (bh _ _ (bh _ _ (ah stk_def fun _=>aj _))))
theorem fG (ex:M Ex):∀(n:Nat) (d:Df) (l:List ByteArray),Stk (elemGo ex n d l)
 |0,_,_=>aj _
 |_+1,_,_=>bh _ _ (aj _)
theorem gL (ex:M Ex):Stk (eo ex):=fun s hb=>ah (stk_elem ex _ _) (fun x=>fG ex (s.r.length+1) x.1 x.2) s hb
theorem iM {ex:M Ex} (h:Stk ex):Stk (tupP ex):=ah (aA _) fun _=>ah (bR h) fun _=>ah (aA _) fun _=>aj _
theorem gi (ex:M Ex):Stk (whrP ex):=bh _ _ (aj _)
theorem lg {ex:M Ex} (h:Stk ex):Stk (asgP ex):=ah (ch 1) fun _=>ah (aA _) fun _=>ah h fun _=>aj _
theorem md {ex:M Ex} (h:Stk ex) (o:Int):Stk (iD ex o):=ah h fun _=>ah (aA _) fun _=>aj _
theorem stk_itm {ex:M Ex} (h:Stk ex):Stk (fF ex):=stk_fst _ _ (ah h fun _=>aj _)
theorem cL (ex:M Ex):∀(n:Nat) (l:List Src) (c:List Ex),Stk (fromGo ex n l c)
 |0,_,_=>aj _
 |_+1,_,_=>bh _ _ (bh _ _ (aj _))
theorem me (ex:M Ex):Stk (fromP ex):=fun s hb=>ah stk_src (fun x=>cL ex (s.r.length+1) [x] []) s hb
theorem jk (ex:M Ex) (k:List Ex→Ex) (c:List Ex):Stk (ep ex k c):=bh _ _ (aj _)
section
variable {a b:M Ex} (h:Sim a b) (ha:Stk a) (hb:Stk b)
include h ha hb
end
end
section
open Lx (Tk)
def Fwd {α:Type} (m:M α):Prop:=∀s,(m s).2.r.length≤s.r.length
theorem next_len (s:Ps):s.next.r.length≤s.r.length:=by simp[Ps.next]
theorem ce {t:ByteArray} {s:Ps} (h:isS t s=true):s.bad=false∧∃a l,s.r=a::l∧(a.kind=2∨a.kind=5)∧tkB a=t∧s.next=⟨l,false⟩:=by
 obtain⟨r,b⟩:=s
 cases r with
 |nil=>simp[isS,Ps.hd]at h
 |cons a l=>
  simp only[isS,Ps.hd,List.headD_cons,Bool.and_eq_true,Bool.not_eq_true',Bool.or_eq_true,beq_iff_eq,decide_eq_true_eq]at h
  exact⟨h.1,a,l,rfl,h.2.1,of_decide_eq_true h.2.2,by simp[Ps.next,h.1]⟩
theorem aM {t:ByteArray} {s:Ps} (h:isS t s=true):s.next.r.length+1=s.r.length:=by
 obtain⟨_,a,l,g,_,_,e⟩:=ce h
 rw[g,e]
 simp
theorem eV {k:Nat} (e:k≠0) {s:Ps} (h:hasK k s=true):s.bad=false∧∃a l,s.r=a::l∧a.kind=k∧s.next=⟨l,false⟩:=by
 obtain⟨r,b⟩:=s
 cases r with
 |nil=>simp[hasK,Ps.hd]at h;omega
 |cons a l=>
  simp only[hasK,Ps.hd,List.headD_cons,Bool.and_eq_true,Bool.not_eq_true',beq_iff_eq]at h
  exact⟨h.1,a,l,rfl,h.2,by simp[Ps.next,h.1]⟩
theorem fwd_tak (k:Nat):Fwd (takP k):=fun s=>by
 unfold takP
 split
 ·exact next_len s
 ·exact Nat.le_refl _
theorem aH (t:ByteArray) (s:Ps):(needP t s).r.length≤s.r.length:=by
 unfold needP
 split
 ·exact next_len s
 ·exact Nat.le_refl _
theorem opt_len (t:ByteArray) (s:Ps):(optP t s).r.length≤s.r.length:=by
 unfold optP
 split
 ·exact next_len s
 ·exact Nat.le_refl _
theorem eW:Fwd numP:=fun s=>fwd_tak 3 s
theorem fwd_pos:Fwd posP:=fun s=>by
 unfold posP
 split
 ·exact eW s.fail
 ·exact eW s
theorem eX (l:List (ByteArray×Int)):∀s:Ps,(firstP l s).2.r.length≤s.r.length∧((firstP l s).1.isSome=true→(firstP l s).2.r.length+1=s.r.length):=by
 induction l with
 |nil=>intro s;exact⟨Nat.le_refl _,fun h=>by simp[firstP]at h⟩
 |cons a l ih=>
  intro s
  rw[firstP]
  split
  ·next h=>exact⟨next_len s,fun _=>aM h⟩
  ·exact ih s
theorem nF {l:List (ByteArray×Int)} {s:Ps} {o:Int} (h:(firstP l s).1=some o):(firstP l s).2.r.length+1=s.r.length:=(eX l s).2 (by rw[h];rfl)
theorem jm:∀(l:List (ByteArray×Int)) (s:Ps),(firstP l s).1=none→(firstP l s).2=s
 | [],_,_=>rfl
 |(t,o)::l,s,h=>by
  rw[firstP]at h ⊢
  split at h
  ·cases h
  ·next h2=>rw[if_neg h2];exact jm l s h
theorem ij {g:M Ex} (h:Fwd g) (ops:List (ByteArray×Int)):∀(n:Nat) (e:Ex),Fwd (bq g ops n e)
 |0,_=>fun _=>Nat.le_refl _
 |n+1,e=>fun s=>by
  rw[bq]
  split
  ·exact Nat.le_refl _
  ·exact Nat.le_trans (ij h ops n _ _) (Nat.le_trans (h _) (eX ops s).1)
theorem dM {e:M Ex} (h:Fwd e) (ops:List (ByteArray×Int)):Fwd (chainP e ops):=fun s=>Nat.le_trans (ij h ops _ _ _) (h s)
theorem jn {α:Type} {e:M α} (h:Fwd e):∀(n:Nat) (o:List α),Fwd (listGo e n o)
 |0,_=>fun _=>Nat.le_refl _
 |n+1,o=>fun s=>by
  rw[listGo]
  split
  ·exact Nat.le_trans (jn h n _ _) (Nat.le_trans (h _) (next_len s))
  ·exact Nat.le_refl _
theorem dN {α:Type} {e:M α} (h:Fwd e):Fwd (listP e):=fun s=>Nat.le_trans (jn h _ _ _) (h s)
theorem ay {α β:Type} {m:M α} {f:α→M β} (h:Fwd m) (hf:∀a,Fwd (f a)):Fwd (aB m f):=fun s=>Nat.le_trans (hf _ _) (h s)
theorem aT {α:Type} (a:α):Fwd (bb a):=fun _=>Nat.le_refl _
theorem a7 (t:ByteArray):Fwd (aY t):=fun s=>aH t s
theorem cM {α:Type} (t:ByteArray) {m n:M α} (g:Fwd m) (e:Fwd n):Fwd (ifM t m n):=fun s=>by
 unfold ifM
 split
 ·exact Nat.le_trans (g _) (next_len s)
 ·exact e s
theorem fwd_fst {α:Type} (ops:List (ByteArray×Int)) {f:Int→M α} {m:M α} (g:∀o,Fwd (f o)) (e:Fwd m):Fwd (gK ops f m):=fun s=>by
 unfold gK
 split
 ·exact Nat.le_trans (g _ _) (eX ops s).1
 ·exact e s
theorem iN:Fwd dV:=fun s=>by
 unfold dV
 split
 ·exact Nat.le_trans (fwd_tak 1 _) (Nat.le_trans (next_len _) (fwd_tak 1 s))
 ·exact fwd_tak 1 s
theorem lh {p:M Ex} (h:Fwd p):Fwd (fo p):=fun s=>by
 unfold fo
 split
 ·exact Nat.le_trans (h _) (next_len s)
 ·exact h s
theorem eY {p:M Ex} (h:Fwd p):Fwd (sumP p):=dM (dM (lh h) _) _
theorem mf {p:M Ex} (h:Fwd p) (a:Ex):∀(n:Nat) (e:Ex),Fwd (fp p a n e)
 |0,_=>fun _=>Nat.le_refl _
 |n+1,e=>fun s=>by
  rw[fp]
  split
  ·exact Nat.le_trans (mf h a n _ _) (Nat.le_trans (h _) (next_len s))
  ·exact Nat.le_refl _
theorem fwd_tail {p:M Ex} (h:Fwd p) (a:Ex):Fwd (dL p a):=fun s=>by
 have k:(optP kNOT s).next.r.length≤s.r.length:=Nat.le_trans (next_len _) (opt_len _ _)
 unfold dL
 split
 ·exact Nat.le_trans (h _) (eX _ s).1
 split
 ·exact Nat.le_trans (aH _ _) (Nat.le_trans (opt_len _ _) (next_len s))
 split
 ·exact Nat.le_trans (fwd_tak 4 _) k
 split
 ·exact Nat.le_trans (h _) (Nat.le_trans (aH _ _) (Nat.le_trans (h _) k))
 split
 ·exact Nat.le_trans (aH _ _) (Nat.le_trans (mf h _ _ _ _) (Nat.le_trans (h _) (Nat.le_trans (aH _ _) k)))
 ·simp only
  split
  ·exact opt_len _ _
  ·exact Nat.le_refl _
theorem mg {p:M Ex} (h:Fwd p):Fwd (testP p):=fun s=>Nat.le_trans (fwd_tail (eY h) _ _) (eY h s)
theorem gM {p:M Ex} (h:Fwd p):∀n,Fwd (notGo p n)
 |0=>mg h
 |n+1=>fun s=>by
  rw[notGo]
  split
  ·exact Nat.le_trans (gM h n _) (next_len s)
  ·exact mg h s
theorem fwd_and {p:M Ex} (h:Fwd p):Fwd (andP p):=dM (fun s=>gM h _ s) _
theorem fwd_or {p:M Ex} (h:Fwd p):Fwd (orP p):=dM (fwd_and h) _
theorem mh {p:M Ex} (h:Fwd p):Fwd (bQ p):=fun s=>by
 unfold bQ
 split
 ·exact eW s
 split
 ·exact fwd_tak 4 s
 split
 ·exact next_len s
 split
 ·exact Nat.le_trans (aH _ _) (Nat.le_trans (h _) (Nat.le_trans (aH _ _) (next_len s)))
 split
 ·exact Nat.le_trans (aH _ _) (Nat.le_trans (h _) (next_len s))
 ·exact iN s
theorem jo:∀n,Fwd (exprP n)
 |0=>fun _=>Nat.le_refl _
 |n+1=>fwd_or (mh (jo n))
def Nz (m:M Ex):Prop:=∀s,(m s).1.d.op≠0
theorem fa:∀(l:List (ByteArray×Int)) (s:Ps) (o:Int),(firstP l s).1=some o→∃t,(t,o)∈l
 | [],_,_,h=>by simp[firstP]at h
 |(t,k)::l,s,o,h=>by
  rw[firstP]at h
  split at h
  ·simp at h;subst h;exact⟨t,List.mem_cons_self ..⟩
  ·obtain⟨u,e⟩:=fa l s o h
   exact⟨u,List.mem_cons_of_mem _ e⟩
section
variable {a b:M Ex} (h:Sim a b) (ha:Stk a) (hb:Stk b) (hz:Nz b)
include h ha hb hz
end
def kv (stm:M St) (vld:St→Int):Nat→List St→Ps→(Nat×Int) ⊕ List St
 |0,out,_=> .inr out
 |n+1,out,s=>
  if s.hd.kind=0 then .inr out
  else if (needP gf (stm s).2).bad=true then .inl ((needP gf (stm s).2).hd.pos,2)
  else if vld (stm s).1≠0 then .inl (s.hd.pos,vld (stm s).1)
  else kv stm vld n (out++ [(stm s).1]) (needP gf (stm s).2)
end
section
open Lx (Tk)
structure Kp (f:Tk→Tk):Prop where
 kd:∀a,(f a).kind=a.kind
 tx:∀a,(f a).text=a.text
def Ps.mp (f:Tk→Tk) (s:Ps):Ps:=⟨s.r.map f,s.bad⟩
def Sfx (s t:Ps):Prop:=∃A,s.r=A++t.r∧∀a∈A,a.kind≠0
theorem Sfx.refl (s:Ps):Sfx s s:=⟨[],rfl,by simp⟩
theorem Sfx.trans {a b c:Ps} (h:Sfx a b) (k:Sfx b c):Sfx a c:=by
 obtain⟨A,g,e⟩:=h
 obtain⟨B,i,j⟩:=k
 exact⟨A++B,by rw[g,i,List.append_assoc],fun a ha=> (List.mem_append.1 ha).elim (e a) (j a)⟩
theorem Sfx.next {t:ByteArray} {s:Ps} (h:isS t s=true):Sfx s s.next:=by
 obtain⟨_,a,l,g,i,_,e⟩:=ce h
 exact⟨[a],by rw[g,e];rfl,fun b hb=>by rw[List.mem_singleton.1 hb];omega⟩
theorem Sfx.nextk {k:Nat} (e:k≠0) {s:Ps} (h:hasK k s=true):Sfx s s.next:=by
 obtain⟨_,a,l,g,j,i⟩:=eV e h
 exact⟨[a],by rw[g,i];rfl,fun b hb=>by rw[List.mem_singleton.1 hb];omega⟩
theorem Sfx.fail (s:Ps):Sfx s s.fail:=Sfx.refl s
theorem sfx_need (t:ByteArray) (s:Ps):Sfx s (needP t s):=by
 unfold needP
 split
 ·next h=>exact Sfx.next h
 ·exact Sfx.fail s
theorem sfx_opt (t:ByteArray) (s:Ps):Sfx s (optP t s):=by
 unfold optP
 split
 ·next h=>exact Sfx.next h
 ·exact Sfx.refl s
section
variable {f:Tk→Tk} (hf:Kp f)
include hf
theorem dm (t:ByteArray) (s:Ps):isS t (s.mp f)=isS t s:=by
 unfold isS Ps.mp Ps.hd tkB
 cases s.r with
 |nil=>rfl
 |cons a l=>simp[hf.kd,hf.tx]
theorem iO (k:Nat) (s:Ps):hasK k (s.mp f)=hasK k s:=by
 unfold hasK Ps.mp Ps.hd
 cases s.r with
 |nil=>rfl
 |cons a l=>simp[hf.kd]
theorem mp_hd (s:Ps):tkB (s.mp f).hd=tkB s.hd:=by
 unfold Ps.mp Ps.hd tkB
 cases s.r with
 |nil=>rfl
 |cons a l=>simp[hf.tx]
omit hf in
theorem cm (s:Ps):(s.mp f).next=s.next.mp f:=by simp[Ps.mp,Ps.next]
omit hf in
theorem mp_fail (s:Ps):(s.mp f).fail=s.fail.mp f:=rfl
omit hf in
theorem gN (s:Ps):(s.mp f).r.length=s.r.length:=by simp[Ps.mp]
theorem mp_need (t:ByteArray) (s:Ps):needP t (s.mp f)=(needP t s).mp f:=by
 unfold needP
 rw[dm hf]
 split
 ·exact cm s
 ·rfl
theorem mp_opt (t:ByteArray) (s:Ps):optP t (s.mp f)=(optP t s).mp f:=by
 unfold optP
 rw[dm hf]
 split
 ·exact cm s
 ·rfl
theorem gj:∀(l:List (ByteArray×Int)) (s:Ps),firstP l (s.mp f)=((firstP l s).1,(firstP l s).2.mp f)
 | [],_=>rfl
 |(t,o)::l,s=>by
  rw[firstP,firstP,dm hf]
  split
  ·rw[cm]
  ·exact gj l s
end
theorem fb:∀(l:List (ByteArray×Int)) (s:Ps),Sfx s (firstP l s).2
 | [],s=>Sfx.refl s
 |(t,o)::l,s=>by
  rw[firstP]
  split
  ·next h=>exact Sfx.next h
  ·exact fb l s
structure Rdy {α:Type} (m:M α):Prop where
 sfx:∀s,Sfx s (m s).2
 mp:∀ {f:Tk→Tk},Kp f→∀s:Ps,m (s.mp f)=((m s).1,(m s).2.mp f)
theorem rdy_tak {k:Nat} (e:k≠0):Rdy (takP k):=⟨fun s=>by
 unfold takP
 split
 ·next h=>exact Sfx.nextk e h
 ·exact Sfx.fail s,fun hf s=>by
 unfold takP
 rw[iO hf,mp_hd hf,cm,mp_fail]
 split<;>rfl⟩
theorem rdy_num:Rdy numP:=⟨fun s=> (rdy_tak (by omega)).sfx s,fun hf s=>by unfold numP;rw[(rdy_tak (by omega)).mp hf]⟩
theorem li:Rdy posP:=⟨fun s=>by
 unfold posP
 split
 ·exact rdy_num.sfx s.fail
 ·exact rdy_num.sfx s,fun hf s=>by
 unfold posP
 rw[iO hf,mp_hd hf]
 split
 ·exact rdy_num.mp hf s.fail
 ·exact rdy_num.mp hf s⟩
theorem dz {g:M Ex} (h:Rdy g) (ops:List (ByteArray×Int)):∀(n:Nat) (e:Ex),Rdy (bq g ops n e)
 |0,_=>⟨fun s=>Sfx.refl s,fun _ _=>rfl⟩
 |n+1,e=>⟨fun s=>by
  rw[bq]
  split
  ·exact Sfx.refl s
  ·exact(fb ops s).trans ((h.sfx _).trans ((dz h ops n _).sfx _)),fun hf s=>by
  rw[bq,bq,gj hf]
  cases (firstP ops s).1 with
  |none=>rfl
  |some o=>
   simp only
   rw[h.mp hf]
   exact(dz h ops n _).mp hf _⟩
theorem fc {e:M Ex} (h:Rdy e) (ops:List (ByteArray×Int)):Rdy (chainP e ops):=⟨fun s=> (h.sfx s).trans ((dz h ops _ _).sfx _),fun hf s=>by
 unfold chainP
 rw[gN,h.mp hf]
 exact(dz h ops _ _).mp hf _⟩
theorem rdy_listGo {α:Type} {e:M α} (h:Rdy e):∀(n:Nat) (o:List α),Rdy (listGo e n o)
 |0,_=>⟨fun s=>Sfx.refl s,fun _ _=>rfl⟩
 |n+1,o=>⟨fun s=>by
  rw[listGo]
  split
  ·next hc=>exact(Sfx.next hc).trans ((h.sfx _).trans ((rdy_listGo h n _).sfx _))
  ·exact Sfx.refl s,fun hf s=>by
  rw[listGo,listGo,dm hf]
  split
  ·rw[cm,h.mp hf]
   exact(rdy_listGo h n _).mp hf _
  ·rfl⟩
theorem mi {α:Type} {e:M α} (h:Rdy e):Rdy (listP e):=⟨fun s=> (h.sfx s).trans ((rdy_listGo h _ _).sfx _),fun hf s=>by
 unfold listP
 rw[gN,h.mp hf]
 exact(rdy_listGo h _ _).mp hf _⟩
theorem aK {α β:Type} {m:M α} {f:α→M β} (h:Rdy m) (k:∀a,Rdy (f a)):Rdy (aB m f):=⟨fun s=> (h.sfx s).trans ((k _).sfx _),fun hf s=>by
 unfold aB
 rw[h.mp hf]
 exact(k _).mp hf _⟩
theorem aW {α:Type} (a:α):Rdy (bb a):=⟨fun s=>Sfx.refl s,fun _ _=>rfl⟩
theorem bE (t:ByteArray):Rdy (aY t):=⟨fun s=>sfx_need t s,fun hf s=>by unfold aY;rw[mp_need hf]⟩
theorem bS {α:Type} (t:ByteArray) {m n:M α} (g:Rdy m) (e:Rdy n):Rdy (ifM t m n):=⟨fun s=>by
 unfold ifM
 split
 ·next hc=>exact(Sfx.next hc).trans (g.sfx _)
 ·exact e.sfx s,fun hf s=>by
 unfold ifM
 rw[dm hf]
 split
 ·rw[cm];exact g.mp hf _
 ·exact e.mp hf _⟩
theorem rdy_fst {α:Type} (ops:List (ByteArray×Int)) {f:Int→M α} {m:M α} (g:∀o,Rdy (f o)) (e:Rdy m):Rdy (gK ops f m):=⟨fun s=>by
 unfold gK
 split
 ·exact(fb ops s).trans ((g _).sfx _)
 ·exact e.sfx s,fun hf s=>by
 unfold gK
 rw[gj hf]
 cases (firstP ops s).1 with
 |none=>exact e.mp hf _
 |some o=>exact(g o).mp hf _⟩
theorem rdy_col:Rdy dV:=⟨fun s=>by
 have e:=(rdy_tak (k:=1) (by omega)).sfx
 unfold dV
 split
 ·next hc=>exact(e s).trans ((Sfx.next hc).trans (e _))
 ·exact e s,fun hf s=>by
 have e:=fun s=> (rdy_tak (k:=1) (by omega)).mp hf s
 unfold dV
 rw[e,dm hf]
 split
 ·rw[cm,e]
 ·rfl⟩
section
variable {p:M Ex} (h:Rdy p)
include h
theorem rdy_una:Rdy (fo p):=⟨fun s=>by
 unfold fo
 split
 ·next hc=>exact(Sfx.next hc).trans (h.sfx _)
 ·exact h.sfx s,fun hf s=>by
 unfold fo
 rw[dm hf]
 split
 ·rw[cm,h.mp hf]
 ·exact h.mp hf s⟩
theorem iP:Rdy (sumP p):=fc (fc (rdy_una h) _) _
theorem rdy_inGo (a:Ex):∀(n:Nat) (e:Ex),Rdy (fp p a n e)
 |0,_=>⟨fun s=>Sfx.refl s,fun _ _=>rfl⟩
 |n+1,e=>⟨fun s=>by
  rw[fp]
  split
  ·next hc=>exact(Sfx.next hc).trans ((h.sfx _).trans ((rdy_inGo a n _).sfx _))
  ·exact Sfx.refl s,fun hf s=>by
  rw[fp,fp,dm hf]
  split
  ·rw[cm,h.mp hf]
   exact(rdy_inGo a n _).mp hf _
  ·rfl⟩
theorem rdy_in (a:Ex):Rdy (inP p a):=⟨fun s=> (h.sfx s).trans ((rdy_inGo h a _ _).sfx _),fun hf s=>by
 unfold inP
 rw[gN,h.mp hf]
 exact(rdy_inGo h a _ _).mp hf _⟩
theorem mj (a:Ex):Rdy (dL p a):=⟨fun s=>by
 unfold dL
 split
 ·exact(fb _ s).trans (h.sfx _)
 split
 ·next hc=>exact(Sfx.next hc).trans ((sfx_opt _ _).trans (sfx_need _ _))
 split
 ·next hc=>exact(sfx_opt _ _).trans ((Sfx.next hc).trans ((rdy_tak (by omega)).sfx _))
 split
 ·next hc=>exact(sfx_opt _ _).trans ((Sfx.next hc).trans ((h.sfx _).trans ((sfx_need _ _).trans (h.sfx _))))
 split
 ·next hc=>exact(sfx_opt _ _).trans ((Sfx.next hc).trans ((sfx_need _ _).trans (((rdy_in h a).sfx _).trans (sfx_need _ _))))
 ·simp only
  split
  ·exact(sfx_opt _ _).trans (Sfx.fail _)
  ·exact Sfx.refl s,fun hf s=>by
 unfold dL
 rw[gj hf]
 cases (firstP opsCmp s).1 with
 |some o=>simp only;rw[h.mp hf]
 |none=>
  have e:=fun s=> (rdy_tak (k:=4) (by omega)).mp hf s
  simp only[dm hf,mp_opt hf,cm,mp_need hf,h.mp hf,e,(rdy_in h a).mp hf,mp_fail]
  split
  ·rfl
  split
  ·rfl
  split
  ·rfl
  split
  ·rfl
  split<;>rfl⟩
theorem jp:Rdy (testP p):=⟨fun s=> ((iP h).sfx s).trans ((mj (iP h) _).sfx _),fun hf s=>by
 unfold testP
 rw[(iP h).mp hf]
 exact(mj (iP h) _).mp hf _⟩
theorem rdy_notGo:∀n,Rdy (notGo p n)
 |0=>jp h
 |n+1=>⟨fun s=>by
  rw[notGo]
  split
  ·next hc=>exact(Sfx.next hc).trans ((rdy_notGo n).sfx _)
  ·exact(jp h).sfx s,fun hf s=>by
  rw[notGo,notGo,dm hf]
  split
  ·rw[cm,(rdy_notGo n).mp hf]
  ·exact(jp h).mp hf s⟩
theorem rdy_not:Rdy (notP p):=⟨fun s=> (rdy_notGo h _).sfx s,fun hf s=>by
 unfold notP
 rw[gN]
 exact(rdy_notGo h _).mp hf s⟩
theorem rdy_or:Rdy (orP p):=fc (fc (rdy_not h) _) _
theorem rdy_prim:Rdy (bQ p):=⟨fun s=>by
 unfold bQ
 split
 ·exact rdy_num.sfx s
 split
 ·exact(rdy_tak (by omega)).sfx s
 split
 ·next hc=>exact Sfx.next hc
 split
 ·next hc=>exact(Sfx.next hc).trans ((sfx_need _ _).trans ((h.sfx _).trans (sfx_need _ _)))
 split
 ·next hc=>exact(Sfx.next hc).trans ((h.sfx _).trans (sfx_need _ _))
 ·exact rdy_col.sfx s,fun hf s=>by
 have e:=fun s=> (rdy_tak (k:=4) (by omega)).mp hf s
 unfold bQ
 simp only[dm hf,iO hf,cm,mp_need hf,h.mp hf,e,rdy_num.mp hf,rdy_col.mp hf]
 split
 ·rfl
 split
 ·rfl
 split
 ·rfl
 split
 ·rfl
 split<;>rfl⟩
end
theorem jq:∀n,Rdy (exprP n)
 |0=>⟨fun s=>Sfx.refl s,fun _ _=>rfl⟩
 |n+1=>rdy_or (rdy_prim (jq n))
theorem jr {ex:M Ex} (h:Rdy ex) (d:Df) (l:List ByteArray):Rdy (elemP ex d l):=by
 unfold elemP namesP refP cX namesP typP bnd2P maxP bndP
 repeat' first
  |exact h
  |exact rdy_tak (by omega)
  |exact rdy_num
  |exact aW _
  |exact bE _
  |apply mi
  |apply bS
  |apply aK
  |intro _
theorem fH {ex:M Ex} (h:Rdy ex):∀(n:Nat) (d:Df) (l:List ByteArray),Rdy (elemGo ex n d l)
 |0,_,_=>aW _
 |n+1,d,l=>bS _ (aK (jr h d l) fun x=>fH h n x.1 x.2) (aW _)
theorem rdy_elems {ex:M Ex} (h:Rdy ex):Rdy (eo ex):=⟨fun s=> (aK (jr h ⟨[],[],[],[]⟩ []) fun x=>fH h (s.r.length+1) x.1 x.2).sfx s,fun hf s=>by
 unfold eo
 rw[gN]
 exact(aK (jr h ⟨[],[],[],[]⟩ []) fun x=>fH h (s.r.length+1) x.1 x.2).mp hf s⟩
theorem iQ:Rdy srcP:=by
 unfold srcP
 repeat' first
  |exact rdy_tak (by omega)
  |exact aW _
  |apply bS
  |apply aK
  |intro _
theorem dW {ex:M Ex} (h:Rdy ex):∀(n:Nat) (l:List Src) (c:List Ex),Rdy (fromGo ex n l c)
 |0,_,_=>aW _
 |n+1,l,c=>bS _ (aK iQ fun x=>dW h n _ _) (bS _ (aK iQ fun x=>aK (bE _) fun _=>aK h fun e=>dW h n _ _) (aW _))
theorem rdy_from {ex:M Ex} (h:Rdy ex):Rdy (fromP ex):=⟨fun s=> (aK iQ fun x=>dW h (s.r.length+1) [x] []).sfx s,fun hf s=>by
 unfold fromP
 rw[gN]
 exact(aK iQ fun x=>dW h (s.r.length+1) [x] []).mp hf s⟩
theorem rdy_stmt {ex:M Ex} (h:Rdy ex) (k:List Ex→Ex):Rdy (eq ex posP k gh):=by
 have e:Rdy (fun s:Ps=> (stZ,s.fail)):=⟨fun s=>Sfx.fail s,fun _ _=>rfl⟩
 unfold eq createP eP eQ eR queryP itmsP fF iD ep grpP gg limP tupP asgP whrP nmP gh fE
 repeat' first
  |exact h
  |exact e
  |exact rdy_tak (by omega)
  |exact rdy_num
  |exact li
  |exact rdy_col
  |exact aW _
  |exact bE _
  |exact rdy_elems h
  |exact rdy_from h
  |apply mi
  |apply bS
  |apply rdy_fst
  |apply aK
  |split
  |intro _
theorem iR (n:Nat):Rdy (stmP n):=rdy_stmt (jq n) _
def js (s:Ps):Prop:=∃A z,s.r=A++ [z]∧z.kind=0∧∀a∈A,a.kind≠0
theorem Sfx.ended {s t:Ps} (h:Sfx s t) (l:js s):js t:=by
 obtain⟨A,g,i⟩:=h
 obtain⟨B,z,k,e,j⟩:=l
 rw[k]at g
 rcases List.append_eq_append_iff.1 g with ⟨C,e1,e2⟩|⟨C,e1,e2⟩
 ·cases C with
  |nil=>exact⟨[],z,by simpa using e2.symm,e,by simp⟩
  |cons c C=>
   have hz:z=c:=by simp at e2;exact e2.1
   exact absurd e (by rw[hz];exact i c (by rw[e1];simp))
 ·exact⟨C,z,e2,e,fun a ha=>j a (by rw[e1];simp[ha])⟩
theorem js.hd {s:Ps} (h:js s):s.hd∈s.r:=by
 obtain⟨A,z,e,_⟩:=h
 unfold Ps.hd
 cases g:s.r with
 |nil=>rw[g]at e;simp at e
 |cons a l=>simp
theorem mp_hd' {f:Tk→Tk} {s:Ps} (h:js s):(s.mp f).hd=f s.hd:=by
 obtain⟨A,z,e,_⟩:=h
 unfold Ps.hd Ps.mp
 cases g:s.r with
 |nil=>rw[g]at e;simp at e
 |cons a l=>simp
theorem end_mp {f:Tk→Tk} (hf:Kp f) (s:Ps):endP (s.mp f)=(endP s).mp f:=by
 unfold endP
 rw[iO hf]
 split<;>rfl
theorem lj (s:Ps):Sfx s (endP s):=by
 unfold endP
 split
 ·exact Sfx.refl s
 ·exact Sfx.fail s
theorem whole_mp {α:Type} {m:M α} (h:Rdy m) {f:Tk→Tk} (hf:Kp f) {L:List Tk} (e:js ⟨L,false⟩):
  dl m (L.map f)=(match dl m L with| .inl _=> .inl (f (endP (m ⟨L,false⟩).2).hd).pos| .inr a=> .inr a):=by
 have i:(⟨L.map f,false⟩:Ps)=(⟨L,false⟩:Ps).mp f:=rfl
 have g:=((h.sfx ⟨L,false⟩).trans (lj _)).ended e
 unfold dl
 rw[i,h.mp hf,end_mp hf,mp_hd' g]
 show(if (endP (m ⟨L,false⟩).2).bad=true then _ else _)=_
 split<;>rfl
end
end Go.Proofs.YtjigcpfjhfoheaaGreatDoor
