/- Well-formed statements; no program in sight; The canonical text of a statement; no program in sight; The canonical text of a statement, part by part; no program in sight; Lists compared element by element; no program in sight. -/
import Derived.Test.YtjigcpfjhfoheaaGreatDoorRai
import Derived.Lib.Join
import Derived.Test.YtjigcpfjhfoheaaGreatDoorRaj
namespace Go.Proofs.YtjigcpfjhfoheaaGreatDoor
open Go.RowKit
set_option maxHeartbeats 400000
set_option maxRecDepth 100000
set_option linter.unusedVariables false
set_option linter.unusedSimpArgs false
def inB (lo hi x:Int):Bool:=decide (lo≤x) &&decide (x≤hi)
def Cd.ok (x:Cd):Bool:=if (x.ty==1)=true then nameB x.nm&&inB (-2147483648) 2147483648 x.lo&&inB (-2147483648) 2147483648 x.hi&&x.mx==0 else x.ty==2&&nameB x.nm&&x.lo==0&&x.hi==0&&inB 0 2147483648 x.mx
def Rf.ok (x:Rf):Bool:=namesB x.cs&&nameB x.tb&&namesB x.tg
def Itm.ok (x:Itm):Bool:=if (x.ag==1)=true then x.ex.absent else decide (0≤x.ag) &&decide (x.ag≤5) &&x.ex.formed
def Src.ok (x:Src):Bool:=nameB x.tb&& (x.al.toList.isEmpty||nameB x.al)
def Ord'.ok (x:Ord'):Bool:=inB 1 2147483648 x.it
def eo (e:Ex):Bool:=e.d.op==2&&e.formed
def rowOk (l:List Ex):Bool:=decide (0<l.length) &&l.all Ex.formed
def Asg.ok (x:Asg):Bool:=nameB x.cl&&x.ex.formed
def St.noDef (s:St):Bool:=decide (s.cols.length+s.keys.length+s.frs.length+s.chk.length=0)
def St.defOk (s:St):Bool:=!s.noDef&&s.cols.all Cd.ok&&s.keys.all namesB&&s.frs.all Rf.ok&&s.chk.all Ex.formed
def St.qOk (s:St):Bool:=s.itms.all Itm.ok&&decide (0<s.frm.length) &&s.frm.all Src.ok&&s.grp.all eo&&s.ord.all Ord'.ok&&inB 0 2147483648 s.lim
def St.formed (s:St):Bool:=
 let tabled:=decide (s.kd≤4)
 let named:=s.kd==9||s.kd==10||s.kd==11
 let cond:=s.kd==3||s.kd==4||s.kd==5
 decide (1≤s.kd) &&decide (s.kd≤11) && (tabled==!s.tb.toList.isEmpty) && (!tabled||nameB s.tb) && (named==!s.nm.toList.isEmpty) && (!named||nameB s.nm) &&
  (s.whr.absent||cond&&s.whr.formed) && ((s.kd==1)==!s.noDef) && ((s.kd==2)==decide (0<s.vals.length)) && ((s.kd==3)==decide (0<s.sets.length)) && ((s.kd==5)==decide (0<s.frm.length)) &&
  (s.kd==5||decide (s.itms.length+s.grp.length+s.ord.length=0) &&s.lim==0) &&
  (if s.kd=1 then s.defOk else if s.kd=2 then s.vals.all rowOk else if s.kd=3 then s.sets.all Asg.ok else if s.kd=5 then s.qOk else true)
theorem gR {α:Type} (l:List α) (q:α→Bool):(l.any fun x=>!q x)=!l.all q:=by
 induction l with
 |nil=>rfl
 |cons a l ih=>simp[ih]
theorem na (l:List ByteArray):namesB l=(decide (0<l.length) &&!(l.any fun s=>!nameB s)):=by
 rw[gR,Bool.not_not]
 unfold namesB
 cases l<;>simp
def gk:ByteArray:=⟨#[44,32]⟩
def cma:List ByteArray→ByteArray
 | []=>⟨#[]⟩
 |x::l=>l.foldl (fun a y=>a++gk++y) x
theorem cma_snoc (x:ByteArray) (l:List ByteArray) (y:ByteArray):cma (x::l++ [y])=cma (x::l)++gk++y:=by
 show(l++ [y]).foldl _ x=l.foldl _ x++gk++y
 rw[List.foldl_append]
 rfl
theorem cma_step (l:List ByteArray) (h:l≠[]) (y:ByteArray):cma (l++ [y])=cma l++gk++y:=by
 cases l with
 |nil=>exact absurd rfl h
 |cons x l=>exact cma_snoc x l y
def bA:List ByteArray→Nat
 | []=>0
 |x::l=>x.size+2+bA l
theorem jd (a b:List ByteArray):bA (a++b)=bA a+bA b:=by
 induction a with
 |nil=>simp[bA]
 |cons x a ih=>rw[List.cons_append,bA,bA,ih];omega
theorem lO (l:List ByteArray):∀x:ByteArray,(l.foldl (fun a y=>a++gk++y) x).size=x.size+bA l:=by
 induction l with
 |nil=>intro x;rfl
 |cons y l ih=>
  intro x
  rw[List.foldl_cons,ih,bA,ByteArray.size_append,ByteArray.size_append]
  show x.size+2+y.size+_=_
  omega
theorem aK (l:List ByteArray):(cma l).size≤bA l:=by
 cases l with
 |nil=>exact Nat.le_refl _
 |cons x l=>show(l.foldl _ x).size≤_;rw[lO,bA];omega
theorem pw (l:List ByteArray):2*l.length≤bA l:=by
 induction l with
 |nil=>exact Nat.le_refl _
 |cons x l ih=>rw[bA,List.length_cons];omega
theorem sumS_take (l:List ByteArray) (k:Nat):bA (l.take k)≤bA l:=by
 conv=>rhs;rw[←List.take_append_drop k l,jd]
 omega
theorem dJ {l:List ByteArray} {x:ByteArray} (h:x∈l):x.size+2≤bA l:=by
 induction l with
 |nil=>cases h
 |cons a l ih=>
  rw[bA]
  rcases List.mem_cons.1 h with rfl|h
  ·omega
  ·have:=ih h;omega
theorem aP {α:Type} (tx:α→ByteArray) (bk:α→Nat) (c:Nat) (l:List α) (h:∀x∈l,(tx x).size+2≤c*bk x):bA (l.map tx)≤c*sumB bk l:=by
 induction l with
 |nil=>exact Nat.zero_le _
 |cons a l ih=>
  rw[List.map_cons,bA,sumB,Nat.mul_add]
  have e:=h a (by simp)
  have f:=ih fun x b=>h x (by simp[b])
  omega
theorem join_tail (l:List ByteArray):∀x:ByteArray,(l.foldl (fun a y=>a++gk++y) x).data.toList=x.data.toList++Lib.joinTail [44,32] (l.map fun y=>y.data.toList):=by
 induction l with
 |nil=>intro x;simp[Lib.joinTail]
 |cons y l ih=>
  intro x
  rw[List.foldl_cons,ih]
  have h:(x++gk++y).data.toList=x.data.toList++ [44,32]++y.data.toList:=by
   rw[ByteArray.data_append,ByteArray.data_append,Array.toList_append,Array.toList_append]
   rfl
  rw[h]
  simp[Lib.joinTail]
def Cd.bs (x:Cd):ByteArray:=if x.ty=1 then x.nm++⟨#[32,73,78,84,69,71,69,82,40]⟩++itoB x.lo++⟨#[44,32]⟩++itoB x.hi++⟨#[41]⟩else x.nm++⟨#[32,84,69,88,84,40]⟩++itoB x.mx++⟨#[41]⟩
def Cd.tx (x:Cd):ByteArray:=if x.nn=true then x.bs++⟨#[32,78,79,84,32,78,85,76,76]⟩else x.bs
def keyT (k:List ByteArray):ByteArray:=⟨#[85,78,73,81,85,69,32,40]⟩++cma k++⟨#[41]⟩
def Rf.tx (x:Rf):ByteArray:=⟨#[70,79,82,69,73,71,78,32,75,69,89,32,40]⟩++cma x.cs++⟨#[41,32,82,69,70,69,82,69,78,67,69,83,32]⟩++x.tb++⟨#[32,40]⟩++cma x.tg++⟨#[41]⟩
def ep (e:Ex):ByteArray:=⟨#[67,72,69,67,75,32,40]⟩++e.tx 1++⟨#[41]⟩
def St.elts (s:St):List ByteArray:=s.cols.map Cd.tx++s.keys.map keyT++s.frs.map Rf.tx++s.chk.map ep
def exsT (l:List Ex):ByteArray:=cma (l.map fun e=>e.tx 1)
def cM (l:List Ex):ByteArray:=⟨#[40]⟩++exsT l++⟨#[41]⟩
def Asg.tx (x:Asg):ByteArray:=x.cl++⟨#[32,61,32]⟩++x.ex.tx 1
def agW (n:Int):ByteArray:=if n=2 then ⟨#[67,79,85,78,84]⟩else if n=3 then ⟨#[83,85,77]⟩else if n=4 then ⟨#[77,73,78]⟩else if n=5 then ⟨#[77,65,88]⟩else ⟨#[]⟩
def Itm.tx (x:Itm):ByteArray:=if x.ag=1 then ⟨#[67,79,85,78,84,40,42,41]⟩else if x.ag=0 then x.ex.tx 1 else agW x.ag++⟨#[40]⟩++x.ex.tx 1++⟨#[41]⟩
def Src.tx (x:Src):ByteArray:=if x.al.size=0 then x.tb else x.tb++⟨#[32,65,83,32]⟩++x.al
def Ord'.tx (x:Ord'):ByteArray:=if x.ds=true then itoB x.it++⟨#[32,68,69,83,67]⟩else itoB x.it
def St.whT (s:St):ByteArray:=if s.whr.absent=true then ⟨#[]⟩else jU++s.whr.tx 1
def St.itT (s:St):ByteArray:=if s.itms.length=0 then ⟨#[42]⟩else cma (s.itms.map Itm.tx)
def St.selT (s:St):ByteArray:=
 ⟨#[83,69,76,69,67,84,32]⟩++s.itT++⟨#[32,70,82,79,77,32]⟩++cma (s.frm.map Src.tx)++s.whT++(if s.grp.length=0 then ⟨#[]⟩else ⟨#[32,71,82,79,85,80,32,66,89,32]⟩++exsT s.grp)++(if s.ord.length=0 then ⟨#[]⟩else ⟨#[32,79,82,68,69,82,32,66,89,32]⟩++cma (s.ord.map Ord'.tx))++(if 0<s.lim then ⟨#[32,76,73,77,73,84,32]⟩++itoB s.lim else ⟨#[]⟩)
def St.text (s:St):ByteArray:=
 if s.kd=1 then ⟨#[67,82,69,65,84,69,32,84,65,66,76,69,32]⟩++s.tb++⟨#[32,40]⟩++cma s.elts++⟨#[41]⟩
 else if s.kd=2 then ⟨#[73,78,83,69,82,84,32,73,78,84,79,32]⟩++s.tb++⟨#[32,86,65,76,85,69,83,32]⟩++cma (s.vals.map cM)
 else if s.kd=3 then ⟨#[85,80,68,65,84,69,32]⟩++s.tb++⟨#[32,83,69,84,32]⟩++cma (s.sets.map Asg.tx)++s.whT
 else if s.kd=4 then fD++s.tb++s.whT
 else if s.kd=5 then s.selT
 else if s.kd=6 then ⟨#[66,69,71,73,78]⟩else if s.kd=7 then ⟨#[67,79,77,77,73,84]⟩else if s.kd=8 then ⟨#[82,79,76,76,66,65,67,75]⟩
 else if s.kd=9 then ⟨#[83,65,86,69,80,79,73,78,84,32]⟩++s.nm else if s.kd=10 then ⟨#[82,79,76,76,66,65,67,75,32,84,79,32]⟩++s.nm else ⟨#[82,69,76,69,65,83,69,32]⟩++s.nm
theorem fE (l:List Ex):sumB Ex.size l=sizeL l:=by
 induction l with
 |nil=>rfl
 |cons a l ih=>rw[sumB,sizeL,ih]
theorem ob (l:List ByteArray):bA l≤3*sumB bkS l:=by
 induction l with
 |nil=>exact Nat.zero_le _
 |cons a l ih=>rw[bA,sumB];unfold bkS at*;omega
theorem ch {lo hi x:Int} :inB lo hi x=true↔lo≤x∧x≤hi:=by unfold inB;simp
theorem cd_bs {x:Cd} (h:x.ok=true):x.bs.size+11≤100*eW x:=by
 unfold Cd.ok at h
 unfold Cd.bs eW
 split
 ·rename_i h1
  rw[if_pos (by simpa using h1)]at h
  simp only[Bool.and_eq_true,ch]at h
  have a:=bh x.lo (by omega) (by omega)
  have b:=bh x.hi (by omega) (by omega)
  simp only[ByteArray.size_append]
  show x.nm.size+9+_+2+_+1+11≤_
  omega
 ·rename_i h1
  rw[if_neg (by simpa using h1)]at h
  simp only[Bool.and_eq_true,ch]at h
  have a:=bh x.mx (by omega) (by omega)
  simp only[ByteArray.size_append]
  show x.nm.size+6+_+1+11≤_
  omega
theorem cd_size {x:Cd} (h:x.ok=true):x.tx.size+2≤100*eW x:=by
 have a:=cd_bs h
 unfold Cd.tx
 split
 ·rw[ByteArray.size_append]
  show _+9+2≤_
  omega
 ·omega
theorem cd_nm {x:Cd} (h:x.ok=true):x.nm.size≤24:=by
 unfold Cd.ok at h
 split at h
 ·simp only[Bool.and_eq_true]at h;exact bv h.1.1.1
 ·simp only[Bool.and_eq_true]at h;exact bv h.1.1.1.2
theorem cd_ty {x:Cd} (h:x.ok=true):x.ty=1∨x.ty=2:=by
 unfold Cd.ok at h
 split at h
 ·rename_i h1;exact .inl (by simpa using h1)
 ·simp only[Bool.and_eq_true]at h;exact .inr (by simpa using h.1.1.1.1)
theorem rf_nm {x:Rf} (h:x.ok=true):x.tb.size≤24:=by
 unfold Rf.ok at h
 simp only[Bool.and_eq_true]at h
 exact bv h.1.2
theorem key_size (k:List ByteArray):(keyT k).size+2≤100*bkK k:=by
 have a:=aK k
 have b:=ob k
 unfold keyT bkK
 simp only[ByteArray.size_append]
 show 8+_+1+2≤_
 omega
theorem rf_size (x:Rf):x.tx.size+2≤100*gj x:=by
 have a:=aK x.cs
 have b:=ob x.cs
 have e:=aK x.tg
 have f:=ob x.tg
 unfold Rf.tx gj
 simp only[ByteArray.size_append]
 show 13+_+13+_+2+_+1+2≤_
 omega
theorem tx1_size {e:Ex} (h:e.formed=true):(e.tx 1).size+2≤100*e.size:=by
 have:=bJ e 1 h
 have:=cJ e
 omega
theorem chk_size {e:Ex} (h:e.formed=true):(ep e).size+2≤100*e.size:=by
 have:=bJ e 1 h
 have:=cJ e
 unfold ep
 simp only[ByteArray.size_append]
 show 7+_+1+2≤_
 omega
theorem eq {l:List Ex} (h:l.all Ex.formed=true):bA (l.map fun e=>e.tx 1)≤100*sizeL l:=by
 rw[←fE]
 exact aP _ _ 100 l fun x a=>tx1_size (List.all_eq_true.1 h x a)
theorem exs_size2 {l:List Ex} (h:l.all Ex.formed=true):bA (l.map fun e=>e.tx 1)≤62*sizeL l:=by
 rw[←fE]
 exact aP _ _ 62 l fun x a=>by have:=bJ x 1 (List.all_eq_true.1 h x a);have:=cJ x;omega
theorem lP {l:List Ex} (h:l.all Ex.formed=true):(cM l).size+2≤100*bkR l:=by
 have a:=exs_size2 h
 have b:=aK (l.map fun e=>e.tx 1)
 unfold cM bkR exsT
 simp only[ByteArray.size_append]
 show 1+_+1+2≤_
 omega
theorem lQ {x:Asg} (h:x.ok=true):x.tx.size+2≤100*bkA x:=by
 unfold Asg.ok at h
 simp only[Bool.and_eq_true]at h
 have:=bJ x.ex 1 h.2
 unfold Asg.tx bkA
 simp only[ByteArray.size_append]
 show _+3+_+2≤_
 omega
theorem px (n:Int):(agW n).size≤5:=by
 unfold agW
 exact aC _ _ _ _ (show 5≤5 by omega) (aC _ _ _ _ (show 3≤5 by omega) (aC _ _ _ _ (show 3≤5 by omega) (aC _ _ _ _ (show 3≤5 by omega) (show 0≤5 by omega))))
theorem lR {x:Itm} (h:x.ok=true):x.tx.size+2≤100*bkI x:=by
 have:=cJ x.ex
 unfold Itm.ok at h
 unfold Itm.tx bkI
 by_cases a:x.ag=1
 ·rw[if_pos a];show 8+2≤_;omega
 ·rw[if_neg a]
  rw[if_neg (by simpa using a)]at h
  simp only[Bool.and_eq_true]at h
  have:=bJ x.ex 1 h.2
  split
  ·omega
  ·have:=px x.ag
   simp only[ByteArray.size_append]
   show _+1+_+1+2≤_
   omega
theorem gl (x:Src):x.tx.size+2≤100*bkF x:=by
 unfold Src.tx bkF
 split
 ·omega
 ·simp only[ByteArray.size_append]
  show _+4+_+2≤_
  omega
theorem gm {x:Ord'} (h:x.ok=true):x.tx.size+2≤100*bkO x:=by
 unfold Ord'.ok at h
 rw[ch]at h
 have:=bh x.it (by omega) (by omega)
 unfold Ord'.tx bkO
 split
 ·rw[ByteArray.size_append];show _+5+2≤_;omega
 ·omega
theorem jW {s:St} (h:s.defOk=true):bA s.elts≤100* (sumB eW s.cols+sumB bkK s.keys+sumB gj s.frs+sizeL s.chk):=by
 unfold St.defOk at h
 simp only[Bool.and_eq_true]at h
 unfold St.elts
 rw[jd,jd,jd]
 have e:=aP Cd.tx eW 100 s.cols fun x a=>cd_size (List.all_eq_true.1 h.1.1.1.2 x a)
 have f:=aP keyT bkK 100 s.keys fun x a=>key_size x
 have g:=aP Rf.tx gj 100 s.frs fun x a=>rf_size x
 have b:=aP ep Ex.size 100 s.chk fun x a=>chk_size (List.all_eq_true.1 h.2 x a)
 rw[fE]at b
 omega
def St.sel0 (s:St):ByteArray:=⟨#[83,69,76,69,67,84,32]⟩++s.itT++⟨#[32,70,82,79,77,32]⟩++cma (s.frm.map Src.tx)++s.whT
def St.sel1 (s:St):ByteArray:=if s.grp.length=0 then s.sel0 else s.sel0++(⟨#[32,71,82,79,85,80,32,66,89,32]⟩++exsT s.grp)
def St.sel2 (s:St):ByteArray:=if s.ord.length=0 then s.sel1 else s.sel1++(⟨#[32,79,82,68,69,82,32,66,89,32]⟩++cma (s.ord.map Ord'.tx))
def St.sel (s:St):ByteArray:=if 0<s.lim then s.sel2++(⟨#[32,76,73,77,73,84,32]⟩++itoB s.lim)else s.sel2
def St.body (s:St):ByteArray:=
 if s.kd=1 then ⟨#[67,82,69,65,84,69,32,84,65,66,76,69,32]⟩++s.tb++⟨#[32,40]⟩++cma s.elts++⟨#[41]⟩
 else if s.kd=2 then ⟨#[73,78,83,69,82,84,32,73,78,84,79,32]⟩++s.tb++⟨#[32,86,65,76,85,69,83,32]⟩++cma (s.vals.map cM)
 else if s.kd=3 then ⟨#[85,80,68,65,84,69,32]⟩++s.tb++⟨#[32,83,69,84,32]⟩++cma (s.sets.map Asg.tx)++s.whT
 else if s.kd=4 then fD++s.tb++s.whT
 else if s.kd=5 then s.sel
 else if s.kd=6 then ⟨#[66,69,71,73,78]⟩else if s.kd=7 then ⟨#[67,79,77,77,73,84]⟩else if s.kd=8 then ⟨#[82,79,76,76,66,65,67,75]⟩
 else if s.kd=9 then ⟨#[83,65,86,69,80,79,73,78,84,32]⟩++s.nm else if s.kd=10 then ⟨#[82,79,76,76,66,65,67,75,32,84,79,32]⟩++s.nm else ⟨#[82,69,76,69,65,83,69,32]⟩++s.nm
structure St.Fits (s:St):Prop where
 itms:∀x∈s.itms,x.ex.size≤1000
 whr:s.whr.size≤1000
 grp:sizeL s.grp≤1000
 vals:∀l∈s.vals,sizeL l≤1000
 sets:∀x∈s.sets,x.ex.size≤1000
 chk:sizeL s.chk≤1000
theorem lS {e:Ex} {l:List Ex} (h:e∈l):e.nodes≤nodesL l:=by
 induction l with
 |nil=>cases h
 |cons a l ih=>
  rw[nodesL]
  rcases List.mem_cons.1 h with rfl|h
  ·omega
  ·have:=ih h;omega
theorem gS {l:List Ex} (h:l.all Ex.formed=true):nodesL l=sizeL l:=by
 induction l with
 |nil=>rfl
 |cons a l ih=>
  rw[List.all_cons,Bool.and_eq_true]at h
  rw[nodesL,sizeL,dQ a h.1,ih h.2]
theorem ki {e:Ex} (h:e.absent=true):e.size=1:=by
 cases e with
 |mk d ks=>
  unfold Ex.absent at h
  simp only[Bool.and_eq_true,List.isEmpty_iff]at h
  have a:ks= []:=h.2
  subst a
  rw[Ex.size];rfl
theorem sz_of {e:Ex} {n:Nat} (h:e.formed=true∨e.absent=true) (b:e.nodes≤n) (a:1≤n):e.size≤n:=by
 rcases h with h|h
 ·rw[←dQ e h];exact b
 ·rw[ki h];exact a
theorem et {s:St} (h:s.formed=true):s.whr.absent=true∨s.whr.formed=true:=by
 unfold St.formed at h
 dsimp only at h
 simp only[Bool.and_eq_true,Bool.or_eq_true]at h
 rcases h.1.1.1.1.1.1.2 with h|h
 ·exact .inl h
 ·exact .inr h.2
theorem cW {α:Type} {l:List α} (h:l.length=0):l= []:=List.eq_nil_of_length_eq_zero h
theorem bC {s:St} (h:s.formed=true):(1≤s.kd∧s.kd≤11)∧(s.kd=1→s.defOk=true)∧(s.kd≠1→s.chk= [])∧(s.kd=2→s.vals.all rowOk=true)∧(s.kd≠2→s.vals= [])∧(s.kd=3→s.sets.all Asg.ok=true)∧(s.kd≠3→s.sets= [])∧
  (s.kd=5→s.qOk=true)∧(s.kd≠5→s.itms= []∧s.grp= []):=by
 unfold St.formed at h
 dsimp only at h
 simp only[Bool.and_eq_true,decide_eq_true_eq]at h
 obtain⟨⟨⟨⟨⟨⟨⟨⟨⟨⟨⟨⟨k,l⟩,_⟩,_⟩,_⟩,_⟩,_⟩,f⟩,g⟩,i⟩,_⟩,j⟩,a⟩:=h
 refine⟨⟨k,l⟩,fun e=>?_,fun e=>?_,fun e=>?_,fun e=>?_,fun e=>?_,fun e=>?_,fun e=>?_,fun e=>?_⟩
 ·rw[if_pos e]at a;exact a
 ·have b:(s.kd==1)=false:=by simpa using e
  rw[b]at f
  have f:s.noDef=true:=by simpa using f
  unfold St.noDef at f
  exact cW (by have:=of_decide_eq_true f;omega)
 ·rw[if_neg (by omega),if_pos e]at a;exact a
 ·have b:(s.kd==2)=false:=by simpa using e
  rw[b]at g
  exact cW (by simpa using g)
 ·rw[if_neg (by omega),if_neg (by omega),if_pos e]at a;exact a
 ·have b:(s.kd==3)=false:=by simpa using e
  rw[b]at i
  exact cW (by simpa using i)
 ·rw[if_neg (by omega),if_neg (by omega),if_neg (by omega),if_pos e]at a;exact a
 ·have b:(s.kd==5)=false:=by simpa using e
  rw[b]at j
  simp only[Bool.false_or,Bool.and_eq_true,decide_eq_true_eq]at j
  exact⟨cW (by omega),cW (by omega)⟩
theorem py {l:List Ex} {L:List (List Ex)} (h:l∈L):nodesL l≤nodesL L.flatten:=by
 induction L with
 |nil=>cases h
 |cons a L ih=>
  rw[List.flatten_cons,co]
  rcases List.mem_cons.1 h with rfl|h
  ·omega
  ·have:=ih h;omega
theorem od {s:St} (h:s.formed=true) (p:nodesL s.all≤400):s.Fits:=by
 have f:=bC h
 have y:=et h
 have a:∀e∈s.all,e.nodes≤400:=fun e o=>Nat.le_trans (lS o) p
 unfold St.all at p a
 simp only[co]at p
 refine⟨fun x g=>?_,?_,?_,fun l n=>?_,fun x g=>?_,?_⟩
 ·by_cases m:s.kd=5
  ·have j:=f.2.2.2.2.2.2.2.1 m
   unfold St.qOk at j
   simp only[Bool.and_eq_true]at j
   have b:=List.all_eq_true.1 j.1.1.1.1.1 x g
   unfold Itm.ok at b
   have i:x.ex.nodes≤400:=a _ (by simp only[List.mem_append];exact .inl (.inr (List.mem_map_of_mem g)))
   refine Nat.le_trans (sz_of ?_ i (by omega)) (by omega)
   split at b
   ·exact .inr b
   ·simp only[Bool.and_eq_true]at b;exact .inl b.2
  ·rw[(f.2.2.2.2.2.2.2.2 m).1]at g;cases g
 ·exact Nat.le_trans (sz_of y.symm (a _ (by simp)) (by omega)) (by omega)
 ·by_cases m:s.kd=5
  ·have j:=f.2.2.2.2.2.2.2.1 m
   unfold St.qOk at j
   simp only[Bool.and_eq_true]at j
   have w:s.grp.all Ex.formed=true:=List.all_eq_true.2 fun e o=>by
    have:=List.all_eq_true.1 j.1.1.2 e o
    unfold eo at this
    simp only[Bool.and_eq_true]at this
    exact this.2
   rw[←gS w];omega
  ·rw[(f.2.2.2.2.2.2.2.2 m).2];exact Nat.zero_le _
 ·by_cases t:s.kd=2
  ·have k:=List.all_eq_true.1 (f.2.2.2.1 t) l n
   unfold rowOk at k
   simp only[Bool.and_eq_true]at k
   rw[←gS k.2]
   have:nodesL l≤nodesL s.vals.flatten:=py n
   omega
  ·rw[f.2.2.2.2.1 t]at n;cases n
 ·by_cases u:s.kd=3
  ·have k:=List.all_eq_true.1 (f.2.2.2.2.2.1 u) x g
   unfold Asg.ok at k
   simp only[Bool.and_eq_true]at k
   have i:x.ex.nodes≤400:=a _ (by simp only[List.mem_append];exact .inl (.inl (.inr (List.mem_map_of_mem g))))
   exact Nat.le_trans (sz_of (.inl k.2) i (by omega)) (by omega)
  ·rw[f.2.2.2.2.2.2.1 u]at g;cases g
 ·by_cases r:s.kd=1
  ·have hd:=f.2.1 r
   unfold St.defOk at hd
   simp only[Bool.and_eq_true]at hd
   rw[←gS hd.2]
   omega
  ·rw[f.2.2.1 r];exact Nat.zero_le _
def allS {α:Type} (f:α→α→Bool):List α→List α→Bool
 | [],[]=>true
 |x::l,y::m=>f x y&&allS f l m
 |_,_=>false
theorem lT {α:Type} (f:α→α→Bool):∀(a b:List α),allS f a b=true↔a.length=b.length∧∀(i:Nat) (x y:α),a[i]? =some x→b[i]? =some y→f x y=true:=by
 intro a
 induction a with
 |nil=>intro b;cases b<;>simp[allS]
 |cons e a ih=>
  intro b
  cases b with
  |nil=>simp[allS]
  |cons g b=>
   rw[allS,Bool.and_eq_true,ih]
   constructor
   ·rintro⟨m,l,k⟩
    refine⟨by simp[l],fun i x y h j=>?_⟩
    cases i with
    |zero=>simp at h j;subst h j;exact m
    |succ i=>exact k i x y (by simpa using h) (by simpa using j)
   ·rintro⟨l,k⟩
    exact⟨k 0 e g rfl rfl,by simpa using l,fun i x y h j=>k (i+1) x y (by simpa using h) (by simpa using j)⟩
def STo {α:Type} (f:α→α→Bool) (l m:List α) (k:Nat):Prop:=∀(i:Nat),i<k→∀(x y:α),l[i]? =some x→m[i]? =some y→f x y=true
theorem STo.zero {α:Type} (f:α→α→Bool) (l m:List α):STo f l m 0:=fun i hi=>by omega
theorem STo.succ {α:Type} {f:α→α→Bool} {l m:List α} {k:Nat} {x y:α} (h:STo f l m k) (j:l[k]? =some x) (n:m[k]? =some y) (g:f x y=true):STo f l m (k+1):=by
 intro i hi o p a b
 by_cases e:i=k
 ·subst e
  obtain rfl:=Option.some.inj (j.symm.trans a)
  obtain rfl:=Option.some.inj (n.symm.trans b)
  exact g
 ·exact h i (by omega) o p a b
theorem br {α:Type} {f:α→α→Bool} {l m:List α} {k:Nat} {x y:α} (b:l[k]? =some x) (e:m[k]? =some y) (a:f x y=false):allS f l m=false:=by
 cases h:allS f l m with
 |false=>rfl
 |true=>
  have:=((lT f l m).1 h).2 k x y b e
  rw[a]at this
  cases this
theorem di {α:Type} {f:α→α→Bool} {l m:List α} (h:l.length≠m.length):allS f l m=false:=by
 cases a:allS f l m with
 |false=>rfl
 |true=>exact absurd ((lT f l m).1 a).1 h
theorem dj {α:Type} {f:α→α→Bool} {l m:List α} {n:Nat} (e:l.length=n) (g:m.length=n) (h:STo f l m n):allS f l m=true:=by
 rw[lT]
 exact⟨by omega,fun i x y a b=>h i (by have:=(List.getElem?_eq_some_iff.1 a).1;omega) x y a b⟩
theorem dD {α:Type} {f:α→α→Bool} (h:∀x,f x x=true) (l:List α):allS f l l=true:=by
 induction l with
 |nil=>rfl
 |cons a l ih=>rw[allS,h,ih];rfl
def sN (a b:ByteArray):Bool:=N a==N b
def Src.same (a b:Src):Bool:=sN a.tb b.tb&&sN a.al b.al
def Ord'.same (a b:Ord'):Bool:=a.it==b.it&&a.ds==b.ds
def Cd.same (a b:Cd):Bool:=sN a.nm b.nm&& (a.ty==b.ty&& (a.lo==b.lo&& (a.hi==b.hi&& (a.mx==b.mx&&a.nn==b.nn))))
def Rf.same (a b:Rf):Bool:=sN a.tb b.tb&&allS sN a.cs b.cs&&allS sN a.tg b.tg
def Asg.same (a b:Asg):Bool:=sN a.cl b.cl&&a.ex.same b.ex
def Itm.same (a b:Itm):Bool:=a.ag==b.ag&&a.ex.same b.ex
theorem fF (a:ByteArray):sN a a=true:=by simp[sN]
theorem src_refl (a:Src):a.same a=true:=by unfold Src.same;simp[fF]
theorem ord_refl (a:Ord'):a.same a=true:=by unfold Ord'.same;simp
theorem cd_refl (a:Cd):a.same a=true:=by unfold Cd.same;simp[fF]
theorem rf_refl (a:Rf):a.same a=true:=by unfold Rf.same;simp[fF,dD fF]
structure SB where
 kd:Bool
 tb:Bool
 nm:Bool
 lim:Bool
 whr:Bool
 frm:Bool
 ord:Bool
 grp:Bool
 vals:Bool
 sets:Bool
 itms:Bool
 cols:Bool
 keys:Bool
 frs:Bool
 chk:Bool
def St.sb (a b:St):SB:=
 ⟨a.kd==b.kd,sN a.tb b.tb,sN a.nm b.nm,a.lim==b.lim,a.whr.same b.whr,allS Src.same a.frm b.frm,allS Ord'.same a.ord b.ord,sameL a.grp b.grp,allS sameL a.vals b.vals,allS Asg.same a.sets b.sets,allS Itm.same a.itms b.itms,allS Cd.same a.cols b.cols,allS (allS sN) a.keys b.keys,allS Rf.same a.frs b.frs,sameL a.chk b.chk⟩
def SB.all (x:SB):Bool:=x.kd&&x.tb&&x.nm&&x.lim&&x.whr&&x.frm&&x.ord&&x.grp&&x.vals&&x.sets&&x.itms&&x.cols&&x.keys&&x.frs&&x.chk
def St.same (a b:St):Bool:=(a.sb b).all
end Go.Proofs.YtjigcpfjhfoheaaGreatDoor
