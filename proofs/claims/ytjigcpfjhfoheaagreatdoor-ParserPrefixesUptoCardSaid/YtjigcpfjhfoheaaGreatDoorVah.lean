/- Well-formed statements; no program in sight; The canonical text of a statement; no program in sight; The canonical text of a statement, part by part; no program in sight; Lists compared element by element; no program in sight. -/
import Derived.Test.YtjigcpfjhfoheaaGreatDoorVag
import Derived.Lib.Join
namespace Go.Proofs.YtjigcpfjhfoheaaGreatDoor
open Go.RowKit List Go.Proofs.Tryz
set_option maxHeartbeats 400000
set_option maxRecDepth 100000
set_option linter.unusedVariables false
set_option linter.unusedSimpArgs false
def inB (lo hi x:Int):Bool:=decide (lo≤x) &&decide (x≤hi)
def Cd.ok (x:Cd):Bool:=if (x.ty==1)=true then nameB x.nm&&inB (-2147483648) 2147483648 x.lo&&inB (-2147483648) 2147483648 x.hi&&x.mx==0 else x.ty==2&&nameB x.nm&&x.lo==0&&x.hi==0&&inB 0 2147483648 x.mx
def Rf.ok (x:Rf):Bool:=namesB x.cs&&nameB x.tb&&namesB x.tg
def Itm.ok (x:Itm):Bool:=if (x.ag==1)=true then x.ex.absent else decide (0≤x.ag) &&decide (x.ag≤5) &&x.ex.formed
def Src.ok (x:Src):Bool:=nameB x.tb&& (x.al.toList.isEmpty||nameB x.al)
def Ord'.ok (x:Ord'):Bool:=inB 1 2147483648 x.it
def gJ (e:Ex):Bool:=e.d.op==2&&e.formed
def rowOk (l:List Ex):Bool:=decide (0<l.length) &&l.all Ex.formed
def Asg.ok (x:Asg):Bool:=nameB x.cl&&x.ex.formed
def St.noDef (s:St):Bool:=decide (s.cols.length+s.keys.length+s.frs.length+s.chk.length=0)
def St.defOk (s:St):Bool:=!s.noDef&&s.cols.all Cd.ok&&s.keys.all namesB&&s.frs.all Rf.ok&&s.chk.all Ex.formed
def St.qOk (s:St):Bool:=s.itms.all Itm.ok&&decide (0<s.frm.length) &&s.frm.all Src.ok&&s.grp.all gJ&&s.ord.all Ord'.ok&&inB 0 2147483648 s.lim
def St.formed (s:St):Bool:=
 let tabled:=decide (s.kd≤4)
 let named:=s.kd==9||s.kd==10||s.kd==11
 let cond:=s.kd==3||s.kd==4||s.kd==5
 decide (1≤s.kd) &&decide (s.kd≤11) && (tabled==!s.tb.toList.isEmpty) && (!tabled||nameB s.tb) && (named==!s.nm.toList.isEmpty) && (!named||nameB s.nm) &&
  (s.whr.absent||cond&&s.whr.formed) && ((s.kd==1)==!s.noDef) && ((s.kd==2)==decide (0<s.vals.length)) && ((s.kd==3)==decide (0<s.sets.length)) && ((s.kd==5)==decide (0<s.frm.length)) &&
  (s.kd==5||decide (s.itms.length+s.grp.length+s.ord.length=0) &&s.lim==0) &&
  (if s.kd=1 then s.defOk else if s.kd=2 then s.vals.all rowOk else if s.kd=3 then s.sets.all Asg.ok else if s.kd=5 then s.qOk else true)
theorem kI {α:Type} (l:List α) (q:α→Bool):(l.any fun x=>!q x)=!l.all q:=by
 induction l with
 |nil=>rfl
 |cons a l ih=>simp[ih]
theorem ro (l:List BA):namesB l=(decide (0<l.length) &&!(l.any fun s=>!nameB s)):=by
 rw[kI,Bool.not_not]
 unfold namesB
 cases l<;>simp
def jQ:BA:=⟨#[44,32]⟩
def cma:List BA→BA
 | []=>⟨#[]⟩
 |x::l=>l.foldl (fun a y=>a++jQ++y) x
theorem cma_snoc (x:BA) (l:List BA) (y:BA):cma (x::l++ [y])=cma (x::l)++jQ++y:=by
 show(l++ [y]).foldl _ x=l.foldl _ x++jQ++y
 rw[foldl_append]
 rfl
theorem cma_step (l:List BA) (h:l≠[]) (y:BA):cma (l++ [y])=cma l++jQ++y:=by
 cases l with
 |nil=>exact absurd rfl h
 |cons x l=>exact cma_snoc x l y
def bX:List BA→Nat
 | []=>0
 |x::l=>x.size+2+bX l
theorem mo (a b:List BA):bX (a++b)=bX a+bX b:=by
 induction a with
 |nil=>simp[bX]
 |cons x a ih=>rw[cons_append,bX,bX,ih];omega
theorem lB (l:List BA):∀x:BA,(l.foldl (fun a y=>a++jQ++y) x).size=x.size+bX l:=by
 induction l with
 |nil=>intro x;rfl
 |cons y l ih=>
  intro x
  rw[foldl_cons,ih,bX,ByteArray.size_append,ByteArray.size_append]
  show x.size+2+y.size+_=_
  omega
theorem aW (l:List BA):(cma l).size≤bX l:=by
 cases l with
 |nil=>exact Nat.le_refl _
 |cons x l=>show(l.foldl _ x).size≤_;rw[lB,bX];omega
theorem uI (l:List BA):2*l.length≤bX l:=by
 induction l with
 |nil=>exact Nat.le_refl _
 |cons x l ih=>rw[bX,length_cons];omega
theorem sumS_take (l:List BA) (k:Nat):bX (l.take k)≤bX l:=by
 conv=>rhs;rw[←take_append_drop k l,mo]
 omega
theorem fG {l:List BA} {x:BA} (h:x∈l):x.size+2≤bX l:=by
 induction l with
 |nil=>cases h
 |cons a l ih=>
  rw[bX]
  rcases List.mem_cons.1 h with rfl|h
  ·omega
  ·have:=ih h;omega
theorem bb {α:Type} (tx:α→BA) (bk:α→Nat) (c:Nat) (l:List α) (h:∀x∈l,(tx x).size+2≤c*bk x):bX (l.map tx)≤c*sumB bk l:=by
 induction l with
 |nil=>exact Nat.zero_le _
 |cons a l ih=>
  rw[map_cons,bX,sumB,Nat.mul_add]
  have e:=h a (by simp)
  have f:=ih fun x b=>h x (by simp[b])
  omega
theorem join_tail (l:List BA):∀x:BA,(l.foldl (fun a y=>a++jQ++y) x).data.toList=x.data.toList++Lib.joinTail [44,32] (l.map fun y=>y.data.toList):=by
 induction l with
 |nil=>intro x;simp[Lib.joinTail]
 |cons y l ih=>
  intro x
  rw[foldl_cons,ih]
  have h:(x++jQ++y).data.toList=x.data.toList++ [44,32]++y.data.toList:=by
   rw[ByteArray.data_append,ByteArray.data_append,Array.toList_append,Array.toList_append]
   rfl
  rw[h]
  simp[Lib.joinTail]
def Cd.bs (x:Cd):BA:=if x.ty=1 then x.nm++⟨#[32,73,78,84,69,71,69,82,40]⟩++itoB x.lo++⟨#[44,32]⟩++itoB x.hi++⟨#[41]⟩else x.nm++⟨#[32,84,69,88,84,40]⟩++itoB x.mx++⟨#[41]⟩
def Cd.tx (x:Cd):BA:=if x.nn=true then x.bs++⟨#[32,78,79,84,32,78,85,76,76]⟩else x.bs
def keyT (k:List BA):BA:=⟨#[85,78,73,81,85,69,32,40]⟩++cma k++⟨#[41]⟩
def Rf.tx (x:Rf):BA:=⟨#[70,79,82,69,73,71,78,32,75,69,89,32,40]⟩++cma x.cs++⟨#[41,32,82,69,70,69,82,69,78,67,69,83,32]⟩++x.tb++⟨#[32,40]⟩++cma x.tg++⟨#[41]⟩
def gK (e:Ex):BA:=⟨#[67,72,69,67,75,32,40]⟩++e.tx 1++⟨#[41]⟩
def St.elts (s:St):List BA:=s.cols.map Cd.tx++s.keys.map keyT++s.frs.map Rf.tx++s.chk.map gK
def exsT (l:List Ex):BA:=cma (l.map fun e=>e.tx 1)
def dV (l:List Ex):BA:=⟨#[40]⟩++exsT l++⟨#[41]⟩
def Asg.tx (x:Asg):BA:=x.cl++⟨#[32,61,32]⟩++x.ex.tx 1
def agW (n:Int):BA:=if n=2 then ⟨#[67,79,85,78,84]⟩else if n=3 then ⟨#[83,85,77]⟩else if n=4 then ⟨#[77,73,78]⟩else if n=5 then ⟨#[77,65,88]⟩else ⟨#[]⟩
def Itm.tx (x:Itm):BA:=if x.ag=1 then ⟨#[67,79,85,78,84,40,42,41]⟩else if x.ag=0 then x.ex.tx 1 else agW x.ag++⟨#[40]⟩++x.ex.tx 1++⟨#[41]⟩
def Src.tx (x:Src):BA:=if x.al.size=0 then x.tb else x.tb++⟨#[32,65,83,32]⟩++x.al
def Ord'.tx (x:Ord'):BA:=if x.ds=true then itoB x.it++⟨#[32,68,69,83,67]⟩else itoB x.it
def St.whT (s:St):BA:=if s.whr.absent=true then ⟨#[]⟩else nI++s.whr.tx 1
def St.itT (s:St):BA:=if s.itms.length=0 then ⟨#[42]⟩else cma (s.itms.map Itm.tx)
def St.selT (s:St):BA:=
 ⟨#[83,69,76,69,67,84,32]⟩++s.itT++⟨#[32,70,82,79,77,32]⟩++cma (s.frm.map Src.tx)++s.whT++(if s.grp.length=0 then ⟨#[]⟩else ⟨#[32,71,82,79,85,80,32,66,89,32]⟩++exsT s.grp)++(if s.ord.length=0 then ⟨#[]⟩else ⟨#[32,79,82,68,69,82,32,66,89,32]⟩++cma (s.ord.map Ord'.tx))++(if 0<s.lim then ⟨#[32,76,73,77,73,84,32]⟩++itoB s.lim else ⟨#[]⟩)
def St.text (s:St):BA:=
 if s.kd=1 then ⟨#[67,82,69,65,84,69,32,84,65,66,76,69,32]⟩++s.tb++⟨#[32,40]⟩++cma s.elts++⟨#[41]⟩
 else if s.kd=2 then ⟨#[73,78,83,69,82,84,32,73,78,84,79,32]⟩++s.tb++⟨#[32,86,65,76,85,69,83,32]⟩++cma (s.vals.map dV)
 else if s.kd=3 then ⟨#[85,80,68,65,84,69,32]⟩++s.tb++⟨#[32,83,69,84,32]⟩++cma (s.sets.map Asg.tx)++s.whT
 else if s.kd=4 then fX++s.tb++s.whT
 else if s.kd=5 then s.selT
 else if s.kd=6 then ⟨#[66,69,71,73,78]⟩else if s.kd=7 then ⟨#[67,79,77,77,73,84]⟩else if s.kd=8 then ⟨#[82,79,76,76,66,65,67,75]⟩
 else if s.kd=9 then ⟨#[83,65,86,69,80,79,73,78,84,32]⟩++s.nm else if s.kd=10 then ⟨#[82,79,76,76,66,65,67,75,32,84,79,32]⟩++s.nm else ⟨#[82,69,76,69,65,83,69,32]⟩++s.nm
theorem jf (l:List Ex):sumB Ex.size l=sizeL l:=by
 induction l with
 |nil=>rfl
 |cons a l ih=>rw[sumB,sizeL,ih]
theorem sV (l:List BA):bX l≤3*sumB bkS l:=by
 induction l with
 |nil=>exact Nat.zero_le _
 |cons a l ih=>rw[bX,sumB];unfold bkS at*;omega
theorem dC {lo hi x:Int} :inB lo hi x=true↔lo≤x∧x≤hi:=by unfold inB;simp
theorem cd_bs {x:Cd} (h:x.ok=true):x.bs.size+11≤100*iB x:=by
 unfold Cd.ok at h
 unfold Cd.bs iB
 split
 ·rename_i h1
  rw[if_pos (by simpa using h1)]at h
  simp only[Bool.and_eq_true,dC]at h
  have a:=bE x.lo (by omega) (by omega)
  have b:=bE x.hi (by omega) (by omega)
  simp only[ByteArray.size_append]
  show x.nm.size+9+_+2+_+1+11≤_
  omega
 ·rename_i h1
  rw[if_neg (by simpa using h1)]at h
  simp only[Bool.and_eq_true,dC]at h
  have a:=bE x.mx (by omega) (by omega)
  simp only[ByteArray.size_append]
  show x.nm.size+6+_+1+11≤_
  omega
theorem cd_size {x:Cd} (h:x.ok=true):x.tx.size+2≤100*iB x:=by
 have a:=cd_bs h
 unfold Cd.tx
 split
 ·rw[ByteArray.size_append]
  show _+9+2≤_
  omega
 ·omega
theorem cd_nm {x:Cd} (h:x.ok=true):x.nm.size≤24:=by
 unfold Cd.ok at h
 split at h
 ·simp only[Bool.and_eq_true]at h;exact bT h.1.1.1
 ·simp only[Bool.and_eq_true]at h;exact bT h.1.1.1.2
theorem cd_ty {x:Cd} (h:x.ok=true):x.ty=1∨x.ty=2:=by
 unfold Cd.ok at h
 split at h
 ·rename_i h1;exact .inl (by simpa using h1)
 ·simp only[Bool.and_eq_true]at h;exact .inr (by simpa using h.1.1.1.1)
theorem rf_nm {x:Rf} (h:x.ok=true):x.tb.size≤24:=by
 unfold Rf.ok at h
 simp only[Bool.and_eq_true]at h
 exact bT h.1.2
theorem key_size (k:List BA):(keyT k).size+2≤100*bkK k:=by
 have a:=aW k
 have b:=sV k
 unfold keyT bkK
 simp only[ByteArray.size_append]
 show 8+_+1+2≤_
 omega
theorem rf_size (x:Rf):x.tx.size+2≤100*jP x:=by
 have a:=aW x.cs
 have b:=sV x.cs
 have e:=aW x.tg
 have f:=sV x.tg
 unfold Rf.tx jP
 simp only[ByteArray.size_append]
 show 13+_+13+_+2+_+1+2≤_
 omega
theorem tx1_size {e:Ex} (h:e.formed=true):(e.tx 1).size+2≤100*e.size:=by
 have:=cK e 1 h
 have:=dX e
 omega
theorem chk_size {e:Ex} (h:e.formed=true):(gK e).size+2≤100*e.size:=by
 have:=cK e 1 h
 have:=dX e
 unfold gK
 simp only[ByteArray.size_append]
 show 7+_+1+2≤_
 omega
theorem gL {l:List Ex} (h:l.all Ex.formed=true):bX (l.map fun e=>e.tx 1)≤100*sizeL l:=by
 rw[←jf]
 exact bb _ _ 100 l fun x a=>tx1_size (List.all_eq_true.1 h x a)
theorem exs_size2 {l:List Ex} (h:l.all Ex.formed=true):bX (l.map fun e=>e.tx 1)≤62*sizeL l:=by
 rw[←jf]
 exact bb _ _ 62 l fun x a=>by have:=cK x 1 (List.all_eq_true.1 h x a);have:=dX x;omega
theorem pJ {l:List Ex} (h:l.all Ex.formed=true):(dV l).size+2≤100*bkR l:=by
 have a:=exs_size2 h
 have b:=aW (l.map fun e=>e.tx 1)
 unfold dV bkR exsT
 simp only[ByteArray.size_append]
 show 1+_+1+2≤_
 omega
theorem pK {x:Asg} (h:x.ok=true):x.tx.size+2≤100*bkA x:=by
 unfold Asg.ok at h
 simp only[Bool.and_eq_true]at h
 have:=cK x.ex 1 h.2
 unfold Asg.tx bkA
 simp only[ByteArray.size_append]
 show _+3+_+2≤_
 omega
theorem uJ (n:Int):(agW n).size≤5:=by
 unfold agW
 exact aO _ _ _ _ (show 5≤5 by omega) (aO _ _ _ _ (show 3≤5 by omega) (aO _ _ _ _ (show 3≤5 by omega) (aO _ _ _ _ (show 3≤5 by omega) (show 0≤5 by omega))))
theorem pL {x:Itm} (h:x.ok=true):x.tx.size+2≤100*bkI x:=by
 have:=dX x.ex
 unfold Itm.ok at h
 unfold Itm.tx bkI
 by_cases a:x.ag=1
 ·rw[if_pos a];show 8+2≤_;omega
 ·rw[if_neg a]
  rw[if_neg (by simpa using a)]at h
  simp only[Bool.and_eq_true]at h
  have:=cK x.ex 1 h.2
  split
  ·omega
  ·have:=uJ x.ag
   simp only[ByteArray.size_append]
   show _+1+_+1+2≤_
   omega
theorem jR (x:Src):x.tx.size+2≤100*bkF x:=by
 unfold Src.tx bkF
 split
 ·omega
 ·simp only[ByteArray.size_append]
  show _+4+_+2≤_
  omega
theorem jS {x:Ord'} (h:x.ok=true):x.tx.size+2≤100*bkO x:=by
 unfold Ord'.ok at h
 rw[dC]at h
 have:=bE x.it (by omega) (by omega)
 unfold Ord'.tx bkO
 split
 ·rw[ByteArray.size_append];show _+5+2≤_;omega
 ·omega
theorem nK {s:St} (h:s.defOk=true):bX s.elts≤100* (sumB iB s.cols+sumB bkK s.keys+sumB jP s.frs+sizeL s.chk):=by
 unfold St.defOk at h
 simp only[Bool.and_eq_true]at h
 unfold St.elts
 rw[mo,mo,mo]
 have e:=bb Cd.tx iB 100 s.cols fun x a=>cd_size (List.all_eq_true.1 h.1.1.1.2 x a)
 have f:=bb keyT bkK 100 s.keys fun x a=>key_size x
 have g:=bb Rf.tx jP 100 s.frs fun x a=>rf_size x
 have b:=bb gK Ex.size 100 s.chk fun x a=>chk_size (List.all_eq_true.1 h.2 x a)
 rw[jf]at b
 omega
def St.sel0 (s:St):BA:=⟨#[83,69,76,69,67,84,32]⟩++s.itT++⟨#[32,70,82,79,77,32]⟩++cma (s.frm.map Src.tx)++s.whT
def St.sel1 (s:St):BA:=if s.grp.length=0 then s.sel0 else s.sel0++(⟨#[32,71,82,79,85,80,32,66,89,32]⟩++exsT s.grp)
def St.sel2 (s:St):BA:=if s.ord.length=0 then s.sel1 else s.sel1++(⟨#[32,79,82,68,69,82,32,66,89,32]⟩++cma (s.ord.map Ord'.tx))
def St.sel (s:St):BA:=if 0<s.lim then s.sel2++(⟨#[32,76,73,77,73,84,32]⟩++itoB s.lim)else s.sel2
def St.body (s:St):BA:=
 if s.kd=1 then ⟨#[67,82,69,65,84,69,32,84,65,66,76,69,32]⟩++s.tb++⟨#[32,40]⟩++cma s.elts++⟨#[41]⟩
 else if s.kd=2 then ⟨#[73,78,83,69,82,84,32,73,78,84,79,32]⟩++s.tb++⟨#[32,86,65,76,85,69,83,32]⟩++cma (s.vals.map dV)
 else if s.kd=3 then ⟨#[85,80,68,65,84,69,32]⟩++s.tb++⟨#[32,83,69,84,32]⟩++cma (s.sets.map Asg.tx)++s.whT
 else if s.kd=4 then fX++s.tb++s.whT
 else if s.kd=5 then s.sel
 else if s.kd=6 then ⟨#[66,69,71,73,78]⟩else if s.kd=7 then ⟨#[67,79,77,77,73,84]⟩else if s.kd=8 then ⟨#[82,79,76,76,66,65,67,75]⟩
 else if s.kd=9 then ⟨#[83,65,86,69,80,79,73,78,84,32]⟩++s.nm else if s.kd=10 then ⟨#[82,79,76,76,66,65,67,75,32,84,79,32]⟩++s.nm else ⟨#[82,69,76,69,65,83,69,32]⟩++s.nm
structure St.Fits (s:St):Prop where
 itms:∀x∈s.itms,x.ex.size≤1000
 whr:s.whr.size≤1000
 grp:sizeL s.grp≤1000
 vals:∀l∈s.vals,sizeL l≤1000
 sets:∀x∈s.sets,x.ex.size≤1000
 chk:sizeL s.chk≤1000
theorem pM {e:Ex} {l:List Ex} (h:e∈l):e.nodes≤nodesL l:=by
 induction l with
 |nil=>cases h
 |cons a l ih=>
  rw[nodesL]
  rcases List.mem_cons.1 h with rfl|h
  ·omega
  ·have:=ih h;omega
theorem kJ {l:List Ex} (h:l.all Ex.formed=true):nodesL l=sizeL l:=by
 induction l with
 |nil=>rfl
 |cons a l ih=>
  rw[all_cons,Bool.and_eq_true]at h
  rw[nodesL,sizeL,fS a h.1,ih h.2]
theorem ou {e:Ex} (h:e.absent=true):e.size=1:=by
 cases e with
 |mk d ks=>
  unfold Ex.absent at h
  simp only[Bool.and_eq_true,isEmpty_iff]at h
  have a:ks= []:=h.2
  subst a
  rw[Ex.size];rfl
theorem sz_of {e:Ex} {n:Nat} (h:e.formed=true∨e.absent=true) (b:e.nodes≤n) (a:1≤n):e.size≤n:=by
 rcases h with h|h
 ·rw[←fS e h];exact b
 ·rw[ou h];exact a
theorem gM {s:St} (h:s.formed=true):s.whr.absent=true∨s.whr.formed=true:=by
 unfold St.formed at h
 dsimp only at h
 simp only[Bool.and_eq_true,Bool.or_eq_true]at h
 rcases h.1.1.1.1.1.1.2 with h|h
 ·exact .inl h
 ·exact .inr h.2
theorem eq {α:Type} {l:List α} (h:l.length=0):l= []:=eq_nil_of_length_eq_zero h
theorem cu {s:St} (h:s.formed=true):(1≤s.kd∧s.kd≤11)∧(s.kd=1→s.defOk=true)∧(s.kd≠1→s.chk= [])∧(s.kd=2→s.vals.all rowOk=true)∧(s.kd≠2→s.vals= [])∧(s.kd=3→s.sets.all Asg.ok=true)∧(s.kd≠3→s.sets= [])∧
  (s.kd=5→s.qOk=true)∧(s.kd≠5→s.itms= []∧s.grp= []):=by
 unfold St.formed at h
 dsimp only at h
 simp only[Bool.and_eq_true,decide_eq_true_eq]at h
 obtain⟨⟨⟨⟨⟨⟨⟨⟨⟨⟨⟨⟨k,l⟩,_⟩,_⟩,_⟩,_⟩,_⟩,f⟩,g⟩,i⟩,_⟩,j⟩,a⟩:=h
 refine⟨⟨k,l⟩,fun e=>?_,fun e=>?_,fun e=>?_,fun e=>?_,fun e=>?_,fun e=>?_,fun e=>?_,fun e=>?_⟩
 ·rw[if_pos e]at a;exact a
 ·have b:(s.kd==1)=false:=by simpa using e
  rw[b]at f
  have f:s.noDef=true:=by simpa using f
  unfold St.noDef at f
  exact eq (by have:=of_decide_eq_true f;omega)
 ·rw[if_neg (by omega),if_pos e]at a;exact a
 ·have b:(s.kd==2)=false:=by simpa using e
  rw[b]at g
  exact eq (by simpa using g)
 ·rw[if_neg (by omega),if_neg (by omega),if_pos e]at a;exact a
 ·have b:(s.kd==3)=false:=by simpa using e
  rw[b]at i
  exact eq (by simpa using i)
 ·rw[if_neg (by omega),if_neg (by omega),if_neg (by omega),if_pos e]at a;exact a
 ·have b:(s.kd==5)=false:=by simpa using e
  rw[b]at j
  simp only[Bool.false_or,Bool.and_eq_true,decide_eq_true_eq]at j
  exact⟨eq (by omega),eq (by omega)⟩
theorem uK {l:List Ex} {L:List (List Ex)} (h:l∈L):nodesL l≤nodesL L.flatten:=by
 induction L with
 |nil=>cases h
 |cons a L ih=>
  rw[flatten_cons,dc]
  rcases List.mem_cons.1 h with rfl|h
  ·omega
  ·have:=ih h;omega
theorem sW {s:St} (h:s.formed=true) (p:nodesL s.all≤400):s.Fits:=by
 have f:=cu h
 have y:=gM h
 have a:∀e∈s.all,e.nodes≤400:=fun e o=>Nat.le_trans (pM o) p
 unfold St.all at p a
 simp only[dc]at p
 refine⟨fun x g=>?_,?_,?_,fun l n=>?_,fun x g=>?_,?_⟩
 ·by_cases m:s.kd=5
  ·have j:=f.2.2.2.2.2.2.2.1 m
   unfold St.qOk at j
   simp only[Bool.and_eq_true]at j
   have b:=List.all_eq_true.1 j.1.1.1.1.1 x g
   unfold Itm.ok at b
   have i:x.ex.nodes≤400:=a _ (by simp only[mem_append];exact .inl (.inr (mem_map_of_mem g)))
   refine Nat.le_trans (sz_of ?_ i (by omega)) (by omega)
   split at b
   ·exact .inr b
   ·simp only[Bool.and_eq_true]at b;exact .inl b.2
  ·rw[(f.2.2.2.2.2.2.2.2 m).1]at g;cases g
 ·exact Nat.le_trans (sz_of y.symm (a _ (by simp)) (by omega)) (by omega)
 ·by_cases m:s.kd=5
  ·have j:=f.2.2.2.2.2.2.2.1 m
   unfold St.qOk at j
   simp only[Bool.and_eq_true]at j
   have w:s.grp.all Ex.formed=true:=List.all_eq_true.2 fun e o=>by
    have:=List.all_eq_true.1 j.1.1.2 e o
    unfold gJ at this
    simp only[Bool.and_eq_true]at this
    exact this.2
   rw[←kJ w];omega
  ·rw[(f.2.2.2.2.2.2.2.2 m).2];exact Nat.zero_le _
 ·by_cases t:s.kd=2
  ·have k:=List.all_eq_true.1 (f.2.2.2.1 t) l n
   unfold rowOk at k
   simp only[Bool.and_eq_true]at k
   rw[←kJ k.2]
   have:nodesL l≤nodesL s.vals.flatten:=uK n
   omega
  ·rw[f.2.2.2.2.1 t]at n;cases n
 ·by_cases u:s.kd=3
  ·have k:=List.all_eq_true.1 (f.2.2.2.2.2.1 u) x g
   unfold Asg.ok at k
   simp only[Bool.and_eq_true]at k
   have i:x.ex.nodes≤400:=a _ (by simp only[mem_append];exact .inl (.inl (.inr (mem_map_of_mem g))))
   exact Nat.le_trans (sz_of (.inl k.2) i (by omega)) (by omega)
  ·rw[f.2.2.2.2.2.2.1 u]at g;cases g
 ·by_cases r:s.kd=1
  ·have hd:=f.2.1 r
   unfold St.defOk at hd
   simp only[Bool.and_eq_true]at hd
   rw[←kJ hd.2]
   omega
  ·rw[f.2.2.1 r];exact Nat.zero_le _
def allS {α:Type} (f:α→α→Bool):List α→List α→Bool
 | [],[]=>true
 |x::l,y::m=>f x y&&allS f l m
 |_,_=>false
def STo {α:Type} (f:α→α→Bool) (l m:List α) (k:Nat):Prop:=∀(i:Nat),i<k→∀(x y:α),l[i]? =some x→m[i]? =some y→f x y=true
theorem STo.zero {α:Type} (f:α→α→Bool) (l m:List α):STo f l m 0:=fun i hi=>by omega
def sN (a b:BA):Bool:=N a==N b
def Src.same (a b:Src):Bool:=sN a.tb b.tb&&sN a.al b.al
def Ord'.same (a b:Ord'):Bool:=a.it==b.it&&a.ds==b.ds
def Cd.same (a b:Cd):Bool:=sN a.nm b.nm&& (a.ty==b.ty&& (a.lo==b.lo&& (a.hi==b.hi&& (a.mx==b.mx&&a.nn==b.nn))))
def Rf.same (a b:Rf):Bool:=sN a.tb b.tb&&allS sN a.cs b.cs&&allS sN a.tg b.tg
def Asg.same (a b:Asg):Bool:=sN a.cl b.cl&&a.ex.same b.ex
def Itm.same (a b:Itm):Bool:=a.ag==b.ag&&a.ex.same b.ex
structure SB where
 kd:Bool
 tb:Bool
 nm:Bool
 lim:Bool
 whr:Bool
 frm:Bool
 ord:Bool
 grp:Bool
 vals:Bool
 sets:Bool
 itms:Bool
 cols:Bool
 keys:Bool
 frs:Bool
 chk:Bool
def St.sb (a b:St):SB:=
 ⟨a.kd==b.kd,sN a.tb b.tb,sN a.nm b.nm,a.lim==b.lim,a.whr.same b.whr,allS Src.same a.frm b.frm,allS Ord'.same a.ord b.ord,sameL a.grp b.grp,allS sameL a.vals b.vals,allS Asg.same a.sets b.sets,allS Itm.same a.itms b.itms,allS Cd.same a.cols b.cols,allS (allS sN) a.keys b.keys,allS Rf.same a.frs b.frs,sameL a.chk b.chk⟩
def SB.all (x:SB):Bool:=x.kd&&x.tb&&x.nm&&x.lim&&x.whr&&x.frm&&x.ord&&x.grp&&x.vals&&x.sets&&x.itms&&x.cols&&x.keys&&x.frs&&x.chk
def St.same (a b:St):Bool:=(a.sb b).all
end Go.Proofs.YtjigcpfjhfoheaaGreatDoor
