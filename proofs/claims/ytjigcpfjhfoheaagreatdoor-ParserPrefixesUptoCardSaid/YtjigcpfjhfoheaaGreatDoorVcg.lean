/- Plain laws over the pure lexer: offsets shifted, two strings joined, the case of letters; Plain laws over the pure lexer: offsets, names, literals, numbers; Walks over the lexer: literals, written and read, the program's and the r. -/
import Derived.Test.YtjigcpfjhfoheaaGreatDoorVab
import Derived.Test.YtjigcpfjhfoheaaGreatDoorShelf
import Derived.Deep.Slices
import Derived.Deep.Fields
import Derived.ChangeSame
import Derived.ProofKit
import Derived.OpenShut
import Derived.ShutString
import Derived.Lib.SmallJoins
import Derived.Test.YtjigcpfjhfoheaaGreatDoorRows
import Derived.Test.YtjigcpfjhfoheaaGreatDoorVba
namespace Go.Proofs.YtjigcpfjhfoheaaGreatDoor
open Go.RowKit List Go.Proofs.Tryz
set_option maxHeartbeats 4000000
set_option maxRecDepth 100000
set_option linter.unusedVariables false
set_option linter.unusedSimpArgs false
namespace Lx
theorem T_skip (l a:List UInt8) (p b:Nat) (e:l.drop (skipN false l)=a.drop (skipN false a)) (f:p+skipN false l=b+skipN false a):T l p=T a b:=by
 rw[T_eq l p,T_eq a b,e,f]
end Lx
namespace Lx
theorem low_word (c:UInt8) (h:lowW c=true):inWord c=true∧loC c=c:=by
 constructor
 ·unfold lowW at h
  unfold inWord isLetter
  grind
 ·apply num_ext
  have a:=loC_num c
  unfold lowW isDigit at h
  split at a
  ·grind
  ·exact a
theorem letter_skip (c:UInt8) (r:List UInt8) (h:isLetter c=true):skipN false (c::r)=0:=by
 rw[skipN]
 unfold isLetter at h
 rw[if_neg (by grind),if_neg (by grind)]
theorem kw_letters:∀k∈kwNames,k≠[]∧∀c∈k,isLetter c=true:=by
 have:(kwNames.all fun k=>!k.isEmpty&&k.all isLetter)=true:=by decide
 intro k a
 have h:=List.all_eq_true.1 this k a
 rw[Bool.and_eq_true,all_eq_true]at h
 refine⟨?_,h.2⟩
 rintro rfl
 exact absurd h.1 (by decide)
end Lx
namespace Lx
theorem flat_quo:∀l:List UInt8,flat l=quo l
 | []=>rfl
 |c::r=>by
  rw[flat,quo,flat_quo r]
  by_cases h:c.toNat=39
  ·obtain rfl:c=39:=num_ext c 39 h
   rw[if_pos h,if_pos rfl]
  ·rw[if_neg h,if_neg (fun e=>h (by rw[e];rfl))]
end Lx
section
open Go.ChangeShapes Go.WideShapes Go.Deep Go.RowKit
theorem cellsE:prog.cellsOf 37=8:=by kernel_rfl
theorem cellsV:prog.cellsOf 35=3:=by kernel_rfl
theorem cellsI:prog.cellsOf 3=1:=by kernel_rfl
theorem cellsI6:prog.cellsOf 2=1:=by kernel_rfl
theorem cellsS:prog.cellsOf 9=1:=by kernel_rfl
theorem cellsL:prog.cellsOf 27=1:=by kernel_rfl
theorem rS {w:World} {a:Addr} {v:Value} (b:w.cell? a=some v):a.spot=none:=by
 unfold World.cell? at b
 split at b
 ·split at b
  ·cases b
  ·rename_i h;simpa using h
 ·cases b
theorem list8 {α:Type} {l:List α} (h:l.length=8):∃c0 c1 c2 c3 c4 c5 c6 c7,l= [c0,c1,c2,c3,c4,c5,c6,c7]:=by
 match l,h with
 | [c0,c1,c2,c3,c4,c5,c6,c7],_=>exact⟨c0,c1,c2,c3,c4,c5,c6,c7,rfl⟩
theorem eW {α:Type} {l:List α} {i n:Nat} (h:l.length=n) (hi:i<n):∃x,l[i]? =some x:=⟨l[i]'(by omega),getElem?_eq_getElem (by omega)⟩
end
section
open Go.ChangeShapes Go.WideShapes Go.Deep Go.RowKit
mutual
def Ex.room:Ex→Prop
 | .mk _ ks=>ks.length*104≤140737488351232∧roomL ks
def roomL:List Ex→Prop
 | []=>True
 |e::es=>e.room∧roomL es
end
theorem roomL_iff (l:List Ex):roomL l↔∀e∈l,e.room:=by
 induction l with
 |nil=>simp[roomL]
 |cons e l ih=>simp[roomL,ih]
theorem bytesE:prog.bytesOf 37=104:=by kernel_rfl
theorem six_map {α β:Type} {g:List (α×β)} {n o p r s t:α×β} (h:g[0]? =some n) (i:g[1]? =some o) (j:g[2]? =some p) (k:g[3]? =some r) (l:g[4]? =some s) (m:g[5]? =some t) (u:g.length=6):
  g.map (·.1)= [n.1,o.1,p.1,r.1,s.1,t.1]:=by
 match g,u with
 | [a,b,c,d,e,f],_=>simp at h i j k l m;subst h i j k l m;rfl
section
variable {H:Type}
theorem agg_bulk (a b e f g y:DataW H):Rows.uptoBulk (.agg [a,b,e,f,g,y])=Rows.uptoBulk a+(Rows.uptoBulk b+(Rows.uptoBulk e+(Rows.uptoBulk f+(Rows.uptoBulk g+Rows.uptoBulk y))))+1:=by
 simp[Rows.uptoBulk,Rows.uptoBulkAll]
theorem vI (a b e f g y:DataW H):(DataW.agg [a,b,e,f,g,y]).weights prog 37=a.weights prog 3++(b.weights prog 9++(e.weights prog 9++(f.weights prog 3++(g.weights prog 35++y.weights prog 27)))):=by
 rw[DataW.weights,underlying37]
 simp[DataW.weightsEach]
theorem vJ {f:Nat→Ex} {len i:Nat} {e:Ex} (a:((List.range len).map f)[i]? =some e):i<len∧e=f i:=by
 rw[getElem?_map]at a
 have b:i<len:=by
  by_cases h:i<len
  ·exact h
  ·rw[getElem?_eq_none (by simp;omega)]at a;cases a
 rw[getElem?_range b]at a
 simp only[Option.map_some,Option.some.injEq]at a
 exact⟨b,a.symm⟩
theorem size_of:∀ {l:List Ex} {m:List (DataW H)},l.length=m.length→(∀(i:Nat) (e:Ex) (z:DataW H),l[i]? =some e→m[i]? =some z→e.size≤Rows.uptoBulk z)→sizeL l≤Rows.uptoBulkAll m:=by
 intro l
 induction l with
 |nil=>intro m _ _;rw[sizeL];omega
 |cons e l ih=>
  intro m a h
  cases m with
  |nil=>cases a
  |cons z m=>
   have g:=h 0 e z rfl rfl
   have j:=ih (m:=m) (by simpa using a) fun i e z b f=>h (i+1) e z (by simpa using b) (by simpa using f)
   rw[sizeL,Rows.uptoBulkAll]
   omega
theorem qv {P:Program} {t:TypeId} :∀ {m:List (DataW H)} {i:Nat} {z:DataW H} {v:Nat},m[i]? =some z→v∈z.weights P t→v∈DataW.weightsAll P t m:=by
 intro m
 induction m with
 |nil=>intro i z v h;simp at h
 |cons a m ih=>
  intro i z v h b
  rw[DataW.weightsAll,mem_append]
  cases i with
  |zero=>simp at h;subst h;exact .inl b
  |succ i=>exact .inr (ih (by simpa using h) b)
theorem room_of {d:Nd} {l:List Ex} {g rest:List (DataW H×List MemPlace)} {a b c e f:List Nat} (o:g.length=l.length) (j:∀v∈a++(b++(c++(e++(f++(DataW.slice (g.map (·.1)) (rest.map (·.1))).weights prog 27)))),v≤reachBytes)
  (h:∀(i:Nat) (x:Ex) (z:DataW H×List MemPlace),l[i]? =some x→g[i]? =some z→(∀v∈z.1.weights prog 37,v≤reachBytes)→x.room):(Ex.mk d l).room:=by
 rw[DataW.weights,underlying27]at j
 dsimp only at j
 rw[bytesE]at j
 simp only[length_map]at j
 rw[Ex.room,roomL_iff]
 refine⟨?_,fun x n=>?_⟩
 ·have:=j ((g.length+rest.length)*104) (by simp)
  unfold reachBytes at this
  omega
 ·obtain⟨i,hi,rfl⟩:=getElem_of_mem n
  refine h i _ (g[i]'(by omega)) (getElem?_eq_getElem hi) (getElem?_eq_getElem (by omega)) fun v k=>j v ?_
  have:=qv (m:=g.map (·.1)) (i:=i) (by rw[getElem?_map,getElem?_eq_getElem (by omega)];rfl) k
  simp only[mem_append,mem_cons]
  exact .inr (.inr (.inr (.inr (.inr (.inr (.inl this))))))
end
section
variable {H:Type} {enc:TypeId×Value→H} {w:World} {spare:Nat→Bool} {held:Bool} {base:Nat}
theorem open_nd2 {e:Nat} {cs:LV} {x:DataW H×List MemPlace} (h:DataW.trod enc prog w base spare held e 37 cs=some x):
  ∃(d:Nd) (c7:Value) (n:Nat) (y:DataW H×List MemPlace),e=n+1∧d.fit∧cs= [i4 d.op,.string d.tb,.string d.nm,i4 d.ix,i4 d.vk,i4 d.vi,.string d.vt,c7]∧DataW.trod enc prog w base spare held n 27 [c7]=some y∧∃p0 p1 p2 p3 p4,x.1= .agg [p0,p1,p2,p3,p4,y.1]:=by
 obtain⟨xs,n,rfl,s,hl,a,f⟩:=DataW.trod_struct underlying37 h
 obtain⟨c0,c1,c2,c3,c4,c5,c6,c7,rfl⟩:=list8 (hl.trans cellsE)
 have a:xs.length=6:=a
 obtain⟨V,g⟩:=eW a (i:=0) (by omega)
 obtain⟨W,j⟩:=eW a (i:=1) (by omega)
 obtain⟨X,k⟩:=eW a (i:=2) (by omega)
 obtain⟨Y,l⟩:=eW a (i:=3) (by omega)
 obtain⟨Z,o⟩:=eW a (i:=4) (by omega)
 obtain⟨x5,p⟩:=eW a (i:=5) (by omega)
 have I:DataW.trod enc prog w base spare held n 3 (List.take (prog.cellsOf 3) (List.drop 0 [c0,c1,c2,c3,c4,c5,c6,c7]))=some V:=(f 0 _ rfl).trans g
 have J:DataW.trod enc prog w base spare held n 9 (List.take (prog.cellsOf 9) (List.drop 1 [c0,c1,c2,c3,c4,c5,c6,c7]))=some W:=(f 1 _ rfl).trans j
 have K:DataW.trod enc prog w base spare held n 9 (List.take (prog.cellsOf 9) (List.drop 2 [c0,c1,c2,c3,c4,c5,c6,c7]))=some X:=(f 2 _ rfl).trans k
 have L:DataW.trod enc prog w base spare held n 3 (List.take (prog.cellsOf 3) (List.drop 3 [c0,c1,c2,c3,c4,c5,c6,c7]))=some Y:=(f 3 _ rfl).trans l
 have O:DataW.trod enc prog w base spare held n 35 (List.take (prog.cellsOf 35) (List.drop 4 [c0,c1,c2,c3,c4,c5,c6,c7]))=some Z:=(f 4 _ rfl).trans o
 have P:DataW.trod enc prog w base spare held n 27 (List.take (prog.cellsOf 27) (List.drop 7 [c0,c1,c2,c3,c4,c5,c6,c7]))=some x5:=(f 5 _ rfl).trans p
 simp only[cellsI,cellsS,cellsV,cellsL,drop_zero,drop_succ_cons,take_succ_cons,take_zero]at I J K L O P
 obtain⟨a0,A,_,w0⟩:=DataW.trod_int underlying3 I
 obtain⟨a1,B,_,w1⟩:=DataW.trod_string underlying9 J
 obtain⟨a2,C,_,w2⟩:=DataW.trod_string underlying9 K
 obtain⟨a3,D,_,w3⟩:=DataW.trod_int underlying3 L
 obtain⟨ys,m,rfl,_,_,b,r⟩:=DataW.trod_struct underlying35 O
 have b:ys.length=3:=b
 obtain⟨y0,t⟩:=eW b (i:=0) (by omega)
 obtain⟨y1,u⟩:=eW b (i:=1) (by omega)
 obtain⟨y2,z⟩:=eW b (i:=2) (by omega)
 have E:DataW.trod enc prog w base spare held m 3 (List.take (prog.cellsOf 3) (List.drop 0 [c4,c5,c6]))=some y0:=(r 0 _ rfl).trans t
 have F:DataW.trod enc prog w base spare held m 2 (List.take (prog.cellsOf 2) (List.drop 1 [c4,c5,c6]))=some y1:=(r 1 _ rfl).trans u
 have G:DataW.trod enc prog w base spare held m 9 (List.take (prog.cellsOf 9) (List.drop 2 [c4,c5,c6]))=some y2:=(r 2 _ rfl).trans z
 simp only[cellsI,cellsI6,cellsS,drop_zero,drop_succ_cons,take_succ_cons,take_zero]at E F G
 obtain⟨b0,Q,_,v0⟩:=DataW.trod_int underlying3 E
 obtain⟨b1,R,_,v1⟩:=DataW.trod_int underlying2 F
 obtain⟨b2,U,_,v2⟩:=DataW.trod_string underlying9 G
 simp only[List.cons.injEq,and_true]at A B C D Q R U
 subst A B C D Q R U
 refine⟨⟨a0,a1,a2,a3,b0,b1,b2⟩,c7,m+1,x5,rfl,⟨bounds_i64 w0,bounds_i64 w3,bounds_i64 v0,bounds_i64 v1,?_,?_,?_⟩,rfl,P,V.1,W.1,X.1,Y.1,Z.1,by rw[s];exact congrArg DataW.agg (six_map g j k l o p a)⟩
 ·exact Nat.le_trans w1 (by unfold maxLen;omega)
 ·exact Nat.le_trans w2 (by unfold maxLen;omega)
 ·exact Nat.le_trans v2 (by unfold maxLen;omega)
theorem mG:∀(k:Nat) (cs:LV) (x:DataW H×List MemPlace),DataW.trod enc prog w base spare held k 37 cs=some x→∃e:Ex,ExC w e cs∧((∀v∈x.1.weights prog 37,v≤reachBytes)→e.room)∧e.size≤Rows.uptoBulk x.1:=by
 intro k
 induction k using Nat.strongRecOn with
 |ind k ih=>
  intro cs x h
  obtain⟨d,c7,n,y,rfl,hd,rfl,W,p0,p1,p2,p3,p4,O⟩:=open_nd2 h
  rw[O,agg_bulk]
  rcases DataW.trod_slice underlying27 W with ⟨h7,_⟩|⟨a,len,cap,elems,rest,m,rfl,h7,hy,_,hl,hm,hlen,hel,_,_⟩
  ·simp only[List.cons.injEq,and_true]at h7
   subst h7
   refine⟨.mk d [],by rw[ExC];exact⟨hd,Nat.zero_le _,none,0,rfl,trivial⟩,fun _=>⟨by simp,trivial⟩,?_⟩
   rw[Ex.size,sizeL];omega
  ·simp only[List.cons.injEq,and_true]at h7
   subst h7
   have Y:∀i,∃e:Ex,i<len→∃g,(∀j,j<8→w.cell? ((a.add (i*8)).add j)=g[j]?)∧g.length=8∧ExC w e g∧∃z,elems[i]? =some z∧((∀v∈z.1.weights prog 37,v≤reachBytes)→e.room)∧e.size≤Rows.uptoBulk z.1:=by
    intro i
    by_cases hi:i<len
    ·have p:=hel i hi
     obtain⟨z,D⟩:=eW hlen hi
     rw[D,cellsE,Option.bind_eq_some_iff]at p
     obtain⟨g,X,Z⟩:=p
     obtain⟨_,F,B⟩:=World.cells?_some X
     obtain⟨e,J,K,L⟩:=ih m (by omega) g z Z
     exact⟨e,fun _=>⟨g,B,F,J,z,D,K,L⟩⟩
    ·exact⟨exZ,fun h=>absurd h hi⟩
   obtain⟨f,s⟩:=Classical.axiomOfChoice Y
   refine⟨.mk d ((List.range len).map f),?_,?_,?_⟩
   rotate_left
   ·intro A
    rw[vI,hy]at A
    exact room_of (by simpa using hlen) A fun i e z' p t=>by
     obtain⟨r,rfl⟩:=vJ p
     obtain⟨g,_,_,_,z,D,I,_⟩:=s i r
     obtain rfl:=Option.some.inj (D.symm.trans t)
     exact I
   ·rw[hy,Ex.size]
    have:=size_of (l:=(List.range len).map f) (m:=elems.map (·.1)) (by simp[hlen]) fun i e z' p t=>by
     obtain⟨r,rfl⟩:=vJ p
     obtain⟨g,_,_,_,z,D,_,I⟩:=s i r
     rw[getElem?_map,D]at t
     obtain rfl:=Option.some.inj t
     exact I
    simp only[Rows.uptoBulk]
    omega
   rw[ExC]
   refine⟨hd,by simp;unfold maxLen at hm;omega,some a,cap,by simp[Nd.cells],?_⟩
   rw[dO]
   intro j e p
   rw[getElem?_map]at p
   have r:j<len:=by
    by_cases h:j<len
    ·exact h
    ·rw[getElem?_eq_none (by simp;omega)]at p;cases p
   rw[getElem?_range r]at p
   simp only[Option.map_some,Option.some.injEq]at p
   subst p
   obtain⟨g,B,F,J,_⟩:=s j r
   have G:a.spot=none:=by
    obtain⟨U,E,P,_⟩:=s 0 (by omega)
    have R:=E 0 (by omega)
    have V:(a.add (0*8)).add 0=a:=by simp[Addr.add]
    rw[V,getElem?_eq_getElem (by omega)]at R
    exact rS R
   obtain⟨b,C,sp⟩:=a
   dsimp only at G
   subst G
   have u:∀(o j:Nat),(⟨b,o,none⟩:Addr).add j=⟨b,o+j,none⟩:=fun o j=>by unfold Addr.add;split<;>simp_all
   refine⟨g,⟨b,C,rfl,fun i v Q=>?_⟩,J⟩
   have hi:i<8:=by have:=(List.getElem?_eq_some_iff.1 Q).1;omega
   have:=B i hi
   rw[u,u,Q]at this
   rw[show C+(0+j)*8+i=C+j*8+i by omega]
   exact this
end
end
section
open Go.ChangeShapes Go.WideShapes Go.Deep Go.RowKit
theorem sumB_size (l:List Ex):sumB Ex.size l=sizeL l:=by
 induction l with
 |nil=>rfl
 |cons e l ih=>rw[sumB,sizeL,ih]
theorem lst2 {α:Type} {l:List α} (h:l.length=2):∃c0 c1,l= [c0,c1]:=by
 match l,h with
 | [c0,c1],_=>exact⟨c0,c1,rfl⟩
theorem lst3 {α:Type} {l:List α} (h:l.length=3):∃c0 c1 c2,l= [c0,c1,c2]:=by
 match l,h with
 | [c0,c1,c2],_=>exact⟨c0,c1,c2,rfl⟩
theorem lst4 {α:Type} {l:List α} (h:l.length=4):∃c0 c1 c2 c3,l= [c0,c1,c2,c3]:=by
 match l,h with
 | [c0,c1,c2,c3],_=>exact⟨c0,c1,c2,c3,rfl⟩
theorem lst6 {α:Type} {l:List α} (h:l.length=6):∃c0 c1 c2 c3 c4 c5,l= [c0,c1,c2,c3,c4,c5]:=by
 match l,h with
 | [c0,c1,c2,c3,c4,c5],_=>exact⟨c0,c1,c2,c3,c4,c5,rfl⟩
theorem lst9 {α:Type} {l:List α} (h:l.length=9):∃c0 c1 c2 c3 c4 c5 c6 c7 a,l= [c0,c1,c2,c3,c4,c5,c6,c7,a]:=by
 match l,h with
 | [c0,c1,c2,c3,c4,c5,c6,c7,a],_=>exact⟨c0,c1,c2,c3,c4,c5,c6,c7,a,rfl⟩
theorem lst10 {α:Type} {l:List α} (h:l.length=10):∃c0 c1 c2 c3 c4 c5 c6 c7 a b,l= [c0,c1,c2,c3,c4,c5,c6,c7,a,b]:=by
 match l,h with
 | [c0,c1,c2,c3,c4,c5,c6,c7,a,b],_=>exact⟨c0,c1,c2,c3,c4,c5,c6,c7,a,b,rfl⟩
theorem lst12 {α:Type} {l:List α} (h:l.length=12):∃c0 c1 c2 c3 c4 c5 c6 c7 e f a b,l= [c0,c1,c2,c3,c4,c5,c6,c7,e,f,a,b]:=by
 match l,h with
 | [c0,c1,c2,c3,c4,c5,c6,c7,e,f,a,b],_=>exact⟨c0,c1,c2,c3,c4,c5,c6,c7,e,f,a,b,rfl⟩
theorem lst22 {α:Type} {l:List α} (h:l.length=22):∃c0 c1 c2 c3 c4 c5 c6 c7 r s a b e f g i j k m n o p,l= [c0,c1,c2,c3,c4,c5,c6,c7,r,s,a,b,e,f,g,i,j,k,m,n,o,p]:=by
 match l,h with
 | [c0,c1,c2,c3,c4,c5,c6,c7,r,s,a,b,e,f,g,i,j,k,m,n,o,p],_=>exact⟨c0,c1,c2,c3,c4,c5,c6,c7,r,s,a,b,e,f,g,i,j,k,m,n,o,p,rfl⟩
theorem qw:prog.cellsOf 3=1:=by kernel_rfl
theorem cl_int64:prog.cellsOf 2=1:=by kernel_rfl
theorem qx:prog.cellsOf 9=1:=by kernel_rfl
theorem cl_bool:prog.cellsOf 4=1:=by kernel_rfl
theorem cl_strs:prog.cellsOf 101=1:=by kernel_rfl
theorem vK:prog.cellsOf 27=1:=by kernel_rfl
theorem tJ:prog.cellsOf 37=8:=by kernel_rfl
theorem cl_cols:prog.cellsOf 24=1:=by kernel_rfl
theorem cl_keys:prog.cellsOf 25=1:=by kernel_rfl
theorem cl_frs:prog.cellsOf 26=1:=by kernel_rfl
theorem cl_rows:prog.cellsOf 30=1:=by kernel_rfl
theorem cl_asgs:prog.cellsOf 31=1:=by kernel_rfl
theorem cl_itms:prog.cellsOf 32=1:=by kernel_rfl
theorem cl_srcs:prog.cellsOf 33=1:=by kernel_rfl
theorem cl_ords:prog.cellsOf 38=1:=by kernel_rfl
theorem cl_def:prog.cellsOf 29=4:=by kernel_rfl
section
variable {H:Type}
theorem dr (d:DataW H):1≤Rows.uptoBulk d:=by
 cases d
 case lit l=>cases l<;>simp only[Rows.uptoBulk] <;> (try omega)
 all_goals (simp only[Rows.uptoBulk];try omega)
theorem sum_of {α:Type} {bk:α→Nat} :∀ {l:List α} {m:List (DataW H)},l.length=m.length→(∀(i:Nat) (e:α) (z:DataW H),l[i]? =some e→m[i]? =some z→bk e≤Rows.uptoBulk z)→sumB bk l≤Rows.uptoBulkAll m:=by
 intro l
 induction l with
 |nil=>intro m _ _;rw[sumB];omega
 |cons e l ih=>
  intro m a h
  cases m with
  |nil=>cases a
  |cons z m=>
   have g:=h 0 e z rfl rfl
   have j:=ih (m:=m) (by simpa using a) fun i e z b f=>h (i+1) e z (by simpa using b) (by simpa using f)
   rw[sumB,Rows.uptoBulkAll]
   omega
end
theorem rV {α:Type} {f:Nat→α} {len i:Nat} {e:α} (a:((List.range len).map f)[i]? =some e):i<len∧e=f i:=by
 rw[getElem?_map]at a
 have b:i<len:=by
  by_cases h:i<len
  ·exact h
  ·rw[getElem?_eq_none (by simp;omega)]at a;cases a
 rw[getElem?_range b]at a
 simp only[Option.map_some,Option.some.injEq]at a
 exact⟨b,a.symm⟩
section
variable {H:Type} {enc:TypeId×Value→H} {w:World} {spare:Nat→Bool} {held:Bool} {base:Nat}
theorem bU {α:Type} [Inhabited α] {T E:TypeId} {sz:Nat} (Y:prog.underlying T=some (.slice E)) (X:prog.cellsOf E=sz) (L:0<sz) (P:α→LV→Prop) (bk:α→Nat)
  (K:∀(k:Nat) (cs:LV) (x:DataW H×List MemPlace),DataW.trod enc prog w base spare held k E cs=some x→∃a,P a cs∧bk a≤Rows.uptoBulk x.1)
  {k:Nat} {v:Value} {x:DataW H×List MemPlace} (h:DataW.trod enc prog w base spare held k T [v]=some x):
  ∃(l:List α) (A:OA) (n c:Nat),v= .slice A n c∧l.length=n∧n≤9223372036854775807∧
   (∀(i:Nat) (a:α),l[i]? =some a→∃cs b p,P a cs∧A=some ⟨b,p,none⟩∧∀(j:Nat) (u:Value),cs[j]? =some u→w.cell? ⟨b,p+i*sz+j,none⟩=some u)∧sumB bk l+1≤Rows.uptoBulk x.1:=by
 rcases DataW.trod_slice Y h with ⟨h7,_⟩|⟨a,len,cap,elems,rest,m,rfl,h7,hy,_,hl,hm,hlen,hel',_,_⟩
 ·simp only[List.cons.injEq,and_true]at h7
  subst h7
  exact⟨[],none,0,0,rfl,rfl,Nat.zero_le _,fun i a Z=>by simp at Z,by rw[sumB];exact dr _⟩
 ·simp only[List.cons.injEq,and_true]at h7
  subst h7
  have hk:∀i,∃e:α,i<len→∃g,(∀j,j<sz→w.cell? ((a.add (i*sz)).add j)=g[j]?)∧g.length=sz∧P e g∧∃z,elems[i]? =some z∧bk e≤Rows.uptoBulk z.1:=by
   intro i
   by_cases hi:i<len
   ·have B:=hel' i hi
    obtain⟨z,I⟩:=eW hlen hi
    rw[I,X,Option.bind_eq_some_iff]at B
    obtain⟨g,hc,ht⟩:=B
    obtain⟨_,D,s⟩:=World.cells?_some hc
    obtain⟨e,J,hb⟩:=K m g z ht
    exact⟨e,fun _=>⟨g,s,D,J,z,I,hb⟩⟩
   ·exact⟨default,fun h=>absurd h hi⟩
  obtain⟨f,t⟩:=Classical.axiomOfChoice hk
  refine⟨(List.range len).map f,some a,len,cap,rfl,by simp,by unfold maxLen at hm;omega,?_,?_⟩
  ·intro i e B
   obtain⟨y,rfl⟩:=rV B
   obtain⟨g,s,D,J,_⟩:=t i y
   have F:a.spot=none:=by
    obtain⟨U,C,O,_⟩:=t 0 (by omega)
    have R:=C 0 L
    have V:(a.add (0*sz)).add 0=a:=by simp[Addr.add]
    rw[V,getElem?_eq_getElem (by omega)]at R
    exact rS R
   obtain⟨b,p,sp⟩:=a
   dsimp only at F
   subst F
   have r:∀(o j:Nat),(⟨b,o,none⟩:Addr).add j=⟨b,o+j,none⟩:=fun o j=>by unfold Addr.add;split<;>simp_all
   refine⟨g,b,p,J,rfl,fun j u Q=>?_⟩
   have hj:j<sz:=by have:=(List.getElem?_eq_some_iff.1 Q).1;omega
   have:=s j hj
   rw[r,r,Q]at this
   exact this
  ·have:=sum_of (bk:=bk) (l:=(List.range len).map f) (m:=elems.map (·.1)) (by simp[hlen]) fun i e z' B G=>by
    obtain⟨y,rfl⟩:=rV B
    obtain⟨g,_,_,_,z,I,W⟩:=t i y
    rw[getElem?_map,I]at G
    obtain rfl:=Option.some.inj G
    exact W
   rw[hy]
   simp only[Rows.uptoBulk]
   omega
theorem qy {T E:TypeId} {b:Nat} {cs:LV} {x:DataW H×List MemPlace} (f:prog.cellsOf T=1) (h:DataW.trod enc prog w base spare held b T cs=some x) (e:prog.underlying T=some (.slice E):=by first|exact underlying101|exact underlying27):∃v,cs= [v]:=by
 rcases DataW.trod_slice e h with ⟨h7,_⟩|⟨a,len,cap,elems,rest,m,rfl,h7,_⟩
 ·exact⟨_,h7⟩
 ·exact⟨_,h7⟩
instance:Inhabited Ex:=⟨exZ⟩
theorem nY {a:Nat} {v:Value} {x:DataW H×List MemPlace} (h:DataW.trod enc prog w base spare held a 101 [v]=some x):
  ∃(l:List BA) (A:OA) (n c:Nat),v= .slice A n c∧l.length=n∧n≤9223372036854775807∧bi w A l∧sumB bkS l+1≤Rows.uptoBulk x.1:=by
 obtain⟨l,A,n,c,g,j,k,m,o⟩:=bU (α:=BA) underlying101 (by kernel_rfl:prog.cellsOf 9=1) (by decide) (fun s cs=>cs= [.string s]∧s.size≤9223372036854775807) bkS (fun a cs x h=>by obtain⟨s,e,y,hs⟩:=DataW.trod_string underlying9 h;exact⟨s,⟨e,Nat.le_trans hs (by unfold maxLen;omega)⟩,by rw[y];simp[Rows.uptoBulk,bkS]⟩) h
 refine⟨l,A,n,c,g,j,k,?_,o⟩
 intro i s hs
 obtain⟨cs,b,f,⟨rfl,t⟩,p,r⟩:=m i s hs
 exact⟨t,b,f,p,by simpa using r 0 _ rfl⟩
theorem lP {a:Nat} {v:Value} {x:DataW H×List MemPlace} (h:DataW.trod enc prog w base spare held a 27 [v]=some x):
  ∃(l:List Ex) (A:OA) (n c:Nat),v= .slice A n c∧l.length=n∧n≤9223372036854775807∧KidsAt w A l∧sizeL l+1≤Rows.uptoBulk x.1:=by
 obtain⟨l,A,n,c,f,g,m,o,p⟩:=bU (α:=Ex) underlying27 (by kernel_rfl:prog.cellsOf 37=8) (by decide) (fun e cs=>ExC w e cs) Ex.size (fun a cs x h=>by obtain⟨e,f,_,g⟩:=mG _ _ _ h;exact⟨e,f,g⟩) h
 refine⟨l,A,n,c,f,g,m,?_,by rw[←sumB_size];exact p⟩
 unfold KidsAt
 rw[dO]
 intro i e y
 obtain⟨cs,b,k,s,r,t⟩:=o i e y
 exact⟨cs,⟨b,k,r,fun j u z=>by rw[Nat.zero_add];exact t j u z⟩,s⟩
theorem open_keys {a:Nat} {v:Value} {x:DataW H×List MemPlace} (h:DataW.trod enc prog w base spare held a 25 [v]=some x):
  ∃(l:List (List BA)) (A:OA) (n c:Nat),v= .slice A n c∧l.length=n∧n≤9223372036854775807∧fL w A l∧sumB bkK l+1≤Rows.uptoBulk x.1:=by
 obtain⟨l,A,n,c,r,j,k,m,o⟩:=bU (α:=(List BA)) underlying25 (by kernel_rfl:prog.cellsOf 101=1) (by decide) (fun l cs=> ∃f e g,cs= [.slice f e g]∧l.length=e∧e≤9223372036854775807∧bi w f l) bkK (fun a cs x h=>by obtain⟨v,rfl⟩:=qy (by kernel_rfl:prog.cellsOf 101=1) h;obtain⟨l,A,n,c,rfl,j,k,m,o⟩:=nY h;exact⟨l,⟨A,n,c,rfl,j,k,m⟩,o⟩) h
 refine⟨l,A,n,c,r,j,k,?_,o⟩
 intro i l y
 obtain⟨cs,b,p,⟨f,e,g,rfl,B,z,u⟩,s,t⟩:=m i l y
 exact⟨b,p,f,e,g,s,by simpa using t 0 _ rfl,B,z,u⟩
theorem open_rows {a:Nat} {v:Value} {x:DataW H×List MemPlace} (h:DataW.trod enc prog w base spare held a 30 [v]=some x):
  ∃(l:List (List Ex)) (A:OA) (n c:Nat),v= .slice A n c∧l.length=n∧n≤9223372036854775807∧(ep w A l∧∀r∈l,r.length≤9223372036854775807)∧sumB bkR l+1≤Rows.uptoBulk x.1:=by
 obtain⟨l,A,n,c,B,m,o,k,p⟩:=bU (α:=List Ex) underlying30 (by kernel_rfl:prog.cellsOf 27=1) (by decide) (fun l cs=> ∃f e j,cs= [.slice f e j]∧l.length=e∧e≤9223372036854775807∧KidsAt w f l) bkR
  (fun a cs x h=>by obtain⟨v,rfl⟩:=qy (by kernel_rfl:prog.cellsOf 27=1) h;obtain⟨l,A,n,c,rfl,m,o,k,p⟩:=lP h;exact⟨l,⟨A,n,c,rfl,m,o,k⟩,p⟩) h
 refine⟨l,A,n,c,B,m,o,⟨?_,?_⟩,p⟩
 ·intro i r s
  obtain⟨cs,b,g,⟨f,e,j,rfl,z,C,y⟩,t,u⟩:=k i r s
  exact⟨b,g,f,e,j,t,by simpa using u 0 _ rfl,z,y⟩
 ·intro r s
  obtain⟨i,hi,rfl⟩:=getElem_of_mem s
  obtain⟨cs,b,g,⟨f,e,j,rfl,z,C,y⟩,t,u⟩:=k i _ (getElem?_eq_getElem hi)
  omega
theorem open_cd {f:Nat} {cs:LV} {x:DataW H×List MemPlace} (h:DataW.trod enc prog w base spare held f 99 cs=some x):
  ∃a:Cd,(cs= [.string a.nm,i4 a.ty,i4 a.lo,i4 a.hi,i4 a.mx,.bool a.nn]∧a.nm.size≤9223372036854775807∧I64 a.ty∧I64 a.lo∧I64 a.hi∧I64 a.mx)∧iB a≤Rows.uptoBulk x.1:=by
 obtain⟨X,n,rfl,g,P,b,e⟩:=DataW.trod_struct underlying99 h
 obtain⟨c0,c1,c2,c3,c4,c5,rfl⟩:=lst6 (P.trans (by kernel_rfl:prog.cellsOf 99=6))
 have b:X.length=6:=b
 obtain⟨i,j,k,l,m,o,rfl⟩:=lst6 b
 have A:DataW.trod enc prog w base spare held n 9 (List.take (prog.cellsOf 9) (List.drop 0 [c0,c1,c2,c3,c4,c5]))=some i:=e 0 _ rfl
 have B:DataW.trod enc prog w base spare held n 3 (List.take (prog.cellsOf 3) (List.drop 1 [c0,c1,c2,c3,c4,c5]))=some j:=e 1 _ rfl
 have C:DataW.trod enc prog w base spare held n 2 (List.take (prog.cellsOf 2) (List.drop 2 [c0,c1,c2,c3,c4,c5]))=some k:=e 2 _ rfl
 have D:DataW.trod enc prog w base spare held n 2 (List.take (prog.cellsOf 2) (List.drop 3 [c0,c1,c2,c3,c4,c5]))=some l:=e 3 _ rfl
 have E:DataW.trod enc prog w base spare held n 3 (List.take (prog.cellsOf 3) (List.drop 4 [c0,c1,c2,c3,c4,c5]))=some m:=e 4 _ rfl
 have F:DataW.trod enc prog w base spare held n 4 (List.take (prog.cellsOf 4) (List.drop 5 [c0,c1,c2,c3,c4,c5]))=some o:=e 5 _ rfl
 simp only[cl_bool,qw,cl_int64,qx,drop_zero,drop_succ_cons,take_succ_cons,take_zero]at A B C D E F
 have O:Rows.uptoBulk x.1=Rows.uptoBulk i.1+Rows.uptoBulk j.1+Rows.uptoBulk k.1+Rows.uptoBulk l.1+Rows.uptoBulk m.1+Rows.uptoBulk o.1+1:=by rw[g];simp[Rows.uptoBulk,Rows.uptoBulkAll];try omega
 obtain⟨p,r,Y,Q⟩:=DataW.trod_string underlying9 A
 have Z:p.size+1≤Rows.uptoBulk i.1:=by rw[Y];simp[Rows.uptoBulk]
 obtain⟨G,s,_,R⟩:=DataW.trod_int underlying3 B
 have p1:=dr j.1
 obtain⟨I,t,_,U⟩:=DataW.trod_int underlying2 C
 have p2:=dr k.1
 obtain⟨J,u,_,V⟩:=DataW.trod_int underlying2 D
 have p3:=dr l.1
 obtain⟨K,y,_,W⟩:=DataW.trod_int underlying3 E
 have p4:=dr m.1
 obtain⟨L,z,_⟩:=DataW.trod_bool underlying4 F
 have p5:=dr o.1
 simp only[List.cons.injEq,and_true]at r s t u y z
 subst r s t u y z
 exact⟨⟨p,G,I,J,K,L⟩,⟨rfl,Nat.le_trans Q (by unfold maxLen;omega),bounds_i64 R,bounds_i64 U,bounds_i64 V,bounds_i64 W⟩,by rw[O];unfold iB;dsimp only;omega⟩
instance:Inhabited Cd:=⟨⟨⟨#[]⟩,0,0,0,0,false⟩⟩
theorem open_cols {e:Nat} {v:Value} {x:DataW H×List MemPlace} (h:DataW.trod enc prog w base spare held e 24 [v]=some x):
  ∃(l:List Cd) (A:OA) (n c:Nat),v= .slice A n c∧l.length=n∧n≤9223372036854775807∧jz w A l∧sumB iB l+1≤Rows.uptoBulk x.1:=by
 obtain⟨l,A,n,c,j,k,m,o,p⟩:=bU (α:=Cd) underlying24 (by kernel_rfl:prog.cellsOf 99=6) (by decide) (fun a cs=>cs= [.string a.nm,i4 a.ty,i4 a.lo,i4 a.hi,i4 a.mx,.bool a.nn]∧a.nm.size≤9223372036854775807∧I64 a.ty∧I64 a.lo∧I64 a.hi∧I64 a.mx) iB (fun e cs x h=>open_cd h) h
 refine⟨l,A,n,c,j,k,m,?_,p⟩
 intro i a s
 obtain⟨cs,b,g,⟨rfl,t⟩,r,f⟩:=o i a s
 exact⟨t,b,g,r,by simpa using f 0 _ rfl,f 1 _ rfl,f 2 _ rfl,f 3 _ rfl,f 4 _ rfl,f 5 _ rfl⟩
theorem open_rf {e:Nat} {cs:LV} {x:DataW H×List MemPlace} (h:DataW.trod enc prog w base spare held e 103 cs=some x):
  ∃a:Rf,(∃m k c1 g f c2,cs= [.slice m k c1,.string a.tb,.slice g f c2]∧a.tb.size≤9223372036854775807∧a.cs.length=k∧k≤9223372036854775807∧bi w m a.cs∧a.tg.length=f∧f≤9223372036854775807∧bi w g a.tg)∧jP a≤Rows.uptoBulk x.1:=by
 obtain⟨V,n,rfl,j,F,b,i⟩:=DataW.trod_struct underlying103 h
 obtain⟨c0,c1,c2,rfl⟩:=lst3 (F.trans (by kernel_rfl:prog.cellsOf 103=3))
 have b:V.length=3:=b
 obtain⟨u,l,y,rfl⟩:=lst3 b
 have r:DataW.trod enc prog w base spare held n 101 (List.take (prog.cellsOf 101) (List.drop 0 [c0,c1,c2]))=some u:=i 0 _ rfl
 have s:DataW.trod enc prog w base spare held n 9 (List.take (prog.cellsOf 9) (List.drop 1 [c0,c1,c2]))=some l:=i 1 _ rfl
 have t:DataW.trod enc prog w base spare held n 101 (List.take (prog.cellsOf 101) (List.drop 2 [c0,c1,c2]))=some y:=i 2 _ rfl
 simp only[qx,cl_strs,drop_zero,drop_succ_cons,take_succ_cons,take_zero]at r s t
 have E:Rows.uptoBulk x.1=Rows.uptoBulk u.1+Rows.uptoBulk l.1+Rows.uptoBulk y.1+1:=by rw[j];simp[Rows.uptoBulk,Rows.uptoBulkAll];try omega
 obtain⟨A,z,P,G,C,J,L,Q,X⟩:=nY r
 subst C
 obtain⟨o,p,W,U⟩:=DataW.trod_string underlying9 s
 have Y:o.size+1≤Rows.uptoBulk l.1:=by rw[W];simp[Rows.uptoBulk]
 obtain⟨B,g,f,I,D,K,O,R,Z⟩:=nY t
 subst D
 simp only[List.cons.injEq,and_true]at p
 subst p
 exact⟨⟨A,o,B⟩,⟨z,P,G,g,f,I,rfl,Nat.le_trans U (by unfold maxLen;omega),J,L,Q,K,O,R⟩,by rw[E];unfold jP;dsimp only;omega⟩
instance:Inhabited Rf:=⟨⟨[],⟨#[]⟩,[]⟩⟩
theorem open_frs {e:Nat} {v:Value} {x:DataW H×List MemPlace} (h:DataW.trod enc prog w base spare held e 26 [v]=some x):
  ∃(l:List Rf) (A:OA) (n c:Nat),v= .slice A n c∧l.length=n∧n≤9223372036854775807∧jA w A l∧sumB jP l+1≤Rows.uptoBulk x.1:=by
 obtain⟨l,A,n,c,s,t,u,y,z⟩:=bU (α:=Rf) underlying26 (by kernel_rfl:prog.cellsOf 103=3) (by decide) (fun a cs=> ∃j f c1 k g c2,cs= [.slice j f c1,.string a.tb,.slice k g c2]∧a.tb.size≤9223372036854775807∧a.cs.length=f∧f≤9223372036854775807∧bi w j a.cs∧a.tg.length=g∧g≤9223372036854775807∧bi w k a.tg) jP (fun e cs x h=>open_rf h) h
 refine⟨l,A,n,c,s,t,u,?_,z⟩
 intro i a G
 obtain⟨cs,b,r,⟨j,f,c1,k,g,c2,rfl,I,o,B,C,D,E,m⟩,F,p⟩:=y i a G
 exact⟨I,b,r,j,f,c1,k,g,c2,F,by simpa using p 0 _ rfl,p 1 _ rfl,p 2 _ rfl,o,B,C,D,E,m⟩
theorem qz {w:World} {e:Ex} {c0 c1 c2 c3 c4 c5 c6 c7:Value} (h:ExC w e [c0,c1,c2,c3,c4,c5,c6,c7]):∃A n c,[c0,c1,c2,c3,c4,c5,c6,c7]=e.d.cells A n c∧ExV w e A n c:=by
 cases e with
 |mk d ks=>
  rw[ExC]at h
  obtain⟨a,b,A,c,f,g⟩:=h
  exact⟨A,ks.length,c,f,⟨rfl,b,a,g⟩⟩
theorem open_asg {e:Nat} {cs:LV} {x:DataW H×List MemPlace} (h:DataW.trod enc prog w base spare held e 82 cs=some x):
  ∃a:Asg,(∃A n c,cs= [.string a.cl,i4 a.ix,i4 a.ex.d.op,.string a.ex.d.tb,.string a.ex.d.nm,i4 a.ex.d.ix,i4 a.ex.d.vk,i4 a.ex.d.vi,.string a.ex.d.vt,.slice A n c]∧ExV w a.ex A n c∧a.cl.size≤9223372036854775807∧I64 a.ix)∧bkA a≤Rows.uptoBulk x.1:=by
 obtain⟨K,n,rfl,k,D,b,j⟩:=DataW.trod_struct underlying82 h
 obtain⟨c0,c1,c2,c3,c4,c5,c6,c7,f,g,rfl⟩:=lst10 (D.trans (by kernel_rfl:prog.cellsOf 82=10))
 have b:K.length=3:=b
 obtain⟨l,m,y,rfl⟩:=lst3 b
 have s:DataW.trod enc prog w base spare held n 9 (List.take (prog.cellsOf 9) (List.drop 0 [c0,c1,c2,c3,c4,c5,c6,c7,f,g]))=some l:=j 0 _ rfl
 have t:DataW.trod enc prog w base spare held n 3 (List.take (prog.cellsOf 3) (List.drop 1 [c0,c1,c2,c3,c4,c5,c6,c7,f,g]))=some m:=j 1 _ rfl
 have u:DataW.trod enc prog w base spare held n 37 (List.take (prog.cellsOf 37) (List.drop 2 [c0,c1,c2,c3,c4,c5,c6,c7,f,g]))=some y:=j 2 _ rfl
 simp only[tJ,qw,qx,drop_zero,drop_succ_cons,take_succ_cons,take_zero]at s t u
 have C:Rows.uptoBulk x.1=Rows.uptoBulk l.1+Rows.uptoBulk m.1+Rows.uptoBulk y.1+1:=by rw[k];simp[Rows.uptoBulk,Rows.uptoBulkAll];try omega
 obtain⟨o,p,L,I⟩:=DataW.trod_string underlying9 s
 have O:o.size+1≤Rows.uptoBulk l.1:=by rw[L];simp[Rows.uptoBulk]
 obtain⟨z,r,_,J⟩:=DataW.trod_int underlying3 t
 have P:=dr m.1
 obtain⟨B,G,_,Q⟩:=mG _ _ _ u
 simp only[List.cons.injEq,and_true]at p r
 subst p r
 obtain⟨A,F,c,i,E⟩:=qz G
 unfold Nd.cells at i
 simp only[List.cons.injEq,and_true]at i
 obtain⟨rfl,rfl,rfl,rfl,rfl,rfl,rfl,rfl⟩:=i
 exact⟨⟨o,z,B⟩,⟨A,F,c,rfl,E,Nat.le_trans I (by unfold maxLen;omega),bounds_i64 J⟩,by rw[C];unfold bkA;dsimp only;omega⟩
instance:Inhabited Asg:=⟨⟨⟨#[]⟩,0,exZ⟩⟩
theorem open_asgs {f:Nat} {v:Value} {x:DataW H×List MemPlace} (h:DataW.trod enc prog w base spare held f 31 [v]=some x):
  ∃(l:List Asg) (A:OA) (n c:Nat),v= .slice A n c∧l.length=n∧n≤9223372036854775807∧fM w A l∧sumB bkA l+1≤Rows.uptoBulk x.1:=by
 obtain⟨l,A,n,c,k,m,o,p,r⟩:=bU (α:=Asg) underlying31 (by kernel_rfl:prog.cellsOf 82=10) (by decide) (fun a cs=> ∃A n c,cs= [.string a.cl,i4 a.ix,i4 a.ex.d.op,.string a.ex.d.tb,.string a.ex.d.nm,i4 a.ex.d.ix,i4 a.ex.d.vk,i4 a.ex.d.vi,.string a.ex.d.vt,.slice A n c]∧ExV w a.ex A n c∧a.cl.size≤9223372036854775807∧I64 a.ix) bkA (fun f cs x h=>open_asg h) h
 refine⟨l,A,n,c,k,m,o,?_,r⟩
 intro i a t
 obtain⟨cs,b,g,⟨j,z,c1,rfl,u,y⟩,s,e⟩:=p i a t
 exact⟨y,b,g,j,z,c1,s,by simpa using e 0 _ rfl,e 1 _ rfl,⟨e 2 _ rfl,e 3 _ rfl,e 4 _ rfl,e 5 _ rfl,e 6 _ rfl,e 7 _ rfl,e 8 _ rfl,e 9 _ rfl,u⟩⟩
theorem open_itm {e:Nat} {cs:LV} {x:DataW H×List MemPlace} (h:DataW.trod enc prog w base spare held e 84 cs=some x):
  ∃a:Itm,(∃A n c,cs= [i4 a.ag,i4 a.ex.d.op,.string a.ex.d.tb,.string a.ex.d.nm,i4 a.ex.d.ix,i4 a.ex.d.vk,i4 a.ex.d.vi,.string a.ex.d.vt,.slice A n c]∧ExV w a.ex A n c∧I64 a.ag)∧bkI a≤Rows.uptoBulk x.1:=by
 obtain⟨D,n,rfl,g,u,b,o⟩:=DataW.trod_struct underlying84 h
 obtain⟨c0,c1,c2,c3,c4,c5,c6,c7,j,rfl⟩:=lst9 (u.trans (by kernel_rfl:prog.cellsOf 84=9))
 have b:D.length=2:=b
 obtain⟨i,p,rfl⟩:=lst2 b
 have l:DataW.trod enc prog w base spare held n 3 (List.take (prog.cellsOf 3) (List.drop 0 [c0,c1,c2,c3,c4,c5,c6,c7,j]))=some i:=o 0 _ rfl
 have m:DataW.trod enc prog w base spare held n 37 (List.take (prog.cellsOf 37) (List.drop 1 [c0,c1,c2,c3,c4,c5,c6,c7,j]))=some p:=o 1 _ rfl
 simp only[tJ,qw,drop_zero,drop_succ_cons,take_succ_cons,take_zero]at l m
 have t:Rows.uptoBulk x.1=Rows.uptoBulk i.1+Rows.uptoBulk p.1+1:=by rw[g];simp[Rows.uptoBulk,Rows.uptoBulkAll];try omega
 obtain⟨r,k,_,C⟩:=DataW.trod_int underlying3 l
 have E:=dr i.1
 obtain⟨s,B,_,F⟩:=mG _ _ _ m
 simp only[List.cons.injEq,and_true]at k
 subst k
 obtain⟨A,z,c,f,y⟩:=qz B
 unfold Nd.cells at f
 simp only[List.cons.injEq,and_true]at f
 obtain⟨rfl,rfl,rfl,rfl,rfl,rfl,rfl,rfl⟩:=f
 exact⟨⟨r,s⟩,⟨A,z,c,rfl,y,bounds_i64 C⟩,by rw[t];unfold bkI;dsimp only;omega⟩
instance:Inhabited Itm:=⟨⟨0,exZ⟩⟩
theorem open_itms {f:Nat} {v:Value} {x:DataW H×List MemPlace} (h:DataW.trod enc prog w base spare held f 32 [v]=some x):
  ∃(l:List Itm) (A:OA) (n c:Nat),v= .slice A n c∧l.length=n∧n≤9223372036854775807∧fN w A l∧sumB bkI l+1≤Rows.uptoBulk x.1:=by
 obtain⟨l,A,n,c,k,m,o,p,r⟩:=bU (α:=Itm) underlying32 (by kernel_rfl:prog.cellsOf 84=9) (by decide) (fun a cs=> ∃A n c,cs= [i4 a.ag,i4 a.ex.d.op,.string a.ex.d.tb,.string a.ex.d.nm,i4 a.ex.d.ix,i4 a.ex.d.vk,i4 a.ex.d.vi,.string a.ex.d.vt,.slice A n c]∧ExV w a.ex A n c∧I64 a.ag) bkI (fun f cs x h=>open_itm h) h
 refine⟨l,A,n,c,k,m,o,?_,r⟩
 intro i a t
 obtain⟨cs,b,g,⟨j,z,c1,rfl,u,y⟩,s,e⟩:=p i a t
 exact⟨y,b,g,j,z,c1,s,by simpa using e 0 _ rfl,⟨e 1 _ rfl,e 2 _ rfl,e 3 _ rfl,e 4 _ rfl,e 5 _ rfl,e 6 _ rfl,e 7 _ rfl,e 8 _ rfl,u⟩⟩
theorem open_src {e:Nat} {cs:LV} {x:DataW H×List MemPlace} (h:DataW.trod enc prog w base spare held e 86 cs=some x):
  ∃a:Src,(cs= [.string a.tb,.string a.al]∧a.tb.size≤9223372036854775807∧a.al.size≤9223372036854775807)∧bkF a≤Rows.uptoBulk x.1:=by
 obtain⟨z,n,rfl,f,t,b,r⟩:=DataW.trod_struct underlying86 h
 obtain⟨c0,c1,rfl⟩:=lst2 (t.trans (by kernel_rfl:prog.cellsOf 86=2))
 have b:z.length=2:=b
 obtain⟨g,i,rfl⟩:=lst2 b
 have o:DataW.trod enc prog w base spare held n 9 (List.take (prog.cellsOf 9) (List.drop 0 [c0,c1]))=some g:=r 0 _ rfl
 have p:DataW.trod enc prog w base spare held n 9 (List.take (prog.cellsOf 9) (List.drop 1 [c0,c1]))=some i:=r 1 _ rfl
 simp only[qx,drop_zero,drop_succ_cons,take_succ_cons,take_zero]at o p
 have s:Rows.uptoBulk x.1=Rows.uptoBulk g.1+Rows.uptoBulk i.1+1:=by rw[f];simp[Rows.uptoBulk,Rows.uptoBulkAll];try omega
 obtain⟨j,l,A,u⟩:=DataW.trod_string underlying9 o
 have C:j.size+1≤Rows.uptoBulk g.1:=by rw[A];simp[Rows.uptoBulk]
 obtain⟨k,m,B,y⟩:=DataW.trod_string underlying9 p
 have D:k.size+1≤Rows.uptoBulk i.1:=by rw[B];simp[Rows.uptoBulk]
 simp only[List.cons.injEq,and_true]at l m
 subst l m
 exact⟨⟨j,k⟩,⟨rfl,Nat.le_trans u (by unfold maxLen;omega),Nat.le_trans y (by unfold maxLen;omega)⟩,by rw[s];unfold bkF;dsimp only;omega⟩
instance:Inhabited Src:=⟨⟨⟨#[]⟩,⟨#[]⟩⟩⟩
theorem open_srcs {e:Nat} {v:Value} {x:DataW H×List MemPlace} (h:DataW.trod enc prog w base spare held e 33 [v]=some x):
  ∃(l:List Src) (A:OA) (n c:Nat),v= .slice A n c∧l.length=n∧n≤9223372036854775807∧iz w A l∧sumB bkF l+1≤Rows.uptoBulk x.1:=by
 obtain⟨l,A,n,c,j,k,m,o,p⟩:=bU (α:=Src) underlying33 (by kernel_rfl:prog.cellsOf 86=2) (by decide) (fun a cs=>cs= [.string a.tb,.string a.al]∧a.tb.size≤9223372036854775807∧a.al.size≤9223372036854775807) bkF (fun e cs x h=>open_src h) h
 refine⟨l,A,n,c,j,k,m,?_,p⟩
 intro i a s
 obtain⟨cs,b,f,⟨rfl,t⟩,r,g⟩:=o i a s
 exact⟨t,b,f,r,by simpa using g 0 _ rfl,g 1 _ rfl⟩
theorem open_ord {e:Nat} {cs:LV} {x:DataW H×List MemPlace} (h:DataW.trod enc prog w base spare held e 88 cs=some x):
  ∃a:Ord',(cs= [i4 a.it,.bool a.ds]∧I64 a.it)∧bkO a≤Rows.uptoBulk x.1:=by
 obtain⟨y,n,rfl,f,t,b,o⟩:=DataW.trod_struct underlying88 h
 obtain⟨c0,c1,rfl⟩:=lst2 (t.trans (by kernel_rfl:prog.cellsOf 88=2))
 have b:y.length=2:=b
 obtain⟨g,i,rfl⟩:=lst2 b
 have l:DataW.trod enc prog w base spare held n 3 (List.take (prog.cellsOf 3) (List.drop 0 [c0,c1]))=some g:=o 0 _ rfl
 have m:DataW.trod enc prog w base spare held n 4 (List.take (prog.cellsOf 4) (List.drop 1 [c0,c1]))=some i:=o 1 _ rfl
 simp only[cl_bool,qw,drop_zero,drop_succ_cons,take_succ_cons,take_zero]at l m
 have s:Rows.uptoBulk x.1=Rows.uptoBulk g.1+Rows.uptoBulk i.1+1:=by rw[f];simp[Rows.uptoBulk,Rows.uptoBulkAll];try omega
 obtain⟨p,j,_,u⟩:=DataW.trod_int underlying3 l
 have z:=dr g.1
 obtain⟨r,k,_⟩:=DataW.trod_bool underlying4 m
 have A:=dr i.1
 simp only[List.cons.injEq,and_true]at j k
 subst j k
 exact⟨⟨p,r⟩,⟨rfl,bounds_i64 u⟩,by rw[s];unfold bkO;omega⟩
instance:Inhabited Ord':=⟨⟨0,false⟩⟩
theorem open_ords {e:Nat} {v:Value} {x:DataW H×List MemPlace} (h:DataW.trod enc prog w base spare held e 38 [v]=some x):
  ∃(l:List Ord') (A:OA) (n c:Nat),v= .slice A n c∧l.length=n∧n≤9223372036854775807∧iA w A l∧sumB bkO l+1≤Rows.uptoBulk x.1:=by
 obtain⟨l,A,n,c,j,k,m,o,p⟩:=bU (α:=Ord') underlying38 (by kernel_rfl:prog.cellsOf 88=2) (by decide) (fun a cs=>cs= [i4 a.it,.bool a.ds]∧I64 a.it) bkO (fun e cs x h=>open_ord h) h
 refine⟨l,A,n,c,j,k,m,?_,p⟩
 intro i a s
 obtain⟨cs,b,f,⟨rfl,t⟩,r,g⟩:=o i a s
 exact⟨t,b,f,r,by simpa using g 0 _ rfl,g 1 _ rfl⟩
theorem open_def {b:Nat} {cs:LV} {x:DataW H×List MemPlace} (h:DataW.trod enc prog w base spare held b 29 cs=some x):
  ∃(e:List Cd) (l1:List (List BA)) (f:List Rf) (g:List Ex) (B1 B2 B3 B4:Sl),cs= [B1.v,B2.v,B3.v,B4.v]∧(e.length=B1.n∧B1.n≤9223372036854775807∧jz w B1.A e)∧(l1.length=B2.n∧B2.n≤9223372036854775807∧fL w B2.A l1)∧(f.length=B3.n∧B3.n≤9223372036854775807∧jA w B3.A f)∧(g.length=B4.n∧B4.n≤9223372036854775807∧KidsAt w B4.A g)∧sumB iB e+sumB bkK l1+sumB jP f+sizeL g≤Rows.uptoBulk x.1:=by
 obtain⟨xs,n,rfl,j,O,a,i⟩:=DataW.trod_struct underlying29 h
 obtain⟨c0,c1,c2,c3,rfl⟩:=lst4 (O.trans (by kernel_rfl:prog.cellsOf 29=4))
 have a:xs.length=4:=a
 obtain⟨p,r,s,t,rfl⟩:=lst4 a
 have k:DataW.trod enc prog w base spare held n 24 (List.take (prog.cellsOf 24) (List.drop 0 [c0,c1,c2,c3]))=some p:=i 0 _ rfl
 have l:DataW.trod enc prog w base spare held n 25 (List.take (prog.cellsOf 25) (List.drop 1 [c0,c1,c2,c3]))=some r:=i 1 _ rfl
 have m:DataW.trod enc prog w base spare held n 26 (List.take (prog.cellsOf 26) (List.drop 2 [c0,c1,c2,c3]))=some s:=i 2 _ rfl
 have o:DataW.trod enc prog w base spare held n 27 (List.take (prog.cellsOf 27) (List.drop 3 [c0,c1,c2,c3]))=some t:=i 3 _ rfl
 simp only[cl_cols,vK,cl_frs,cl_keys,drop_zero,drop_succ_cons,take_succ_cons,take_zero]at k l m o
 have L:Rows.uptoBulk x.1=Rows.uptoBulk p.1+Rows.uptoBulk r.1+Rows.uptoBulk s.1+Rows.uptoBulk t.1+1:=by rw[j];simp[Rows.uptoBulk,Rows.uptoBulkAll];try omega
 obtain⟨C,u,Z,P,G,e,V,q0,p0⟩:=open_cols k
 subst G
 obtain⟨D,y,n1,Q,I,l1,W,q1,p1⟩:=open_keys l
 subst I
 obtain⟨E,z,n2,R,J,f,X,q2,p2⟩:=open_frs m
 subst J
 obtain⟨F,B,n3,U,K,g,Y,q3,p3⟩:=lP o
 subst K
 exact⟨C,D,E,F,⟨u,Z,P⟩,⟨y,n1,Q⟩,⟨z,n2,R⟩,⟨B,n3,U⟩,rfl,⟨e,V,q0⟩,⟨l1,W,q1⟩,⟨f,X,q2⟩,⟨g,Y,q3⟩,by rw[L];omega⟩
theorem open_st {F:Nat} {cs:LV} {x:DataW H×List MemPlace} (h:DataW.trod enc prog w base spare held F 40 cs=some x):
  ∃(s:St) (a:SA),cs=s.cells a∧StV w s a∧s.bulk≤Rows.uptoBulk x.1:=by
 obtain⟨xs,n,rfl,L,hl,z,y⟩:=DataW.trod_struct underlying40 h
 obtain⟨c0,c1,c2,c3,c4,c5,c6,c7,t,u,b,e,f,g,i,j,k,l,m,o,p,r,rfl⟩:=lst22 (hl.trans (by kernel_rfl:prog.cellsOf 40=22))
 have z:xs.length=12:=z
 obtain⟨Q,R,x2,x3,x4,x5,x6,x7,x8,x9,A,B,rfl⟩:=lst12 z
 have Z:DataW.trod enc prog w base spare held n 3 (List.take (prog.cellsOf 3) (List.drop 0 [c0,c1,c2,c3,c4,c5,c6,c7,t,u,b,e,f,g,i,j,k,l,m,o,p,r]))=some Q:=y 0 _ rfl
 have h1:DataW.trod enc prog w base spare held n 9 (List.take (prog.cellsOf 9) (List.drop 1 [c0,c1,c2,c3,c4,c5,c6,c7,t,u,b,e,f,g,i,j,k,l,m,o,p,r]))=some R:=y 1 _ rfl
 have h2:DataW.trod enc prog w base spare held n 29 (List.take (prog.cellsOf 29) (List.drop 2 [c0,c1,c2,c3,c4,c5,c6,c7,t,u,b,e,f,g,i,j,k,l,m,o,p,r]))=some x2:=y 2 _ rfl
 have h3:DataW.trod enc prog w base spare held n 30 (List.take (prog.cellsOf 30) (List.drop 6 [c0,c1,c2,c3,c4,c5,c6,c7,t,u,b,e,f,g,i,j,k,l,m,o,p,r]))=some x3:=y 3 _ rfl
 have h4:DataW.trod enc prog w base spare held n 31 (List.take (prog.cellsOf 31) (List.drop 7 [c0,c1,c2,c3,c4,c5,c6,c7,t,u,b,e,f,g,i,j,k,l,m,o,p,r]))=some x4:=y 4 _ rfl
 have h5:DataW.trod enc prog w base spare held n 32 (List.take (prog.cellsOf 32) (List.drop 8 [c0,c1,c2,c3,c4,c5,c6,c7,t,u,b,e,f,g,i,j,k,l,m,o,p,r]))=some x5:=y 5 _ rfl
 have h6:DataW.trod enc prog w base spare held n 33 (List.take (prog.cellsOf 33) (List.drop 9 [c0,c1,c2,c3,c4,c5,c6,c7,t,u,b,e,f,g,i,j,k,l,m,o,p,r]))=some x6:=y 6 _ rfl
 have h7:DataW.trod enc prog w base spare held n 37 (List.take (prog.cellsOf 37) (List.drop 10 [c0,c1,c2,c3,c4,c5,c6,c7,t,u,b,e,f,g,i,j,k,l,m,o,p,r]))=some x7:=y 7 _ rfl
 have h8:DataW.trod enc prog w base spare held n 27 (List.take (prog.cellsOf 27) (List.drop 18 [c0,c1,c2,c3,c4,c5,c6,c7,t,u,b,e,f,g,i,j,k,l,m,o,p,r]))=some x8:=y 8 _ rfl
 have h9:DataW.trod enc prog w base spare held n 38 (List.take (prog.cellsOf 38) (List.drop 19 [c0,c1,c2,c3,c4,c5,c6,c7,t,u,b,e,f,g,i,j,k,l,m,o,p,r]))=some x9:=y 9 _ rfl
 have G:DataW.trod enc prog w base spare held n 3 (List.take (prog.cellsOf 3) (List.drop 20 [c0,c1,c2,c3,c4,c5,c6,c7,t,u,b,e,f,g,i,j,k,l,m,o,p,r]))=some A:=y 10 _ rfl
 have I:DataW.trod enc prog w base spare held n 9 (List.take (prog.cellsOf 9) (List.drop 21 [c0,c1,c2,c3,c4,c5,c6,c7,t,u,b,e,f,g,i,j,k,l,m,o,p,r]))=some B:=y 11 _ rfl
 simp only[cl_asgs,cl_def,tJ,vK,qw,cl_itms,cl_ords,cl_rows,cl_srcs,qx,drop_zero,drop_succ_cons,take_succ_cons,take_zero]at Z h1 h2 h3 h4 h5 h6 h7 h8 h9 G I
 have hb:Rows.uptoBulk x.1=Rows.uptoBulk Q.1+Rows.uptoBulk R.1+Rows.uptoBulk x2.1+Rows.uptoBulk x3.1+Rows.uptoBulk x4.1+Rows.uptoBulk x5.1+Rows.uptoBulk x6.1+Rows.uptoBulk x7.1+Rows.uptoBulk x8.1+Rows.uptoBulk x9.1+Rows.uptoBulk A.1+Rows.uptoBulk B.1+1:=by rw[L];simp[Rows.uptoBulk,Rows.uptoBulkAll];try omega
 obtain⟨a0,W,_,w0⟩:=DataW.trod_int underlying3 Z
 have p0:=dr Q.1
 obtain⟨V,X,y1,w1⟩:=DataW.trod_string underlying9 h1
 have p1:V.size+1≤Rows.uptoBulk R.1:=by rw[y1];simp[Rows.uptoBulk]
 obtain⟨l2,k2,m2,n2,B1,B2,B3,B4,Y,g2,i2,j2,o2,p2⟩:=open_def h2
 simp only[List.cons.injEq,and_true]at Y
 obtain⟨rfl,rfl,rfl,rfl⟩:=Y
 obtain⟨a3,A3,n3,k3,e3,l3,m3,q3,p3⟩:=open_rows h3
 subst e3
 obtain⟨a4,A4,n4,k4,e4,l4,m4,q4,p4⟩:=open_asgs h4
 subst e4
 obtain⟨a5,A5,n5,k5,e5,l5,m5,q5,p5⟩:=open_itms h5
 subst e5
 obtain⟨a6,A6,n6,k6,e6,l6,m6,q6,p6⟩:=open_srcs h6
 subst e6
 obtain⟨a7,q7,_,p7⟩:=mG _ _ _ h7
 obtain⟨a8,A8,n8,k8,e8,l8,m8,q8,p8⟩:=lP h8
 subst e8
 obtain⟨a9,A9,n9,k9,e9,l9,m9,q9,p9⟩:=open_ords h9
 subst e9
 obtain⟨J,D,_,O⟩:=DataW.trod_int underlying3 G
 have ac:=dr A.1
 obtain⟨C,E,U,P⟩:=DataW.trod_string underlying9 I
 have ad:C.size+1≤Rows.uptoBulk B.1:=by rw[U];simp[Rows.uptoBulk]
 simp only[List.cons.injEq,and_true]at W X D E
 subst W X D E
 obtain⟨A7,n7,k7,K,hx⟩:=qz q7
 unfold Nd.cells at K
 simp only[List.cons.injEq,and_true]at K
 obtain⟨rfl,rfl,rfl,rfl,rfl,rfl,rfl,rfl⟩:=K
 refine⟨⟨a0,V,l2,k2,m2,n2,a3,a4,a5,a6,a7,a8,a9,J,C⟩,⟨B1,B2,B3,B4,⟨A3,n3,k3⟩,⟨A4,n4,k4⟩,⟨A5,n5,k5⟩,⟨A6,n6,k6⟩,⟨A7,n7,k7⟩,⟨A8,n8,k8⟩,⟨A9,n9,k9⟩⟩,rfl,?_,?_⟩
 ·exact⟨bounds_i64 w0,Nat.le_trans w1 (by unfold maxLen;omega),bounds_i64 O,Nat.le_trans P (by unfold maxLen;omega),g2,i2,j2,o2,⟨l3,m3,q3.1⟩,q3.2,⟨l4,m4,q4⟩,⟨l5,m5,q5⟩,⟨l6,m6,q6⟩,hx,⟨l8,m8,q8⟩,⟨l9,m9,q9⟩⟩
 ·rw[hb]
  unfold St.bulk
  dsimp only
  omega
end
theorem open_stmt {H:Type} {enc:TypeId×Value→H} {w:World} {base f:Nat} {r:Reach} {spare:Nat→Bool} {held:Bool} {v:Value} {d:DataW H} {p:List MemPlace} (m:Value.okWide prog w r f 40 v)
  (h:DataW.Trod enc prog w base spare held 40 v d p):∃(s:St) (a:SA),v=s.val a∧StV w s a∧s.bulk≤Rows.uptoBulk d:=by
 obtain⟨cs,rfl,k⟩:=okWide_struct underlying40 m
 obtain⟨e,j⟩:=h
 obtain⟨s,a,b,g,i⟩:=open_st j
 refine⟨s,a,?_,g,i⟩
 obtain⟨l⟩:=cs
 have b:l=s.cells a:=b
 subst b
 rfl
end
section
open Go.ChangeShapes Go.WideShapes Go.Deep Go.RowKit
section
variable {H:Type} {enc:TypeId×Value→H} {w:World} {spare:Nat→Bool} {held:Bool} {base:Nat}
theorem qA {b:Nat} {v:Value} {x:DataW H×List MemPlace} (h:DataW.trod enc prog w base spare held b 101 [v]=some x):∃(A:OA) (n c:Nat),v= .slice A n c∧n≤c:=by
 rcases DataW.trod_slice underlying101 h with ⟨h7,_⟩|⟨a,len,cap,elems,rest,m,rfl,h7,hy,_,hl,hm,hlen,hel',_,_⟩
 ·simp only[List.cons.injEq,and_true]at h7
  exact⟨none,0,0,h7,Nat.le_refl _⟩
 ·simp only[List.cons.injEq,and_true]at h7
  exact⟨_,_,_,h7,hl⟩
instance:Inhabited Sl:=⟨⟨none,0,0⟩⟩
theorem cap_keys {a:Nat} {A:OA} {n c:Nat} {x:DataW H×List MemPlace} (h:DataW.trod enc prog w base spare held a 25 [.slice A n c]=some x):nG w A n:=by
 obtain⟨l,o,t,c',g,p,r,j,s⟩:=bU (α:=Sl) underlying25 (by kernel_rfl:prog.cellsOf 101=1) (by decide) (fun l cs=>cs= [.slice l.A l.n l.c]∧l.n≤l.c) (fun _=>0)
  (fun a cs x h=>by
   obtain⟨v,rfl⟩:=qy (by kernel_rfl:prog.cellsOf 101=1) h
   obtain⟨A,n,c,rfl,e⟩:=qA h
   exact⟨⟨A,n,c⟩,⟨rfl,e⟩,Nat.zero_le _⟩) h
 simp only[Value.slice.injEq]at g
 obtain⟨rfl,rfl,rfl⟩:=g
 intro i hi
 obtain⟨cs,b,f,⟨rfl,m⟩,k,e⟩:=j i _ (getElem?_eq_getElem (by omega))
 exact⟨b,f,_,_,_,k,by simpa using e 0 _ rfl,m⟩
theorem cap_frs {a:Nat} {A:OA} {n c:Nat} {x:DataW H×List MemPlace} (h:DataW.trod enc prog w base spare held a 26 [.slice A n c]=some x):nH w A n:=by
 obtain⟨l,O,R,c',o,f,P,z,Q⟩:=bU (α:=Sl×Value×Sl) underlying26 (by kernel_rfl:prog.cellsOf 103=3) (by decide) (fun l cs=>cs= [.slice l.1.A l.1.n l.1.c,l.2.1,.slice l.2.2.A l.2.2.n l.2.2.c]∧l.1.n≤l.1.c∧l.2.2.n≤l.2.2.c) (fun _=>0)
  (fun a cs x h=>by
   obtain⟨L,n,rfl,D,C,e,r⟩:=DataW.trod_struct underlying103 h
   obtain⟨c0,c1,c2,rfl⟩:=lst3 (C.trans (by kernel_rfl:prog.cellsOf 103=3))
   have e:L.length=3:=e
   obtain⟨J,U,K,rfl⟩:=lst3 e
   have m:DataW.trod enc prog w base spare held n 101 (List.take (prog.cellsOf 101) (List.drop 0 [c0,c1,c2]))=some J:=r 0 _ rfl
   have f:DataW.trod enc prog w base spare held n 101 (List.take (prog.cellsOf 101) (List.drop 2 [c0,c1,c2]))=some K:=r 2 _ rfl
   simp only[cl_strs,drop_zero,drop_succ_cons,take_succ_cons,take_zero]at m f
   obtain⟨s,G,E,rfl,u⟩:=qA m
   obtain⟨t,I,F,rfl,y⟩:=qA f
   exact⟨⟨⟨s,G,E⟩,c1,⟨t,I,F⟩⟩,⟨rfl,u,y⟩,Nat.zero_le _⟩) h
 simp only[Value.slice.injEq]at o
 obtain⟨rfl,rfl,rfl⟩:=o
 intro i hi
 obtain⟨cs,b,k,⟨rfl,g,j⟩,B,p⟩:=z i _ (getElem?_eq_getElem (by omega))
 exact⟨b,k,_,_,_,_,_,_,B,by simpa using p 0 _ rfl,g,p 2 _ rfl,j⟩
theorem cap_st {e:Nat} {s:St} {a:SA} {x:DataW H×List MemPlace} (h:DataW.trod enc prog w base spare held e 40 (s.cells a)=some x):nG w a.keys.A a.keys.n∧nH w a.frs.A a.frs.n:=by
 obtain⟨j,n,rfl,i,m,b,f⟩:=DataW.trod_struct underlying40 h
 have b:j.length=12:=b
 obtain⟨t,u,r,y,z,B,C,D,E,F,o,p,rfl⟩:=lst12 b
 have g:DataW.trod enc prog w base spare held n 29 (List.take (prog.cellsOf 29) (List.drop 2 (s.cells a)))=some r:=f 2 _ rfl
 unfold St.cells Sl.v at g
 simp only[cl_def,drop_succ_cons,drop_zero,take_succ_cons,take_zero]at g
 obtain⟨j,n,rfl,i,m,b,f⟩:=DataW.trod_struct underlying29 g
 have b:j.length=4:=b
 obtain⟨G,I,J,K,rfl⟩:=lst4 b
 have k:=f 1 _ rfl
 have l:=f 2 _ rfl
 exact⟨cap_keys k,cap_frs l⟩
end
theorem open_caps {H:Type} {enc:TypeId×Value→H} {w:World} {base f:Nat} {spare:Nat→Bool} {held:Bool} {s:St} {a:SA} {d:DataW H} {p:List MemPlace}
  (h:DataW.Trod enc prog w base spare held 40 (s.val a) d p):nG w a.keys.A a.keys.n∧nH w a.frs.A a.frs.n:=by
 obtain⟨b,e⟩:=h
 exact cap_st e
end
def mH (l:List BA):Int:=l.foldl (fun acc s=>wrap64 (acc+(s.size:Int))) (l.length:Int)
def wideK (l:List BA) (k:Nat):Int:=(l.take k).foldl (fun acc s=>wrap64 (acc+(s.size:Int))) (l.length:Int)
theorem xo {l:List BA} {k:Nat} {s:BA} (h:l[k]? =some s):wideK l (k+1)=wrap64 (wideK l k+(s.size:Int)):=by
 obtain⟨hi,rfl⟩:=List.getElem?_eq_some_iff.1 h
 unfold wideK
 rw[take_succ_eq_append_getElem hi,foldl_append]
 rfl
theorem qB (l:List BA) (A:OA) (n c:Nat) (w:World) (h:l.length=n) (B:n≤9223372036854775807) (hs:bi w A l):
  Cl 48 #[.slice A n c] w (Rt (i4 (mH l)) w):=by
 have f:=hid h
 have m:=hid hs
 clear h hs
 go_enter func48,ntmps48
 go_wp2_with fail
 go_loopw [3,4] (fun u t wr=> ∃(k:Nat),k≤n∧t= i4 k∧u= i4 (wideK l k)∧Ext w wr) (fun _ i _=>n- (intOf i).toNat)
 case atStart=>exact⟨0,Nat.zero_le _,rfl,by unfold wideK;rw[f.out];rfl,Ext.refl w⟩
 case round=>
  obtain⟨k,z,rfl,rfl,e⟩:=hrel
  have a:=hid e
  by_cases g:k<n
  ·obtain⟨s,hs⟩:=aC f g
   obtain⟨p,b,y,rfl,C⟩:=(m.ext e) k s hs
   have j:=hid (xo hs)
   clear hs
   generalize wideK l k=x at*
   go_wp2_with fail
   go_roundw
   case rel=>exact⟨k+1,by omega,by go_num,by rw[j.out],a⟩
   case measure=>simp[intOf];omega
  ·obtain rfl:k=n:=by omega
   have o:Hid (wideK l k=mH l):=by unfold Hid wideK mH;rw[←f.out,take_length]
   rw[o.out]
   go_wp2_with fail
   go_ret
   exact⟨rfl,a⟩
def textS (s:St):BA:=if validS s=0 then s.body else ⟨#[]⟩
theorem rallS_len (s:St) (h:s.bulk≤1048576):s.rall.length≤100000000:=by
 have a:=dS s h
 have b:=flat_len s.vals
 have e:=(gO s h).2.2.2.1
 unfold St.rall
 simp only[length_append,length_map,length_singleton]
 omega
theorem mI {s:St} (h:validS s=0):s.formed=true∧s.Fits:=by
 unfold validS at h
 cases a:largeB s.all
 ·rw[a]at h
  simp only[Bool.false_eq_true,if_false]at h
  cases b:s.formed
  ·rw[b]at h;simp at h
  ·exact⟨rfl,sW b (im a)⟩
 ·rw[a]at h;simp at h
theorem vL (s:St) (a:SA) (w:World) (e:StV w s a) (b:s.bulk≤1048576):
  Cl 35 #[s.val a] w (Rt (i4 (validS s)) w):=oz s a w e (rallS_len s b) fun _=>b
theorem rstext_any (s:St) (a:SA) (w:World) (n:StV w s a) (m:s.bulk≤1048576):
  Cl 24 #[s.val a] w (Rt (.tuple #[.string (textS s),i4 (validS s)]) w):=by
 have p:=hid (fun W (i:Ext w W)=>vL s a W (n.ext i) m)
 have k:=hid (fun W (i:Ext w W) (h:validS s=0)=>rt s a W (n.ext i) (mI h).1 (mI h).2 m)
 have j:Hid (textS s=if validS s=0 then s.body else ⟨#[]⟩):=rfl
 have l:=hid (Blk.of_new w 40 (s.cells a))
 have e:=hid (x10 w (.cells (s.cells a).toArray 40))
 clear n m
 unfold St.val at*
 unfold St.cells Sl.v at*
 generalize textS s=T at*
 generalize s.body=x at*
 generalize validS s=V at*
 go_enter func24,ntmps24
 go_upto_region 1 with fail
 generalize w.alloc (.cells _ 40)=y at*
 generalize w.heap.size=g at*
 by_cases h:V=0
 ·subst h
  have f:=j.out
  simp only[if_true]at f
  subst f
  have t:=hid (fun W (i:Ext w W)=>k W i rfl)
  clear k j
  go_wp2_with (first|(refine aw rfl 40 (.tmp 1) rfl g rfl 40 _ _ l underlying40 rfl (by kernel_rfl) ?_)|(refine aw rfl 40 (.tmp 1) rfl g rfl 40 _ _ (l.ext b) underlying40 rfl (by kernel_rfl) ?_)|(go_at_call 35;(with_reducible refine(p.out _ e.out).mono ?_);rintro _ u ⟨rfl,b⟩)|(go_at_call 49;(with_reducible refine(t.out _ (e.out.trans b)).mono ?_);rintro _ z ⟨rfl,o⟩))
  go_ret2
  exact⟨rfl,e.trans (b.trans o)⟩
 ·have f:=j.out
  rw[if_neg h]at f
  subst f
  have hd:(V !=0)=true:=by simpa using h
  clear k j h
  go_wp2_with (first|(refine aw rfl 40 (.tmp 1) rfl g rfl 40 _ _ l underlying40 rfl (by kernel_rfl) ?_)|(go_at_call 35;(with_reducible refine(p.out _ e.out).mono ?_);rintro _ u ⟨rfl,b⟩))
  go_ret2
  exact⟨rfl,e.trans b⟩
mutual
def Ex.wt:Ex→Int
 | .mk d ks=>wtL (wrap64 (wrap64 (wrap64 (1+(d.tb.size:Int))+d.nm.size)+d.vt.size)) ks
def wtL:Int→List Ex→Int
 |r,[]=>r
 |r,e::es=>if r<1000 then wtL (wrap64 (r+e.wt)) es else r
end
theorem wtL_full {r:Int} (h:¬r<1000) (l:List Ex):wtL r l=r:=by
 cases l with
 |nil=>rfl
 |cons e l=>rw[wtL,if_neg h]
theorem wtL_step {r:Int} {l:List Ex} {k:Nat} {e:Ex} (h:r<1000) (a:l[k]? =some e):wtL r (l.drop k)=wtL (wrap64 (r+e.wt)) (l.drop (k+1)):=by
 obtain⟨hi,rfl⟩:=List.getElem?_eq_some_iff.1 a
 rw[drop_eq_getElem_cons hi,wtL,if_pos h]
theorem wtL_end {r:Int} {l:List Ex} {k:Nat} (h:l.length≤k):wtL r (l.drop k)=r:=by
 rw[drop_eq_nil_of_le h,wtL]
theorem xp:∀(e:Ex) (A:OA) (n c:Nat) (w:World),ExV w e A n c→
  Cl 47 #[e.d.val A n c] w (Rt (i4 e.wt) w):=by
 intro e
 induction e using Ex.ind with
 |h d ks ih=>
  intro A n c w R
  obtain⟨y,h2,Q,z⟩:=R
  have x:Hid (ks.length=n):=y
  have I:Hid (KidsAt w A ks):=z
  have G:=hid ih
  have L:Hid ((Ex.mk d ks).wt=wtL (wrap64 (wrap64 (wrap64 (1+(d.tb.size:Int))+d.nm.size)+d.vt.size)) ks):=by unfold Hid;rw[Ex.wt]
  clear y z ih Q
  generalize (Ex.mk d ks).wt=V at*
  unfold Nd.val
  simp only[Ex.d]
  obtain⟨op,tb,nm,ix,vk,vi,vt⟩:=d
  simp only at*
  have E:=hid (Blk.of_new w 37 (eC op tb nm ix vk vi vt A n c))
  have s:=hid (x10 w (.cells #[i4 op,.string tb,.string nm,i4 ix,i4 vk,i4 vi,.string vt,.slice A n c] 37))
  go_enter func47,ntmps47
  go_wp2_with fail
  generalize wrap64 (wrap64 (wrap64 (1+(tb.size:Int))+nm.size)+vt.size)=Z at*
  generalize w.alloc (.cells #[i4 op,.string tb,.string nm,i4 ix,i4 vk,i4 vi,.string vt,.slice A n c] 37)=C at*
  generalize w.heap.size=g at*
  go_loopw [3,4] (fun X U wr=> ∃(r:Int) (k:Nat),V=wtL r (ks.drop k)∧k≤n∧X= i4 r∧U= i4 k∧Ext C wr) (fun _ i _=>n- (intOf i).toNat)
  case atStart=>exact⟨Z,0,L,Nat.zero_le _,rfl,rfl,Ext.refl C⟩
  case round=>
   obtain⟨r,k,B,hk,rfl,rfl,f⟩:=hrel
   have m:=hid f
   have l:=hid B
   have c7:=(E.ext f).cell 7
   simp only[g10,g11]at c7
   clear B
   by_cases t:k<n
   ·obtain⟨P,p⟩:=fd x t
    obtain⟨b,Y,D,W,c',rfl,q0,q1,q2,q3,q4,q5,q6,q7,o⟩:=((I.ext s).ext f).get p
    have K:=hid o
    have J:=hid (gG p)
    have F:=hid p
    clear p o f
    by_cases a:r<1000
    ·have O:decide (r<1000)=true:=by simpa using a
     have j:=hid a
     clear a
     go_wp2_with (go_at_call 47;refine(G P J D W c' _ K).mono ?_;rintro _ w2 ⟨rfl,u⟩)
     go_roundw
     case rel=>exact⟨_,k+1,l.trans (wtL_step j F),by omega,rfl,by go_num,m.trans u⟩
     case measure=>simp[intOf];omega
    ·have O:decide (r<1000)=false:=by simpa using a
     have j:=hid a
     clear a
     go_wp2_with fail
     go_ret
     exact⟨aM (l.trans (wtL_full (by have:=j.out;omega) _)).symm,s.trans m⟩
   ·go_wp2_with fail
    go_ret
    exact⟨aM (l.trans (wtL_end (by have:=x.out;omega))).symm,s.trans m⟩
def Ex.small (e:Ex):Bool:=decide (e.wt≤600)
def sT1 (n:Int) (e:Ex):Int:=wrap64 (n+e.wt)
def sT2 (n:Int) (x:Asg):Int:=wrap64 (n+(x.cl.size:Int))
def sT3 (n:Int) (x:Src):Int:=wrap64 (n+wrap64 ((x.tb.size:Int)+(x.al.size:Int)))
def sT4 (n:Int) (x:Cd):Int:=wrap64 (n+(x.nm.size:Int))
def sT5 (n:Int) (x:List BA):Int:=wrap64 (n+mH x)
def sT6 (n:Int) (x:Rf):Int:=wrap64 (n+wrap64 (wrap64 (mH x.cs+(x.tb.size:Int))+mH x.tg))
theorem gn {α:Type} {T:Int→α→Int} {l:List α} {k:Nat} {x:α} {n:Int} (h:l[k]? =some x):(l.take (k+1)).foldl T n=T ((l.take k).foldl T n) x:=by
 obtain⟨hi,rfl⟩:=List.getElem?_eq_some_iff.1 h
 rw[take_succ_eq_append_getElem hi,foldl_append]
 rfl
def sN0 (s:St):Int:=wrap64 (wrap64 (wrap64 (wrap64 (wrap64 (wrap64 (wrap64 ((s.tb.size:Int)+(s.nm.size:Int))+(s.vals.length:Int))+(s.frm.length:Int))+(s.ord.length:Int))+(s.cols.length:Int))+(s.keys.length:Int))+(s.frs.length:Int))
def St.small (s:St):Bool:=if 200<sN0 s then false else decide (s.frs.foldl sT6 (s.keys.foldl sT5 (s.cols.foldl sT4 (s.frm.foldl sT3 (s.sets.foldl sT2 (s.rall.foldl sT1 (sN0 s))))))≤1200)
theorem smallS_any (s:St) (a:SA) (w:World) (E:StV w s a) (hT:s.rall.length≤100000000):
  Cl 23 #[s.val a] w (Rt (.bool s.small) w):=by
 have HV:=hid E
 have HR:Hid (s.small=if 200<sN0 s then false else decide (s.frs.foldl sT6 (s.keys.foldl sT5 (s.cols.foldl sT4 (s.frm.foldl sT3 (s.sets.foldl sT2 (s.rall.foldl sT1 (sN0 s))))))≤1200)):=rfl
 have a2:Hid (sN0 s=wrap64 (wrap64 (wrap64 (wrap64 (wrap64 (wrap64 (wrap64 ((s.tb.size:Int)+(s.nm.size:Int))+(a.vals.n:Int))+(a.frm.n:Int))+(a.ord.n:Int))+(a.cols.n:Int))+(a.keys.n:Int))+(a.frs.n:Int))):=by
  unfold Hid sN0;rw[E.vals.1,E.frm.1,E.ord.1,E.cols.1,E.keys.1,E.frs.1]
 generalize sN0 s=n1 at*
 generalize s.small=SB at*
 have ax:=hid (fun W (hW:Ext w W)=>uH s a W (E.ext hW) hT)
 have HB:=hid (Blk.of_new w 40 (s.cells a))
 have HX:=hid (x10 w (.cells (s.cells a).toArray 40))
 have a8:s.rall.length≤100000000:=hT
 have b7:=E.sets.2.1
 have b4:=E.frm.2.1
 have b3:=E.cols.2.1
 have b5:=E.keys.2.1
 have b6:=E.frs.2.1
 obtain⟨R,hR⟩:∃R,s.rall=R:=⟨_,rfl⟩
 rw[hR]at ax a8 HR
 clear E hT hR
 obtain⟨N0,aS⟩:∃N0,R.length=N0:=⟨_,rfl⟩
 have a1:=hid aS
 rw[aS]at a8 ax
 clear aS
 unfold St.val at*
 unfold St.cells at*
 unfold Sl.v at*
 have B:=hid HV.sets
 have I:=hid HV.frm
 have u:=hid HV.cols
 have x:=hid HV.keys
 have J:=hid HV.frs
 generalize a.sets.A=P1 at*
 generalize a.frm.A=P2 at*
 generalize a.cols.A=P3 at*
 generalize a.keys.A=P4 at*
 generalize a.frs.A=P5 at*
 generalize s.whr.d=dw at*
 obtain⟨cd,cj,cc,b9,cl,ck,cp⟩:=dw
 simp only at*
 go_enter func23,ntmps23
 go_upto_region 1 with fail
 generalize ba:w.alloc (.cells _ 40)=w1 at*
 have b1:Hid (w1.heap.size=w.heap.size+1):=by unfold Hid;rw[←ba];simp
 clear ba
 generalize w.heap.size=g at*
 obtain⟨-,-,c2,c3,c4,c5,-⟩:=cls HB
 go_upto_region 2 with fail
 have a0:=hid (Blk.of_new w1 29 [.slice P3 a.cols.n a.cols.c,.slice P4 a.keys.n a.keys.c,.slice P5 a.frs.n a.frs.c,.slice a.chk.A a.chk.n a.chk.c])
 have P:=hid (x10 w1 (.cells #[.slice P3 a.cols.n a.cols.c,.slice P4 a.keys.n a.keys.c,.slice P5 a.frs.n a.frs.c,.slice a.chk.A a.chk.n a.chk.c] 29))
 clear c2 c3 c4 c5
 generalize w1.alloc (.cells #[.slice P3 a.cols.n a.cols.c,.slice P4 a.keys.n a.keys.c,.slice P5 a.frs.n a.frs.c,.slice a.chk.A a.chk.n a.chk.c] 29)=w2 at*
 generalize w1.heap.size=g2 at*
 have G:=hid (HX.trans P)
 obtain⟨-,c1,-,-,-,-,c6,-,-,c9,-,-,-,-,-,-,-,-,-,bw,-,bx,-⟩:=cls (HB.ext P)
 obtain⟨d0,d1,d2,-⟩:=cls a0
 go_cut [4] from 12 to 45 (fun F wx=>F= i4 n1∧wx=w2)
 case first=>
  go_wp2_with fail
  go_meet
  exact⟨by rw[a2.out],rfl⟩
 case rest=>
  obtain⟨rfl,rfl⟩:=hcut
  clear a2
  by_cases bY:(200:Int)<n1
  ·go_wp2_with fail
   go_ret
   exact⟨aa (by rw[HR.out,if_pos bY]),G⟩
  ·clear c1 c6 c9 bw bx d0 d1 d2
   go_wp2_with (first|(refine aw rfl 40 (.tmp 1) rfl g rfl 40 _ _ (HB.ext P) underlying40 rfl (by kernel_rfl) ?_)|(go_at_call 46;refine(ax _ G).mono ?_;rintro _ w3 ⟨A3,b2,rfl,a7,U⟩))
   have V:=hid ((HB.ext P).ext U)
   have X:=hid (a0.ext U)
   have l:=hid (G.trans U)
   have bf:=hid a7
   clear U a7
   go_loopw [4,6] (fun F L wr=> ∃(k:Nat),k≤N0∧L= i4 k∧F= i4 ((R.take k).foldl sT1 n1)∧Ext w3 wr) (fun _ i _=>N0- (intOf i).toNat)
   case atStart=>exact⟨0,Nat.zero_le _,rfl,by rw[take_zero,foldl_nil],Ext.refl w3⟩
   case round=>
    obtain⟨k,hk,rfl,rfl,f⟩:=hrel
    generalize j:(R.take k).foldl sT1 n1=x1 at*
    have Y:=hid j
    clear j
    have h:=hid f
    have p:=(V.ext f).cell 7
    simp only[g10,g11]at p
    by_cases o:k<N0
    ·obtain⟨e,he⟩:=fd a1 o
     have m:=hid he
     obtain⟨b,O,A',n',c',rfl,D,q1,q2,q3,q4,q5,q6,q7,a9⟩:=(bf.ext f).get he
     have HW:=hid (xp e A' n' c' wr a9)
     clear he a9
     unfold Nd.val at HW
     generalize a3:e.wt=y at*
     have bm:=hid a3
     clear a3
     generalize e.d=d at*
     obtain⟨op,tb,nm,ix,vk,vi,vt⟩:=d
     simp only at*
     go_wp2_with (go_at_call 47;refine HW.mono ?_;rintro _ w7 ⟨rfl,C⟩)
     go_roundw
     case rel=>exact⟨k+1,by omega,by go_num,by rw[gn m.out,Y.out];unfold sT1;rw[bm.out],h.trans C⟩
     case measure=>simp[intOf];omega
    ·obtain rfl:k=N0:=by omega
     rw[take_of_length_le (Nat.le_of_eq a1)]at Y
     go_wp2_with fail
     clear f p
     go_loopw [4,7] (fun F L wr=> ∃(k:Nat),k≤a.sets.n∧L= i4 k∧F= i4 ((s.sets.take k).foldl sT2 x1)∧Ext w3 wr) (fun _ i _=>a.sets.n- (intOf i).toNat)
     case atStart=>exact⟨0,Nat.zero_le _,rfl,by rw[take_zero,foldl_nil],h⟩
     case round=>
      obtain⟨k,hk,rfl,rfl,f⟩:=hrel
      generalize j:(s.sets.take k).foldl sT2 x1=x2 at*
      have Z:=hid j
      clear j
      have h:=hid f
      have p:=(V.ext f).cell 7
      simp only[g10,g11]at p
      by_cases o:k<a.sets.n
      ·obtain⟨y,t⟩:=aC B.1 o
       have m:=hid t
       obtain⟨_,b,O,A',n',c',Q,D,_,_⟩:=B.2.2 k y t
       subst Q
       replace D:=(l.trans f).keep D
       go_wp2_with fail
       go_roundw
       case rel=>exact⟨k+1,by omega,by go_num,by rw[gn m.out,Z.out];unfold sT2;with_reducible rfl,h.out⟩
       case measure=>simp[intOf];omega
      ·obtain rfl:k=a.sets.n:=by omega
       rw[take_of_length_le (Nat.le_of_eq B.1)]at Z
       go_wp2_with fail
       clear f p
       go_loopw [4,8] (fun F L wr=> ∃(k:Nat),k≤a.frm.n∧L= i4 k∧F= i4 ((s.frm.take k).foldl sT3 x2)∧Ext w3 wr) (fun _ i _=>a.frm.n- (intOf i).toNat)
       case atStart=>exact⟨0,Nat.zero_le _,rfl,by rw[take_zero,foldl_nil],h⟩
       case round=>
        obtain⟨k,hk,rfl,rfl,f⟩:=hrel
        generalize j:(s.frm.take k).foldl sT3 x2=x3 at*
        have ac:=hid j
        clear j
        have h:=hid f
        have p:=(V.ext f).cell 9
        simp only[g10,g11]at p
        by_cases o:k<a.frm.n
        ·obtain⟨y,t⟩:=aC I.1 o
         have m:=hid t
         obtain⟨_,b,O,Q,D,q1⟩:=I.2.2 k y t
         subst Q
         replace D:=ai.keep ((l.trans f).keep D)
         replace q1:=ai.keep ((l.trans f).keep q1)
         clear t
         have i0:(0:Int)≤(k:Int):=by omega
         have i1:(k:Int)<(a.frm.n:Int):=by omega
         have bN:=ai.keep p
         go_wp2_with fail
         refine af (by kernel_rfl) (by kernel_rfl) ?_
         repeat (go_big_quiet_step (fail))
         refine wpQuiet_nil ?_
         intro w7 K
         have C:=am K
         clear K
         go_wp2_with fail
         go_roundw
         case rel=>exact⟨k+1,by omega,by go_num,by rw[gn m.out,ac.out];unfold sT3;with_reducible rfl,h.out.trans C⟩
         case measure=>simp[intOf];omega
        ·obtain rfl:k=a.frm.n:=by omega
         rw[take_of_length_le (Nat.le_of_eq I.1)]at ac
         go_wp2_with fail
         clear f p
         go_loopw [4,9] (fun F L wr=> ∃(k:Nat),k≤a.cols.n∧L= i4 k∧F= i4 ((s.cols.take k).foldl sT4 x3)∧Ext w3 wr) (fun _ i _=>a.cols.n- (intOf i).toNat)
         case atStart=>exact⟨0,Nat.zero_le _,rfl,by rw[take_zero,foldl_nil],h⟩
         case round=>
          obtain⟨k,hk,rfl,rfl,f⟩:=hrel
          generalize j:(s.cols.take k).foldl sT4 x3=x4 at*
          have ad:=hid j
          clear j
          have h:=hid f
          have p:=(X.ext f).cell 0
          simp only[g10,g11]at p
          by_cases o:k<a.cols.n
          ·obtain⟨y,t⟩:=aC u.1 o
           have m:=hid t
           obtain⟨_,b,O,Q,D,_⟩:=u.2.2 k y t
           subst Q
           replace D:=(l.trans f).keep D
           go_wp2_with fail
           go_roundw
           case rel=>exact⟨k+1,by omega,by go_num,by rw[gn m.out,ad.out];unfold sT4;with_reducible rfl,h.out⟩
           case measure=>simp[intOf];omega
          ·obtain rfl:k=a.cols.n:=by omega
           rw[take_of_length_le (Nat.le_of_eq u.1)]at ad
           go_wp2_with fail
           clear f p
           go_loopw [4,10] (fun F L wr=> ∃(k:Nat),k≤a.keys.n∧L= i4 k∧F= i4 ((s.keys.take k).foldl sT5 x4)∧Ext w3 wr) (fun _ i _=>a.keys.n- (intOf i).toNat)
           case atStart=>exact⟨0,Nat.zero_le _,rfl,by rw[take_zero,foldl_nil],h⟩
           case round=>
            obtain⟨k,hk,rfl,rfl,f⟩:=hrel
            generalize j:(s.keys.take k).foldl sT5 x4=x5 at*
            have ag:=hid j
            clear j
            have h:=hid f
            have p:=(X.ext f).cell 1
            simp only[g10,g11]at p
            by_cases o:k<a.keys.n
            ·obtain⟨y,t⟩:=aC x.1 o
             have m:=hid t
             obtain⟨b,O,Ai,ni,ci,Q,D,bd,b0,be⟩:=x.2.2 k y t
             subst Q
             replace D:=(l.trans f).keep D
             have HW:=hid (qB y Ai ni ci wr bd b0 (be.ext (l.trans f)))
             clear t bd be
             generalize a4:mH y=z at*
             have bn:=hid a4
             clear a4
             go_wp2_with (go_at_call 48;refine HW.mono ?_;rintro _ w7 ⟨rfl,C⟩)
             go_roundw
             case rel=>exact⟨k+1,by omega,by go_num,by rw[gn m.out,ag.out];unfold sT5;rw[bn.out],h.trans C⟩
             case measure=>simp[intOf];omega
            ·obtain rfl:k=a.keys.n:=by omega
             rw[take_of_length_le (Nat.le_of_eq x.1)]at ag
             go_wp2_with fail
             clear f p
             go_loopw [4,11] (fun F L wr=> ∃(k:Nat),k≤a.frs.n∧L= i4 k∧F= i4 ((s.frs.take k).foldl sT6 x5)∧Ext w3 wr) (fun _ i _=>a.frs.n- (intOf i).toNat)
             case atStart=>exact⟨0,Nat.zero_le _,rfl,by rw[take_zero,foldl_nil],h⟩
             case round=>
              obtain⟨k,hk,rfl,rfl,f⟩:=hrel
              generalize j:(s.frs.take k).foldl sT6 x5=x6 at*
              have an:=hid j
              clear j
              have h:=hid f
              have p:=(X.ext f).cell 2
              simp only[g10,g11]at p
              by_cases o:k<a.frs.n
              ·obtain⟨y,t⟩:=aC J.1 o
               have m:=hid t
               obtain⟨_,b,O,A1,n1,c1,A2,n2,c2,Q,D,q1,q2,h1,h2,h3,h4,h5,h6⟩:=J.2.2 k y t
               subst Q
               replace D:=ai.keep ((l.trans f).keep D)
               replace q1:=ai.keep ((l.trans f).keep q1)
               replace q2:=ai.keep ((l.trans f).keep q2)
               have H1:Hid (∀z:ai wr,Cl 48 #[.slice A1 n1 c1] z.now _):=fun z=>qB y.cs A1 n1 c1 z.now h1 h2 (h3.ext ((l.trans f).trans z.ext))
               have H2:Hid (∀z:ai wr,Cl 48 #[.slice A2 n2 c2] z.now _):=fun z=>qB y.tg A2 n2 c2 z.now h4 h5 (h6.ext ((l.trans f).trans z.ext))
               clear t h1 h2 h3 h4 h5 h6
               generalize a5:mH y.cs=z1 at*
               have bo:=hid a5
               clear a5
               generalize a6:mH y.tg=z2 at*
               have bv:=hid a6
               clear a6
               have i0:(0:Int)≤(k:Int):=by omega
               have i1:(k:Int)<(a.frs.n:Int):=by omega
               have bN:=ai.keep p
               go_wp2_with fail
               refine af (by kernel_rfl) (by kernel_rfl) ?_
               repeat (go_big_quiet_step (first|(go_at_call 48;with_reducible exact aq (H1.out _))|(go_at_call 48;with_reducible exact aq (H2.out _))))
               refine wpQuiet_nil ?_
               intro w7 K
               have C:=am K
               clear K
               go_wp2_with fail
               go_roundw
               case rel=>exact⟨k+1,by omega,by go_num,by rw[gn m.out,an.out];unfold sT6;rw[bo.out,bv.out],h.trans C⟩
               case measure=>simp[intOf];omega
              ·obtain rfl:k=a.frs.n:=by omega
               rw[take_of_length_le (Nat.le_of_eq J.1)]at an
               go_wp2_with fail
               go_ret
               exact⟨aa (by rw[HR.out,if_neg (by omega),Y.out,Z.out,ac.out,ad.out,ag.out,an.out]),l.trans h⟩
end Go.Proofs.YtjigcpfjhfoheaaGreatDoor
