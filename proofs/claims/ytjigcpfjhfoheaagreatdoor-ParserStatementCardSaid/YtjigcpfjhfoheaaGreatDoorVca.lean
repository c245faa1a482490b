/- Steps of a walk over the program's parser, each with what follows it; Steps of a walk over the reference's reader, each with what follows it; Walks over the reference: WHERE, bounds, sources, orders, assignments, columns of a tabl. -/
import Derived.Great.Walk
import Derived.Test.YtjigcpfjhfoheaaGreatDoorVbj
import Derived.Test.YtjigcpfjhfoheaaGreatDoorVbf
import Derived.Deep.RegionHeldLaw
namespace Go.Proofs.YtjigcpfjhfoheaaGreatDoor
open Go.RowKit List Go.Proofs.Tryz
set_option maxHeartbeats 4000000
set_option maxRecDepth 100000
set_option linter.unusedVariables false
set_option linter.unusedSimpArgs false
section
open Lx (Tk)
section
variable {T P c:Nat} {A:OA} {L:List Tk} {w0 wi w:World} {s s':Ps} {V:List Vb} {Φ Ψ:World→Prop} {F:Nat} {x:Array Value} {R:Ending} {Q:Ending→World→Prop}
theorem En.to (E:En T P A c L w0 wi w s V Φ) (g:Cl F x w fun e w'=>e=R∧PsAt T P A c L w0 w' s'∧Chg P w w') (k:∀w',En T P A c L w0 wi w' s' V Φ→Q R w'):Cl F x w Q:=
 g.mono fun e w' ⟨h,b,f⟩=>by rw[h];exact k w' (E.call b f)
end
end
section
open Lx (Tk)
section
variable {P c:Nat} {A:OA} {L:List Tk} {w0 wi w:World} {s:Ps} {V:List Vb} {Φ:World→Prop} {Q:Ending→World→Prop}
theorem En.rtk {x:Array Value} (E:En 77 P A c L w0 wi w s V Φ) (g:TkL L) (t:BA) (h:x= #[.pointer (some ⟨P,0,none⟩),.string t]) (f:isS t s=true→∀w',En 77 P A c L w0 wi w' s.next V Φ→Q (.returned (.bool true)) w') (e:isS t s=false→∀w',En 77 P A c L w0 wi w' s V Φ→Q (.returned (.bool false)) w'):
  Cl 66 x w Q:=
 h ▸ E.to (fx E.ps g t) fun w' E=>by
  cases b:isS t s
  ·exact e b w' (by rw[ir,b]at E;exact E)
  ·exact f b w' (by rw[ir,b]at E;exact E)
theorem En.rtkb {x:Array Value} (E:En 77 P A c L w0 wi w s V Φ) (b:TkL L) (t:BA) (e:x= #[.pointer (some ⟨P,0,none⟩),.string t]) (k:∀w',En 77 P A c L w0 wi w' (optP t s) V Φ→Q (.returned (.bool (isS t s))) w'):
  Cl 66 x w Q:=
 e ▸ E.to (fx E.ps b t) k
theorem En.rnd {x:Array Value} (E:En 77 P A c L w0 wi w s V Φ) (b:TkL L) (t:BA) (e:x= #[.pointer (some ⟨P,0,none⟩),.string t]) (k:∀w',En 77 P A c L w0 wi w' (needP t s) V Φ→Q (.returned (.tuple #[])) w'):
  Cl 45 x w Q:=
 e ▸ E.to (eB E.ps b t) k
theorem En.rnm (E:En 77 P A c L w0 wi w s V Φ) (b:TkL L) (k:∀w',(takP 1 s).1.size≤20000→En 77 P A c L w0 wi w' (takP 1 s).2 V Φ→Q (.returned (.string (takP 1 s).1)) w'):
  Cl 67 #[.pointer (some ⟨P,0,none⟩)] w Q:=
 E.to (lN E.ps b) fun w' e=>k w' (E.ps.tak_size b 1) e
theorem En.rnum (E:En 77 P A c L w0 wi w s V Φ) (b:TkL L) (k:∀w',En 77 P A c L w0 wi w' (numP s).2 V Φ→Q (.returned (i4 (numP s).1)) w'):
  Cl 157 #[.pointer (some ⟨P,0,none⟩)] w Q:=
 E.to (jm E.ps b) k
theorem En.rex {K:Nat} {ex:M Ex} (j:RX P A c L w0 41 #[.pointer (some ⟨P,0,none⟩),i4 1] K ex) (E:En 77 P A c L w0 wi w s V Φ) (i:s.r.length<K) (k:∀(y:Ex) (s':Ps) B k c' w',ex s=(y,s')→En 77 P A c L w0 wi w' s' V (fun u=>Φ u∧ExV u y B k c')→Q (.returned (.agg (y.d.cells B k c').toArray)) w'):
  Cl 41 #[.pointer (some ⟨P,0,none⟩),i4 1] w Q:=
 (j w s E.ps i).mono fun e w' ⟨B,l,c',h,b,f,g⟩=>by rw[h];exact k _ _ B l c' w' rfl (E.calls b f g)
theorem En.rnmG (E:En 77 P A c L w0 wi w s V Φ) (e:TkL L) (k:∀v cs w',v.cells=cs.toArray→cs.length=1→(∀u∈cs,u.oneCell'=true)→En 77 P A c L w0 wi w' (takP 1 s).2 V (fun u=>Φ u∧nS (takP 1 s).1 cs u)→Q (.returned v) w'):
  Cl 67 #[.pointer (some ⟨P,0,none⟩)] w Q:=
 E.rnm e fun w' f b=>k (.string (takP 1 s).1) [.string (takP 1 s).1] w' rfl rfl (by simp[Value.oneCell']) (b.imp fun u h=>⟨h,rfl,Nat.le_trans f (by omega)⟩)
theorem En.rexG {K:Nat} {ex:M Ex} (i:RX P A c L w0 41 #[.pointer (some ⟨P,0,none⟩),i4 1] K ex) (E:En 77 P A c L w0 wi w s V Φ) (g:s.r.length<K) (k:∀v cs w',v.cells=cs.toArray→cs.length=8→(∀u∈cs,u.oneCell'=true)→En 77 P A c L w0 wi w' (ex s).2 V (fun u=>Φ u∧Phiex (ex s).1 cs u)→Q (.returned v) w'):
  Cl 41 #[.pointer (some ⟨P,0,none⟩),i4 1] w Q:=
 E.rex i g fun y s' B b c' w' f e=>k _ (y.d.cells B b c') w' rfl rfl (by simp[Nd.cells,Value.oneCell']) (by rw[f];exact e.imp fun u h=>⟨h.1,B,b,c',rfl,h.2⟩)
theorem posR_64 {T:Nat} (h:PsAt T P A c L w0 w s) (b:TkL L):I64 (cg s).1:=by
 have:=my b s h.sub
 unfold cg
 split
 ·show I64 (numP s).1
  unfold I64
  omega
 ·unfold I64
  omega
end
section
variable {T P c:Nat} {A:OA} {L:List Tk} {w0 wi w:World} {s:Ps} {V:List Vb} {Φ:World→Prop} {ops:Array Oper} {rest:List Oper} {o:Oper} {a:Act} {Q:Exit→Act→World→Prop}
theorem En.apr {x y:Operand} {t e sz j c2 lim:Nat} {α:Type} {l:List α} {v:Value} {m cs:LV} {B:OA} (f:List α) (U:Ap t e sz) (E:En T P A c L w0 wi w s V Φ) (z:V[j]? =some (ow wi.heap.size e sz v l.length m)) (r:o.guard=none) (W:o.op= .call { callee:= .builtin .append,args:=#[x,y],argTypes:=#[t,t] })
  (Z:a.eval x=v) (hy:a.eval y= .slice B f.length c2) (X:Reads w lim sz B f.length cs) (I:∀u∈cs,u.oneCell'=true) (hn:l.length+f.length≤1000000000)
  (k:∀h g c' w',Hid (h=l++f)→En T P A c L w0 wi w' s (V.set j (ow wi.heap.size e sz (.slice g h.length c') h.length (m++cs))) Φ→wpList prog ops Q rest (a.put o.dst (.slice g h.length c')) w'):wpList prog ops Q (o::rest) a w:=
 wpList_plain r fun _ O=>by
  obtain⟨Y,z',b,hi,hz,hs,p⟩:=U
  obtain⟨i,hi,H,J,K⟩:=tr hi
  refine dY w x y t W wi.heap.size e i z' sz b Y hi H J K hz hs.1 v l.length m Z (E.own z) _ _ f.length c2 cs hy X I (by unfold maxLen;omega) (Nat.le_trans (Nat.mul_le_mul_left _ p) (by omega)) E.size fun v' w' n D G=>?_
  obtain⟨g,c',rfl⟩:=ca n
  have C:=E.put z D (ow wi.heap.size e sz (.slice g (l.length+f.length) c') (l.length+f.length) (m++cs)) (kL n) fun q (e:(Value.slice g (l.length+f.length) c').ownBlock=some q)=>by
   rcases G with hb|hb
   ·exact .inl (hb.symm.trans e)
   ·have:=(n.lt q e).2
    have:=Option.some.inj (hb.symm.trans e)
    exact .inr ⟨by omega,by omega⟩
  have e:(l++f).length=l.length+f.length:=by simp
  have:=k (l++f) g c' w' rfl
  rw[e]at this
  exact O _ _ (this C)
theorem En.rowE {e sz:Nat} (E:En T P A c L w0 wi w s V Φ):En T P A c L w0 wi (w.alloc (.cells #[] e)) s (ow wi.heap.size e sz (.slice (some ⟨w.heap.size,0,none⟩) 0 0) 0 []::V) Φ:=by
 have h:(w.alloc (.cells #[] e)).ownsRow wi.heap.size e sz (.slice (some ⟨w.heap.size,0,none⟩) 0 0) 0 []:=⟨by simp,.inr ⟨w.heap.size,0,#[],rfl,E.size,heap_alloc_new w _,Nat.le_refl _,by unfold maxLen;omega,by simp,by simp⟩⟩
 exact E.add (x10 w _) _ (kL h) fun q e=>by cases e;exact⟨Nat.le_refl _,(h.lt _ rfl).2⟩
theorem xl {w:World} {B:OA} {l:List BA} (h:bi w B l):∃lim,Reads w lim 1 B l.length (l.map .string):=by
 cases l with
 |nil=>exact⟨0,by simp,fun h=>absurd h (by simp)⟩
 |cons a l=>
  obtain⟨_,b,i,k,_⟩:=h 0 a rfl
  refine⟨b+1,by simp,fun _=>⟨_,k,Nat.lt_succ_self _,fun j u m=>?_⟩⟩
  rw[getElem?_map]at m
  obtain⟨z,r,rfl⟩:=Option.map_eq_some_iff.1 m
  obtain⟨_,t,n,f,p⟩:=h j z r
  rw[k]at f
  injection f with e
  injection e with e1 e2
  subst e1 e2
  have g:(⟨b,i,none⟩:Addr).add j=⟨b,i+j,none⟩:=by unfold Addr.add;split<;>simp_all
  rw[g]
  exact p
end
end
section
open Lx (Tk)
section
variable {P c:Nat} {A:OA} {L:List Tk} {w0 w:World} {s:Ps}
theorem rM {n:Nat} {ex:M Ex} (i:RX P A c L w0 41 #[.pointer (some ⟨P,0,none⟩),i4 1] n ex) (l:s.r.length<n) (f:PsAt 77 P A c L w0 w s) (b:TkL L):
  Cl 71 #[.pointer (some ⟨P,0,none⟩)] w (Ran 77 P A c L w0 w (whrP ex s).2 fun v w'=>ExG w.heap.size w' (whrP ex s).1 v):=by
 have E:=En.start f
 go_enter func71,ntmps71
 go_wp2_with (first|(refine E.al rfl _ rfl rfl (cs:=zE) (t:=37) (by kernel_rfl) fun g u E=>?_)|(go_at_call 66;refine E.rtk b eH rfl (fun h u E=>?_) (fun h u E=>?_))|(go_at_call 41;refine E.rex i (by have:=au h;omega) fun y m B k c1 u e E=>?_)|(refine wpList_buildTo rfl 37 _ rfl _ rfl zE.toArray (by kernel_rfl) ?_)|(refine E.sw (j:=0) (ty:=37) rfl rfl rfl rfl rfl rfl (by kernel_rfl) (by kernel_rfl) rfl fun u E=>?_))
 ·exact E.done (by unfold whrP ifM;rw[if_pos h,e]) (j:=0) rfl rfl rfl rfl fun u h=>h.2
 ·exact E.done (y:=exZ) (by unfold whrP ifM;rw[if_neg (by rw[h];simp)];rfl) (j:=0) rfl rfl rfl rfl fun u _=>eS u
theorem rbound_rd (e:PsAt 77 P A c L w0 w s) (b:TkL L):
  Cl 215 #[.pointer (some ⟨P,0,none⟩)] w (Ran 77 P A c L w0 w (eK s).2 fun v w'=>v= i4 (eK s).1):=by
 have E:=En.start e
 have g:=my b s.next fun a f=>e.sub a (mem_of_mem_tail f)
 go_enter func215,ntmps215
 go_wp2_with (first|(go_at_call 66;refine E.rtk b dJ rfl (fun h u E=>?_) (fun h u E=>?_))|(go_at_call 157;refine E.rnum b fun u E=>?_))
 ·go_ret
  exact⟨_,rfl,by unfold eK ifM;rw[if_pos h];exact E.ps,E.chg,by unfold eK ifM;rw[if_pos h];rfl⟩
 ·go_ret
  exact⟨_,rfl,by unfold eK ifM;rw[if_neg (by rw[h];simp)];exact E.ps,E.chg,by unfold eK ifM;rw[if_neg (by rw[h];simp)];rfl⟩
theorem lO (i:PsAt 77 P A c L w0 w s) (b:TkL L):
  Cl 139 #[.pointer (some ⟨P,0,none⟩)] w (Ran 77 P A c L w0 w (srcP s).2 fun v w'=>v= .agg #[.string (srcP s).1.tb,.string (srcP s).1.al]∧(srcP s).1.tb.size≤20000∧(srcP s).1.al.size≤20000):=by
 have E:=En.start i
 have f:=hid (i.tak_size b 1)
 go_enter func139,ntmps139
 go_wp2_with (first|(refine E.al rfl _ rfl rfl (cs:= [.string ⟨#[]⟩,.string ⟨#[]⟩]) (t:=86) (by kernel_rfl) fun g u E=>?_)|(go_at_call 67;refine E.rnm b fun u e E=>?_;replace e:=hid e)|(go_at_call 66;refine E.rtk b kAS rfl (fun h u E=>?_) (fun h u E=>?_))|(refine E.sw (j:=0) (ty:=86) rfl rfl rfl rfl rfl rfl (by kernel_rfl) (by kernel_rfl) rfl fun u E=>?_)|(refine E.sw (j:=1) (ty:=86) rfl rfl rfl rfl rfl rfl (by kernel_rfl) (by kernel_rfl) rfl fun u E=>?_)|(refine E.sm (j:=0) rfl rfl rfl rfl rfl (by first|exact cA rfl|exact cS rfl|exact cI rfl|exact cL rfl|exact cB rfl) (by kernel_rfl) (by kernel_rfl) (by kernel_rfl) fun u E=>?_)|(refine E.lw (j:=0) (ty:=86) rfl rfl rfl rfl (by kernel_rfl) ?_)|(refine E.l1 (j:=0) rfl rfl rfl rfl rfl (by kernel_rfl) ?_))
 all_goals
  simp only[srcP,ay,ifM,aH, *,if_true,if_false,Bool.false_eq_true]
  exact E.fi (j:=1) rfl rfl rfl rfl (by kernel_rfl) ⟨rfl,f,by first|exact e.out|exact Nat.zero_le _⟩
theorem rN (e:PsAt 77 P A c L w0 w s) (b:TkL L):
  Cl 142 #[.pointer (some ⟨P,0,none⟩)] w (Ran 77 P A c L w0 w (dG cg s).2 fun v w'=>v= .agg #[i4 (dG cg s).1.it,.bool (dG cg s).1.ds]∧I64 (dG cg s).1.it):=by
 have E:=En.start e
 have hi:=hid (posR_64 e b)
 go_enter func142,ntmps142
 go_wp2_with (first|(refine E.al rfl _ rfl rfl (cs:= [i4 0,.bool false]) (t:=88) (by kernel_rfl) fun g u E=>?_)|(go_at_call 143;refine E.to (ld E.ps b) fun u E=>?_)|(go_at_call 66;refine E.rtk b kASC rfl (fun h u E=>?_) (fun h u E=>?_))|(go_at_call 66;refine E.rtk b jJ rfl (fun f u E=>?_) (fun f u E=>?_))|(refine E.sw (j:=0) (ty:=88) rfl rfl rfl rfl rfl rfl (by kernel_rfl) (by kernel_rfl) rfl fun u E=>?_)|(refine E.sw (j:=1) (ty:=88) rfl rfl rfl rfl rfl rfl (by kernel_rfl) (by kernel_rfl) rfl fun u E=>?_)|(refine E.sm (j:=0) rfl rfl rfl rfl rfl (by first|exact cA rfl|exact cS rfl|exact cI rfl|exact cL rfl|exact cB rfl) (by kernel_rfl) (by kernel_rfl) (by kernel_rfl) fun u E=>?_)|(refine E.lw (j:=0) (ty:=88) rfl rfl rfl rfl (by kernel_rfl) ?_))
 all_goals
  simp only[dG,ay,ifM,aH, *,if_true,if_false,Bool.false_eq_true]
  exact E.fi (j:=1) rfl rfl rfl rfl (by kernel_rfl) ⟨rfl,hi⟩
theorem j5 {n:Nat} {ex:M Ex} (m:RX P A c L w0 41 #[.pointer (some ⟨P,0,none⟩),i4 1] n ex) (z:s.r.length<n) (l:PsAt 77 P A c L w0 w s) (e:TkL L):
  Cl 70 #[.pointer (some ⟨P,0,none⟩)] w (Ran 77 P A c L w0 w (asgP ex s).2 fun v w'=> ∃B k c,v= .agg (.string (asgP ex s).1.cl:: i4 (asgP ex s).1.ix::(asgP ex s).1.ex.d.cells B k c).toArray∧((asgP ex s).1.cl.size≤20000∧I64 (asgP ex s).1.ix)∧Stb (w.heap.size≤·) w' (fun u=>ExV u (asgP ex s).1.ex B k c)):=by
 have E:=En.start l
 have p:=fwd_tak 1 s
 have f:=aA yEq (takP 1 s).2
 go_enter func70,ntmps70
 go_wp2_with (first|(refine E.al rfl _ rfl rfl (cs:=(.string ⟨#[]⟩:: i4 0::zE)) (t:=82) (by kernel_rfl) fun g u E=>?_)|(go_at_call 67;refine E.rnm e fun u b E=>?_;replace b:=hid b)|(go_at_call 45;refine E.rnd e yEq rfl fun u E=>?_)|(go_at_call 41;refine E.rex m (by omega) fun y C B k c1 u i E=>?_)|(refine E.sw (j:=0) (ty:=82) rfl rfl rfl rfl rfl rfl (by kernel_rfl) (by kernel_rfl) rfl fun u E=>?_)|(refine E.sw (j:=1) (ty:=82) rfl rfl rfl rfl rfl rfl (by kernel_rfl) (by kernel_rfl) rfl fun u E=>?_)|(refine E.sm (j:=0) rfl rfl rfl rfl rfl (by first|exact cA rfl|exact cS rfl|exact cI rfl|exact cL rfl|exact cB rfl) (by kernel_rfl) (by kernel_rfl) (by kernel_rfl) fun u E=>?_)|(refine E.lw (j:=0) (ty:=82) rfl rfl rfl rfl (by kernel_rfl) ?_))
 simp only[asgP,ay,aE,aH,i]
 exact E.fi (j:=1) rfl rfl rfl rfl (by kernel_rfl) ⟨B,k,c1,by kernel_rfl,⟨b,cy⟩,E.keep.imp fun u h=>h.2⟩
theorem rtyped_rd (l:PsAt 77 P A c L w0 w s) (e:TkL L):
  Cl 137 #[.pointer (some ⟨P,0,none⟩)] w (Ran 77 P A c L w0 w (ek s).2 fun v w'=>Elcol (ek s).1 v):=by
 have E:=En.start l
 have k:=hid (l.tak_size e 1)
 have i:=hid trivial
 go_enter func137,ntmps137
 go_wp2_with (first|(refine E.al rfl _ rfl rfl (cs:= [.string ⟨#[]⟩,i4 0,i4 0,i4 0,i4 0,.bool false]) (t:=99) (by kernel_rfl) fun g u E=>?_)|(go_at_call 67;refine E.rnm e fun u m E=>?_;replace m:=hid m)|(go_at_call 66;refine E.rtk e eJ rfl (fun b u E=>?_) (fun b u E=>?_))|(go_at_call 66;refine E.rtk e yLp rfl (fun h u E=>?_) (fun h u E=>?_))|(go_at_call 66;refine E.rtk e kNOT rfl (fun f u E=>?_) (fun f u E=>?_))|(go_at_call 45;refine E.rnd e kNULL rfl fun u E=>?_)|(go_at_call 45;refine E.rnd e pi rfl fun u E=>?_)|(go_at_call 45;refine E.rnd e yCm rfl fun u E=>?_)|(go_at_call 45;refine E.rnd e yRp rfl fun u E=>?_)|(go_at_call 215;replace i:=hid (And.intro (bnd_64 E.ps e) i);refine E.run (rbound_rd E.ps e) fun v u p E=>?_;subst p)|(go_at_call 157;have n:=hid (E.ps.num_le e);refine E.rnum e fun u E=>?_)|(refine E.sw (j:=0) (ty:=99) rfl rfl rfl rfl rfl rfl (by kernel_rfl) (by kernel_rfl) rfl fun u E=>?_)|(refine E.sw (j:=1) (ty:=99) rfl rfl rfl rfl rfl rfl (by kernel_rfl) (by kernel_rfl) rfl fun u E=>?_)|(refine E.sm (j:=0) rfl rfl rfl rfl rfl (by first|exact cA rfl|exact cS rfl|exact cI rfl|exact cL rfl|exact cB rfl) (by kernel_rfl) (by kernel_rfl) (by kernel_rfl) fun u E=>?_)|(refine E.lw (j:=0) (ty:=99) rfl rfl rfl rfl (by kernel_rfl) ?_))
 all_goals
  simp only[ek,typP,pj,maxP,ay,ifM,aE,aH, *,if_true,if_false,Bool.false_eq_true]
  exact E.fi (j:=1) rfl rfl rfl rfl (by kernel_rfl) ⟨rfl,by have:=k.out;exact Nat.le_trans this (by omega),by dsimp only;unfold I64;omega,by first|exact i.2.1|(dsimp only;unfold I64;omega),by first|exact i.1|(dsimp only;unfold I64;omega),by first|(dsimp only;unfold I64;omega)|(have:=n.out;dsimp only;unfold I64;omega)⟩
end
end
section
open Lx (Tk)
section
variable {P c:Nat} {A:OA} {L:List Tk} {w0 w:World} {s:Ps}
theorem rO (O:PsAt 77 P A c L w0 w s) (i:TkL L):
  Cl 136 #[.pointer (some ⟨P,0,none⟩)] w (Ran 77 P A c L w0 w (namesP s).2 fun v w'=>NmsG w.heap.size w' (namesP s).1 v):=by
 have E:=En.start O
 obtain⟨b,g⟩:∃x,needP yLp s=x:=⟨_,rfl⟩
 have K:=aA yLp s
 have a0:=O.le
 have ag:=i.len
 have C:Hid (namesP s=((listP (takP 1) b).1,needP yRp (listP (takP 1) b).2)):=by subst g;exact hid rfl
 have n:=list_len (fwd_tak 1) b
 obtain⟨Z,Y⟩:∃Z,namesP s=Z:=⟨_,rfl⟩
 rw[Y]at C ⊢
 have W:Hid (listP (takP 1) b=listGo (takP 1) (b.r.length+1) [((takP 1) b).1] ((takP 1) b).2):=rfl
 obtain⟨R,X⟩:∃R,listP (takP 1) b=R:=⟨_,rfl⟩
 rw[X]at C W n
 rw[g]at K
 have an:=(fwd_tak 1) b
 clear X Y O
 go_enter func136,ntmps136
 go_wp2_with (first|(go_at_call 45;refine E.rnd i yLp rfl fun u E=>?_;rw[g]at E)|(go_at_call 67;refine E.rnmG i fun v cs u t f H E=>?_)|(refine bsG ap_str rfl rfl _ t f ?_))
 replace E:=hid ((E.row1 (e:=9) f).imp fun u h=>Els.one f h.2)
 clear t H
 generalize hw:World.alloc _ _=w2 at*
 clear hw
 go_loopw [3,10] (fun vv _ wr=> ∃(m:Nat) (st:Ps) (l:List (BA)) (z:LV) (n0:Nat),st.r.length<m∧l.length+st.r.length≤b.r.length+1∧R=listGo (takP 1) m l st∧En 77 P A c L w0 w wr st [ow w.heap.size 9 1 vv l.length z] (Els nS 1 l z)) (fun _ _ wr=>20001-posO P wr)
 case atStart=>exact⟨_,_,_,cs,0,by omega,by show 1+_≤_;omega,W,E⟩
 case round=>
  clear E f
  obtain⟨m,st,l,z,_,hm,ax,I,E⟩:=hrel
  obtain⟨m,rfl⟩:∃x,m=x+1:=⟨m-1,by omega⟩
  rw[listGo]at I
  have p:=hid I
  have D:=hid E.ps.posO
  have ad:=E.ps.le
  clear I
  go_wp2_with (first|(go_at_call 66;refine E.rtk i yCm rfl (fun y u E=>?_) (fun y u E=>?_))|(go_at_call 67;refine E.rnmG i fun v cs u t f H E=>?_)|(refine bsG ap_str rfl rfl _ t f ?_)|(at_builtin;refine E.ap ((takP 1) st.next).1 ap_str (j:=0) rfl rfl rfl rfl rfl rfl f H (by omega) fun l2 A2 c2 u hl E=>?_)|(go_at_call 45;refine E.rnd i yRp rfl fun u E=>?_))
  ·rw[y]at p
   have aS:=au y
   have ac:=(fwd_tak 1) st.next
   have G:=E.ps.posO
   obtain rfl:=hl.out
   exact⟨⟨m,_,_,z++cs,0,by omega,by simp;omega,p,E.imp fun u h=>Els.snoc h.1 f h.2⟩,by rw[G,D.out];omega⟩
  ·rw[y]at p
   obtain rfl:R=(l,st):=p.out
   obtain⟨B,k,U,J⟩:∃B k,u3= .slice B l.length k∧l.length≤k:=by
    obtain⟨B,k,U,J,_⟩:=Els.lst E.stb.now (E.own (j:=0) rfl)
    exact⟨B,k,U,J⟩
   subst U
   have HB:=E.all.imp fun u h=>Els.lst' h.1 (h.2 _ (mem_cons_self ..))
   go_ret
   rw[C.out]
   exact⟨_,rfl,E.ps,E.chg,B,k,rfl,⟨by have:l.length≤_:=n;show l.length≤_;omega,J⟩,HB.imp fun u h=>vc h⟩
theorem rP {n:Nat} {ex:M Ex} (hr:RX P A c L w0 41 #[.pointer (some ⟨P,0,none⟩),i4 1] n ex) (hn:s.r.length<n) (g:Fwd ex) (U:PsAt 77 P A c L w0 w s) (C:TkL L):
  Cl 69 #[.pointer (some ⟨P,0,none⟩)] w (Ran 77 P A c L w0 w (tupP ex s).2 fun v w'=> ∃B k,v= .slice B (tupP ex s).1.length k∧(tupP ex s).1.length≤20001∧Stb (w.heap.size≤·) w' (fun u=>KidsAt u B (tupP ex s).1)):=by
 have E:=En.start U
 obtain⟨b,i⟩:∃x,needP yLp s=x:=⟨_,rfl⟩
 have O:=aA yLp s
 have a0:=U.le
 have ag:=C.len
 have G:Hid (tupP ex s=((listP ex b).1,needP yRp (listP ex b).2)):=by subst i;exact hid rfl
 have p:=list_len g b
 obtain⟨Z,hZ⟩:∃Z,tupP ex s=Z:=⟨_,rfl⟩
 rw[hZ]at G ⊢
 have X:Hid (listP ex b=listGo ex (b.r.length+1) [(ex b).1] (ex b).2):=rfl
 obtain⟨R,Y⟩:∃R,listP ex b=R:=⟨_,rfl⟩
 rw[Y]at G X p
 rw[i]at O
 have an:=g b
 clear Y hZ U
 go_enter func69,ntmps69
 go_wp2_with (first|(go_at_call 45;refine E.rnd C yLp rfl fun u E=>?_;rw[i]at E)|(go_at_call 41;refine E.rexG hr (by omega) fun v cs u z f J E=>?_)|(refine bsG ap_ex rfl rfl _ z f ?_))
 replace E:=hid ((E.row1 (e:=37) f).imp fun u h=>Els.one f h.2)
 clear z J
 generalize hw:World.alloc _ _=w2 at*
 clear hw
 go_loopw [3,10] (fun vv _ wr=> ∃(m:Nat) (st:Ps) (l:List (Ex)) (D:LV) (n0:Nat),st.r.length<m∧l.length+st.r.length≤b.r.length+1∧R=listGo ex m l st∧En 77 P A c L w0 w wr st [ow w.heap.size 37 8 vv l.length D] (Els Phiex 8 l D)) (fun _ _ wr=>20001-posO P wr)
 case atStart=>exact⟨_,_,_,cs,0,by omega,by show 1+_≤_;omega,X,E⟩
 case round=>
  clear E f
  obtain⟨m,st,l,D,_,hm,ax,K,E⟩:=hrel
  obtain⟨m,rfl⟩:∃x,m=x+1:=⟨m-1,by omega⟩
  rw[listGo]at K
  have y:=hid K
  have H:=hid E.ps.posO
  have ad:=E.ps.le
  clear K
  go_wp2_with (first|(go_at_call 66;refine E.rtk C yCm rfl (fun t u E=>?_) (fun t u E=>?_))|(go_at_call 41;refine E.rexG hr (by have:=au t;omega) fun v cs u z f J E=>?_)|(refine bsG ap_ex rfl rfl _ z f ?_)|(at_builtin;refine E.ap (ex st.next).1 ap_ex (j:=0) rfl rfl rfl rfl rfl rfl f J (by omega) fun l2 A2 c2 u hl E=>?_)|(go_at_call 45;refine E.rnd C yRp rfl fun u E=>?_))
  ·rw[t]at y
   have aS:=au t
   have ac:=g st.next
   have I:=E.ps.posO
   obtain rfl:=hl.out
   exact⟨⟨m,_,_,D++cs,0,by omega,by simp;omega,y,E.imp fun u h=>Els.snoc h.1 f h.2⟩,by rw[I,H.out];omega⟩
  ·rw[t]at y
   obtain rfl:R=(l,st):=y.out
   obtain⟨B,k,W,hk⟩:∃B k,u3= .slice B l.length k∧l.length≤k:=by
    obtain⟨B,k,W,hk,_⟩:=Els.lst E.stb.now (E.own (j:=0) rfl)
    exact⟨B,k,W,hk⟩
   subst W
   have HB:=E.all.imp fun u h=>Els.lst' h.1 (h.2 _ (mem_cons_self ..))
   go_ret
   rw[G.out]
   exact⟨_,rfl,E.ps,E.chg,B,k,rfl,by have:l.length≤_:=p;show l.length≤_;omega,HB.imp fun u h=>jY h⟩
end
end
section
open Lx (Tk)
abbrev wdC:LV:=opsAgg.map fun x=> .string x.1
theorem agg_q:∀(k:Nat) (x:BA×Int),opsAgg[k]? =some x→x.2=2+(k:Int)
 |0,x,h=>by cases h;rfl
 |1,x,h=>by cases h;rfl
 |2,x,h=>by cases h;rfl
 |3,x,h=>by cases h;rfl
 |k+4,x,h=>by simp[opsAgg]at h
section
variable {P c:Nat} {A:OA} {L:List Tk} {w0 w:World} {s:Ps}
theorem vG {n:Nat} {ex:M Ex} (X:RX P A c L w0 41 #[.pointer (some ⟨P,0,none⟩),i4 1] n ex) (hn:s.r.length<n) (hp:PsAt 77 P A c L w0 w s) (f:TkL L):
  Cl 138 #[.pointer (some ⟨P,0,none⟩)] w (Ran 77 P A c L w0 w (cY ex s).2 fun v w'=> ∃B k c,v= .agg (i4 (cY ex s).1.ag::(cY ex s).1.ex.d.cells B k c).toArray∧I64 (cY ex s).1.ag∧Stb (w.heap.size≤·) w' (fun u=>ExV u (cY ex s).1.ex B k c)):=by
 have e:Hid (cY ex s=match (firstP opsAgg s).1 with|some o=> (if o=2 then ifM cZ (ay (aE yRp) fun _=>aH ⟨1,exZ⟩) (itm1 ex o)else itm1 ex o) (needP yLp (firstP opsAgg s).2)|none=> (⟨0,(ex s).1⟩,(ex s).2)):=rfl
 obtain⟨R,hR⟩:∃R,cY ex s=R:=⟨_,rfl⟩
 rw[hR]at e ⊢
 have E:=En.start hp
 clear hR hp
 go_enter func138,ntmps138
 go_wp2_with (refine E.al rfl _ rfl rfl (cs:=(i4 0::zE)) (t:=84) (by kernel_rfl) fun g0 u E=>?_)
 generalize hw:World.alloc _ _=w2
 replace E:=hid (dq (cs:=wdC) E hw)
 obtain⟨gs,z⟩:∃x,u.heap.size=x:=⟨_,rfl⟩
 rw[z]at E ⊢
 clear hw z
 go_loopw [4] (fun Y wr=> ∃k:Nat,k≤4∧Y= i4 k∧firstP opsAgg s=firstP (opsAgg.drop k) s∧En 77 P A c L w0 w wr s [bk gs 9 wdC,bk g0 84 (i4 0::zE)] (fun _=>True)) (fun Y _=>4- (intOf Y).toNat)
 case atStart=>exact⟨0,by omega,rfl,rfl,E⟩
 case round=>
  clear E
  obtain⟨k,hk,rfl,b,E⟩:=hrel
  replace E:=hid E
  generalize wr=an at*
  by_cases D:k<4
  ·obtain⟨⟨t,q⟩,K⟩:∃x,opsAgg[k]? =some x:=⟨_,getElem?_eq_getElem (by show k<4;exact D)⟩
   have l:opsAgg.drop k=(t,q)::opsAgg.drop (k+1):=by
    obtain⟨h1,h2⟩:=List.getElem?_eq_some_iff.1 K
    rw[drop_eq_getElem_cons h1,h2]
   rw[l,firstP]at b
   have H:q=2+(k:Int):=agg_q k _ K
   have s0:=(E.get (j:=0) rfl).cell_some (i:=k) (v:= .string t) (by unfold wdC;rw[getElem?_map,K];rfl)
   have i0:(0:Int)≤(k:Int):=by omega
   have i1:(k:Int)<4:=by omega
   clear l K
   replace b:=hid b
   have HQ:=hid H
   clear H
   replace E:=E.out
   go_wp2_with (go_at_call 66;refine E.rtk f t rfl (fun J u E=>?_) (fun J u E=>?_))
   ·have p:firstP opsAgg s=(some q,s.next):=by rw[b.out,if_pos J]
    rw[p]at e
    have ac:=au J
    clear b p s0
    have ad:=aA yLp s.next
    have C:I64 (2+(k:Int)):=by unfold I64;omega
    have U:(k=0∧q=2)∨(((k:Int)==0)=false∧¬q=2∧q=2+(k:Int)):=by
     have:=HQ.out
     by_cases Z:k=0
     ·exact .inl ⟨Z,by omega⟩
     ·exact .inr ⟨by simpa using Z,by omega,this⟩
    rcases U with ⟨rfl,rfl⟩|⟨hk0,hq2,rfl⟩
    ·go_wp2_with (first|(refine E.lw (j:=0) (ty:=84) rfl rfl rfl rfl (by kernel_rfl) ?_)|(go_at_call 45;refine E.rnd f yLp rfl fun u E=>?_)|(go_at_call 45;refine E.rnd f yRp rfl fun u E=>?_)|(refine E.al rfl _ rfl rfl (cs:=(i4 0::zE)) (t:=84) (by kernel_rfl) fun g u E=>?_)|(refine wpList_buildTo rfl 84 _ rfl _ rfl (i4 2::zE).toArray (by kernel_rfl) ?_)|(go_at_call 66;refine E.rtk f cZ rfl (fun hs u E=>?_) (fun hs u E=>?_))|(go_at_call 41;refine E.rex X (by first|omega|(have:=au hs;omega)) fun y I B k c1 u G E=>?_)|(refine E.sw (j:=0) (ty:=84) rfl rfl rfl rfl rfl rfl (by kernel_rfl) (by kernel_rfl) rfl fun u E=>?_)|(refine E.sw (j:=2) (ty:=84) rfl rfl rfl rfl rfl rfl (by kernel_rfl) (by kernel_rfl) rfl fun u E=>?_)|(refine E.sm (j:=0) rfl rfl rfl rfl rfl (by first|exact cA rfl|exact cS rfl|exact cI rfl|exact cL rfl|exact cB rfl) (by kernel_rfl) (by kernel_rfl) (by kernel_rfl) fun u E=>?_))
     ·obtain rfl:R=(⟨1,exZ⟩,needP yRp (needP yLp s.next).next):=by rw[e.out];simp only[ifM,hs,ay,aE,aH,if_true]
      exact E.fi (j:=2) rfl rfl rfl rfl (by kernel_rfl) ⟨none,0,0,by kernel_rfl,rv,E.keep.imp fun u h=>eS u⟩
     ·obtain rfl:R=(⟨2,y⟩,needP yRp I):=by rw[e.out];simp only[ifM,hs,itm1,ay,aE,aH,if_true,Bool.false_eq_true,if_false,G]
      exact E.fi (j:=2) rfl rfl rfl rfl (by kernel_rfl) ⟨B,k,c1,by kernel_rfl,lb,E.keep.imp fun u h=>h.2⟩
    ·have O:=hid hq2
     clear hq2
     go_wp2_with (first|(refine E.lw (j:=0) (ty:=84) rfl rfl rfl rfl (by kernel_rfl) ?_)|(go_at_call 45;refine E.rnd f yLp rfl fun u E=>?_)|(go_at_call 45;refine E.rnd f yRp rfl fun u E=>?_)|(refine E.al rfl _ rfl rfl (cs:=(i4 0::zE)) (t:=84) (by kernel_rfl) fun g u E=>?_)|(refine wpList_buildTo rfl 84 _ rfl _ rfl (i4 (2+(k:Int))::zE).toArray (by kernel_rfl) ?_)|(go_at_call 66;refine E.rtk f cZ rfl (fun hs u E=>?_) (fun hs u E=>?_))|(go_at_call 41;refine E.rex X (by first|omega|(have:=au hs;omega)) fun y I B k2 c1 u G E=>?_)|(refine E.sw (j:=0) (ty:=84) rfl rfl rfl rfl rfl rfl (by kernel_rfl) (by kernel_rfl) rfl fun u E=>?_)|(refine E.sw (j:=2) (ty:=84) rfl rfl rfl rfl rfl rfl (by kernel_rfl) (by kernel_rfl) rfl fun u E=>?_)|(refine E.sm (j:=0) rfl rfl rfl rfl rfl (by first|exact cA rfl|exact cS rfl|exact cI rfl|exact cL rfl|exact cB rfl) (by kernel_rfl) (by kernel_rfl) (by kernel_rfl) fun u E=>?_))
     obtain rfl:R=(⟨2+(k:Int),y⟩,needP yRp I):=by rw[e.out];simp only[if_neg O.out,itm1,ay,aE,aH,G]
     exact E.fi (j:=2) rfl rfl rfl rfl (by kernel_rfl) ⟨B,k2,c1,by kernel_rfl,C,E.keep.imp fun u h=>h.2⟩
   ·have W:firstP opsAgg s=firstP (opsAgg.drop (k+1)) s:=by rw[b.out,if_neg (by rw[J];simp)]
    exact⟨⟨k+1,by omega,by go_num,W,E⟩,by simp[intOf];omega⟩
  ·obtain rfl:k=4:=by omega
   have m:firstP opsAgg s=(none,s):=b
   rw[m]at e
   clear m b D hk
   replace E:=E.out
   go_wp2_with (first|(go_at_call 41;refine E.rex X (by omega) fun y I B k c1 u G E=>?_)|(refine wpList_buildTo rfl 84 _ rfl _ rfl (i4 0::y.d.cells B k c1).toArray (by kernel_rfl) ?_)|(refine E.sw (j:=1) (ty:=84) rfl rfl rfl rfl rfl rfl (by kernel_rfl) (by kernel_rfl) rfl fun u E=>?_))
   obtain rfl:R=(⟨0,y⟩,I):=by rw[e.out];simp only[G]
   exact E.fi (j:=1) rfl rfl rfl rfl (by kernel_rfl) ⟨B,k,c1,by kernel_rfl,cy,E.keep.imp fun u h=>h.2⟩
end
end
section
open Lx (Tk)
theorem query_ofR {ex:M Ex} {s b e h j k m:Ps} {i:List Itm} {f:List Src×List Ex} {W:Ex} {g:List Ex} {o:List Ord'} {l:Int} (n:itmsP ex s=(i,b)) (p:fromP ex (needP kFROM b)=(f,e)) (r:cr ex bZ f.2 e=(W,h)) (t:fT h=(g,j)) (u:da cg j=(o,k)) (y:limP cg k=(l,m)):
  queryP ex cg bZ s=(qS i f.1 W g o l,m):=by
 unfold queryP ay aE aH
 simp only[n,p,r,t,u,y]
 rfl
theorem qs (c:List Ex) (y:Ex):bZ (c++ [y])=andR (bZ c) y:=by
 unfold bZ
 rw[foldl_append]
 rfl
theorem fwd_posR:Fwd cg:=fun s=>by
 unfold cg
 split
 ·exact Nat.le_refl _
 ·exact ig s
theorem mF:Fwd (dG cg):=az fwd_posR fun _=>de _ (aK _) (de _ (aK _) (aK _))
theorem fwd_itm {ex:M Ex} (h:Fwd ex):Fwd (cY ex):=sI _ (fun o=>az (aP _) fun _=>by split;exact de _ (az (aP _) fun _=>aK _) (az h fun _=>az (aP _) fun _=>aK _);exact az h fun _=>az (aP _) fun _=>aK _) (az h fun _=>aK _)
theorem rand_at {S:Nat→Prop} {op ix vk vi op2 b n l i e p m:Int} {tb nm vt j f t k g y:BA} {ks z B:List Ex} {D E:OA} {H c1 I c2:Nat} {W:World} (K:andR (.mk ⟨op,tb,nm,ix,vk,vi,vt⟩ ks) (.mk ⟨op2,j,f,b,n,l,t⟩ z)= .mk ⟨i,k,g,e,p,m,y⟩ B) (O:∀q,W.heap.size≤q→S q) (U:Stb S W fun u=>ExV u (.mk ⟨op,tb,nm,ix,vk,vi,vt⟩ ks) D H c1) (C:Stb S W fun u=>ExV u (.mk ⟨op2,j,f,b,n,l,t⟩ z) E I c2):
  Cl 140 #[.agg #[i4 op,.string tb,.string nm,i4 ix,i4 vk,i4 vi,.string vt,.slice D H c1],.agg #[i4 op2,.string j,.string f,i4 b,i4 n,i4 l,.string t,.slice E I c2]] W fun r w'=> ∃G J c3,r= .returned (.agg #[i4 i,.string k,.string g,i4 e,i4 p,i4 m,.string y,.slice G J c3])∧Ext W w'∧Stb S w' (fun u=>ExV u (.mk ⟨i,k,g,e,p,m,y⟩ B) G J c3):=by
 have h:=rand_any O U C
 rw[K]at h
 exact h
theorem En.give {T P c:Nat} {A:OA} {L:List Tk} {w0 wi w:World} {s:Ps} {V:List Vb} {Φ:World→Prop} {x:Vb} (h:En T P A c L w0 wi w s (x::V) Φ):En T P A c L w0 wi w s V (fun u=>Φ u∧x.2 u):=
 { h.pop with stb:=fun k g i=>⟨h.stb k g fun q b j=>i q b ⟨j.1,fun z f=>j.2 z (mem_cons_of_mem _ f)⟩,h.blk x (mem_cons_self ..) k g fun q b e=>i q b ⟨(h.new x (mem_cons_self ..) q e).1,fun z f=> (List.pairwise_cons.1 h.nod).1 z f q e⟩⟩ }
section
variable {P c:Nat} {A:OA} {L:List Tk} {w0 w:World} {s:Ps}
theorem rquery_rd {n:Nat} {ex:M Ex} (hr:RX P A c L w0 41 #[.pointer (some ⟨P,0,none⟩),i4 1] n ex) (b9:Fwd ex) (hn:s.r.length<n) (fa:n≤30000) (hp:PsAt 77 P A c L w0 w s) (Y:TkL L):
  Cl 72 #[.pointer (some ⟨P,0,none⟩)] w (Ran 77 P A c L w0 w (queryP ex cg bZ s).2 fun v w'=>ElSt w.heap.size w' (queryP ex cg bZ s).1 v):=by
 obtain⟨R,hR⟩:∃R,queryP ex cg bZ s=R:=⟨_,rfl⟩
 rw[hR]
 have d8:=hid hR
 clear hR
 have E:=En.start hp
 have eN:=Y.len
 have fe:=hp.le
 clear hp
 go_enter func72,ntmps72
 go_upto_region 1 with (refine E.al rfl _ rfl rfl (cs:=zS) (t:=40) (by kernel_rfl) fun X u E=>?_)
 go_upto_if 7 with (first|(refine E.al rfl _ rfl rfl (cs:=zS) (t:=40) (by kernel_rfl) fun gv u E=>?_)|(refine wpList_buildTo rfl 40 _ rfl _ rfl (qC nl nl zE nl nl 0).toArray (by kernel_rfl) ?_)|(refine E.sw (j:=0) (ty:=40) rfl rfl rfl rfl rfl rfl (by kernel_rfl) (by kernel_rfl) rfl fun u E=>?_)|(go_at_call 66;refine E.rtkb Y cZ rfl fun u E=>?_))
 obtain⟨q,hq⟩:∃q,isS cZ s=q:=⟨_,rfl⟩
 rw[hq]
 have J:=hid hq
 clear hq
 go_cut [] from 8 to 23 (fun wx=> ∃(H:OA) (ki:Nat) (I:List Itm) (st:Ps),itmsP ex s=(I,st)∧I.length≤20001∧st.r.length≤s.r.length∧En 77 P A c L w0 w wx st [bk gv 40 (qC (.slice H I.length ki) nl zE nl nl 0),bk X 40 zS] (fun u=>Lst bA 9 u H I))
 case first=>
  cases q
  ·rw[show optP cZ s=s by simp[optP,J.out]]at E
   have bd:=fwd_itm b9
   have a9:Hid (listP (cY ex) s=listGo (cY ex) (s.r.length+1) [((cY ex) s).1] ((cY ex) s).2):=rfl
   have a1:=list_len bd s
   have a0:=fwd_list bd s
   have ac:=bd s
   obtain⟨Ri,b6⟩:∃R,listP (cY ex) s=R:=⟨_,rfl⟩
   rw[b6]at a9 a1 a0
   have dw:=hid b6
   clear b6
   obtain⟨⟨⟨ag,⟨⟨op,tb,nm,ix,vk,vi,vt⟩,ks⟩⟩,Z⟩,C⟩:∃x,(cY ex) s=x:=⟨_,rfl⟩
   rw[C]at a9 ac
   simp only at a9 ac
   replace E:=(E.row0 (α:=Itm) w.heap.size 84 9).imp (Ψ:=fun u=> (True)∧Els bA 9 ([]:List (Itm)) [] u) fun u h=>⟨h,Els.nil⟩
   go_upto_region 3 with fail
   go_cut [] from 8 to 14 (fun wx=> ∃(b:OA) (c':Nat) (z:LV),En 77 P A c L w0 w wx Z [ow w.heap.size 84 9 (.slice b [(⟨ag,⟨⟨op,tb,nm,ix,vk,vi,vt⟩,ks⟩⟩:Itm)].length c') [(⟨ag,⟨⟨op,tb,nm,ix,vk,vi,vt⟩,ks⟩⟩:Itm)].length z,bk gv 40 (qC (.slice b [(⟨ag,⟨⟨op,tb,nm,ix,vk,vi,vt⟩,ks⟩⟩:Itm)].length c') nl zE nl nl 0),bk X 40 zS] (fun u=> (True)∧Els bA 9 [(⟨ag,⟨⟨op,tb,nm,ix,vk,vi,vt⟩,ks⟩⟩:Itm)] z u))
   case first=>
    have z1:=(E.get (j:=1) rfl).cell_some (i:=8) rfl
    replace E:=hid (E.ext (Ext.refl _).drew)
    have z2:=(E.get (j:=1) rfl).cell_some (i:=8) rfl
    go_region_law (first
     |(refine E.aps (⟨ag,⟨⟨op,tb,nm,ix,vk,vi,vt⟩,ks⟩⟩:Itm) ap_itm (j:=0) rfl rfl rfl rfl rfl rfl rfl (by simp[Value.oneCell']) (by first|omega|simp) fun l' b c' u hl E=>?_;have z9:=(E.get (j:=1) rfl).cell_some (i:=8) rfl;have y9:=(E.get (j:=1) rfl).frozen 8;replace E:=hid E)
     |(go_simp;(go_at_call 138;have e:=vG hr (by omega) E.ps Y;rw[C]at e;simp only[Ex.d,Nd.cells]at e;(with_reducible refine e.mono ?_);rintro _ u3 ⟨v,rfl,K,U,B,k,c1,rfl,X,g3⟩;replace E:=hid (E.calls K U g3);clear K U e);have z3:=(E.get (j:=1) rfl).cell_some (i:=8) rfl;have z4:=fun o=> (x10 u3 o).keep z3))
    all_goals
     replace E:=E.set (j:=1) rfl 8 (.slice b l'.length c')
     go_wp2_with fail
     go_meet
     obtain rfl:=hl.out
     exact⟨_,_,_,E.imp fun u h=>⟨h.1.1,Els.snoc h.1.2 rfl ⟨B,k,c1,rfl,X,h.2⟩⟩⟩
   case rest=>
    obtain⟨A1,c1,z,E⟩:=hcut
    generalize wc=wi at*
    clear C
    go_wp2_with fail
    go_loopw [16] (fun _ wr=>Hid (∃(m:Nat) (st:Ps) (l:List (Itm)) (z:LV) (b:OA) (c':Nat),st.r.length<m∧l.length+st.r.length≤s.r.length+1∧Ri=listGo (cY ex) m l st∧En 77 P A c L w0 w wr st [ow w.heap.size 84 9 (.slice b l.length c') l.length z,bk gv 40 (qC (.slice b l.length c') nl zE nl nl 0),bk X 40 zS] (fun u=> (True)∧Els bA 9 l z u))) (fun _ wr=>20001-posO P wr)
    case atStart=>exact hid ⟨_,Z,_,z,A1,c1,by omega,by show 1+_≤_;omega,a9,E⟩
    case round=>
     clear E
     obtain⟨m,st,l,z,A1,c1,hm,be,hI,E⟩:=hrel.out
     obtain⟨m,rfl⟩:∃x,m=x+1:=⟨m-1,by omega⟩
     rw[listGo]at hI
     have D:=hid hI
     have an:=hid E.ps.posO
     have a6:=E.ps.le
     clear hI
     go_wp2_with (first|(go_at_call 66;refine E.rtk Y yCm rfl (fun hb u E=>?_) (fun hb u E=>?_)))
     ·rw[hb,if_pos rfl]at D
      have a2:=au hb
      have g:=bd st.next
      obtain⟨⟨⟨ag,⟨⟨op,tb,nm,ix,vk,vi,vt⟩,ks⟩⟩,s6⟩,C⟩:∃x,(cY ex) st.next=x:=⟨_,rfl⟩
      rw[C]at D g
      simp only at D g
      have z1:=(E.get (j:=1) rfl).cell_some (i:=8) rfl
      replace E:=hid (E.ext (Ext.refl _).drew)
      have z2:=(E.get (j:=1) rfl).cell_some (i:=8) rfl
      go_region_law (first
       |(refine E.aps (⟨ag,⟨⟨op,tb,nm,ix,vk,vi,vt⟩,ks⟩⟩:Itm) ap_itm (j:=0) rfl rfl rfl rfl rfl rfl rfl (by simp[Value.oneCell']) (by first|omega|simp) fun l' b c' u hl E=>?_;have z9:=(E.get (j:=1) rfl).cell_some (i:=8) rfl;have y9:=(E.get (j:=1) rfl).frozen 8;replace E:=hid E)
       |(go_simp;(go_at_call 138;have e:=vG hr (by omega) E.ps Y;rw[C]at e;simp only[Ex.d,Nd.cells]at e;(with_reducible refine e.mono ?_);rintro _ u3 ⟨v,rfl,K,U,B,k,c1,rfl,X,g3⟩;replace E:=hid (E.calls K U g3);clear K U e);have z3:=(E.get (j:=1) rfl).cell_some (i:=8) rfl;have z4:=fun o=> (x10 u3 o).keep z3))
      all_goals
       replace E:=E.set (j:=1) rfl 8 (.slice b l'.length c')
       go_wp2_with fail
       have ax:=E.ps.posO
       go_roundw
       case rel=>
        first|refine⟨_,_,_,_,_,_,_,_,_,?_,rfl⟩|skip
        exact hid ⟨m,s6,l',_,b,c',by omega,by rw[hl.out];simp;omega,by rw[hl.out];exact D,E.imp fun u h=>⟨h.1.1,hl.out ▸ Els.snoc h.1.2 rfl ⟨B,k,c1,rfl,X,h.2⟩⟩⟩
       case measure=>rw[ax,an.out];omega
     ·rw[hb,if_neg (by simp)]at D
      obtain rfl:Ri=(l,st):=D.out
      replace E:=E.give.imp (Ψ:=fun u=> (True)∧Lst bA 9 u A1 l) fun u h=>⟨h.1.1,h.1.2.lst' h.2⟩
      go_wp2_with fail
      go_meet
      exact⟨A1,c1,l,st,by unfold itmsP ifM;rw[J.out];exact dw,by have:l.length≤_:=a1;omega,a0,E.imp fun u h=>h.2⟩
  ·rw[show optP cZ s=s.next by simp[optP,J.out]]at E
   go_wp2_with fail
   go_meet
   exact⟨none,0,[],s.next,by unfold itmsP ifM;rw[J.out];rfl,by simp,next_len s,E.imp fun u _ i a h=>by cases h⟩
 case rest=>
  obtain⟨H,ki,I,s1,c0,c4,eL,E⟩:=hcut
  have cx:=hid (And.intro c0 c4)
  clear c0 c4 J
  generalize wc=fl at*
  have et:=aA kFROM s1
  go_upto_region 7 with (go_at_call 45;refine E.rnd Y kFROM rfl fun u E=>?_)
  obtain⟨s2,cb⟩:∃x,needP kFROM s1=x:=⟨_,rfl⟩
  rw[cb]at E et
  have d9:=hid cb
  clear cb
  have a4:=hid (from_eq ex s2)
  obtain⟨FR,b4⟩:∃FR,fromP ex s2=FR:=⟨_,rfl⟩
  rw[b4]at a4
  have cv:=hid b4
  clear b4
  have ac:=mB s2
  obtain⟨⟨⟨tS,aS⟩,Z⟩,C⟩:∃x,srcP s2=x:=⟨_,rfl⟩
  rw[C]at a4 ac
  simp only at a4 ac
  replace E:=(E.row0 (α:=Src) w.heap.size 86 2).imp (Ψ:=fun u=> (Lst bA 9 u H I)∧Els cF 2 ([]:List Src) [] u) fun u h=>⟨h,Els.nil⟩
  go_cut [] from 26 to 32 (fun wx=> ∃(b:OA) (c':Nat) (z:LV),En 77 P A c L w0 w wx Z [ow w.heap.size 86 2 (.slice b [(⟨tS,aS⟩:Src)].length c') [(⟨tS,aS⟩:Src)].length z,bk gv 40 (qC (.slice H I.length ki) (.slice b [(⟨tS,aS⟩:Src)].length c') zE nl nl 0),bk X 40 zS] (fun u=> (Lst bA 9 u H I)∧Els cF 2 [(⟨tS,aS⟩:Src)] z u))
  case first=>
   have z1:=(E.get (j:=1) rfl).cell_some (i:=9) rfl
   replace E:=hid (E.ext (Ext.refl _).drew)
   have z2:=(E.get (j:=1) rfl).cell_some (i:=9) rfl
   go_region_law (first
    |(refine E.aps (⟨tS,aS⟩:Src) qc (j:=0) rfl rfl rfl rfl rfl rfl rfl (by simp[Value.oneCell']) (by first|omega|simp) fun l' b c' u hl E=>?_;have z9:=(E.get (j:=1) rfl).cell_some (i:=9) rfl;have y9:=(E.get (j:=1) rfl).frozen 9;replace E:=hid E)
    |(go_simp;(go_at_call 139;have e:=lO E.ps Y;rw[C]at e;simp only[Ex.d,Nd.cells]at e;(with_reducible refine e.mono ?_);rintro _ u3 ⟨v,rfl,K,U,rfl,X,g3⟩;replace E:=hid (E.call K U);clear K U e);have z3:=(E.get (j:=1) rfl).cell_some (i:=9) rfl;have z4:=fun o=> (x10 u3 o).keep z3))
   all_goals
    replace E:=E.set (j:=1) rfl 9 (.slice b l'.length c')
    go_wp2_with fail
    go_meet
    obtain rfl:=hl.out
    exact⟨_,_,_,E.imp fun u h=>⟨h.1,Els.snoc h.2 rfl ⟨rfl,X,g3⟩⟩⟩
  case rest=>
   obtain⟨A1,c1,z,E⟩:=hcut
   generalize wc=fn at*
   clear C
   replace E:=E.imp (Ψ:=fun u=> (Lst bA 9 u H I∧ExV u (bZ []) none 0 0)∧Els cF 2 [(⟨tS,aS⟩:Src)] z u) fun u h=>⟨⟨h.1,eS u⟩,h.2⟩
   go_wp2_with fail
   go_loopw [] (fun wx=>Hid (∃(m:Nat) (st:Ps) (fs:List Src) (cs:List Ex) (z:LV) (b:OA) (c':Nat) (p:OA) (kw y:Nat),st.r.length<m∧fs.length+st.r.length≤s2.r.length+1∧st.r.length≤s2.r.length∧FR=fromGo ex m fs cs st∧En 77 P A c L w0 w wx st [ow w.heap.size 86 2 (.slice b fs.length c') fs.length z,bk gv 40 (qC (.slice H I.length ki) (.slice b fs.length c') ((bZ cs).d.cells p kw y) nl nl 0),bk X 40 zS] (fun u=> (Lst bA 9 u H I∧ExV u (bZ cs) p kw y)∧Els cF 2 fs z u))) (fun wr=>20001-posO P wr)
   case atStart=>exact hid ⟨_,Z,_,[],z,A1,c1,none,0,0,by omega,by show 1+_≤_;omega,by omega,a4,E⟩
   case round=>
    clear E a4
    obtain⟨m,st,fs,cs,z,A1,c1,p,kw,y,hm,be,e9,hI,E⟩:=hrel.out
    obtain⟨m,rfl⟩:∃x,m=x+1:=⟨m-1,by omega⟩
    rw[j3]at hI
    have D:=hid hI
    have an:=hid E.ps.posO
    have a6:=E.ps.le
    clear hI
    go_wp2_with (first|(go_at_call 66;refine E.rtk Y yCm rfl (fun hb u E=>?_) (fun hb u E=>?_))|(go_at_call 66;refine E.rtk Y jx rfl (fun hj u E=>?_) (fun hj u E=>?_)))
    ·rw[if_pos hb]at D
     have a2:=au hb
     have g:=mB st.next
     obtain⟨⟨⟨tS,aS⟩,s6⟩,C⟩:∃x,srcP st.next=x:=⟨_,rfl⟩
     rw[C]at D g
     simp only at D g
     have z1:=(E.get (j:=1) rfl).cell_some (i:=9) rfl
     replace E:=hid (E.ext (Ext.refl _).drew)
     have z2:=(E.get (j:=1) rfl).cell_some (i:=9) rfl
     go_region_law (first
      |(refine E.aps (⟨tS,aS⟩:Src) qc (j:=0) rfl rfl rfl rfl rfl rfl rfl (by simp[Value.oneCell']) (by first|omega|simp) fun l' b c' u hl E=>?_;have z9:=(E.get (j:=1) rfl).cell_some (i:=9) rfl;have y9:=(E.get (j:=1) rfl).frozen 9;replace E:=hid E)
      |(go_simp;(go_at_call 139;have e:=lO E.ps Y;rw[C]at e;simp only[Ex.d,Nd.cells]at e;(with_reducible refine e.mono ?_);rintro _ u3 ⟨v,rfl,K,U,rfl,X,g3⟩;replace E:=hid (E.call K U);clear K U e);have z3:=(E.get (j:=1) rfl).cell_some (i:=9) rfl;have z4:=fun o=> (x10 u3 o).keep z3))
     all_goals
      replace E:=E.set (j:=1) rfl 9 (.slice b l'.length c')
      go_wp2_with fail
      have ax:=E.ps.posO
      go_roundw
      case rel=>exact hid ⟨m,s6,l',cs,_,b,c',p,kw,y,by omega,by rw[hl.out];simp;omega,by omega,by rw[hl.out];exact D,E.imp fun u h=>⟨h.1,hl.out ▸ Els.snoc h.2 rfl ⟨rfl,X,g3⟩⟩⟩
      case measure=>rw[ax,an.out];omega
    ·rw[if_neg (by rw[hb];simp),if_pos hj]at D
     have a2:=au hj
     have g:=mB st.next
     obtain⟨⟨⟨tS,aS⟩,s6⟩,C⟩:∃x,srcP st.next=x:=⟨_,rfl⟩
     rw[C]at D g
     simp only at D g
     go_upto_region 11 with fail
     go_cut [] from 44 to 50 (fun wx=> ∃(b:OA) (c':Nat) (z:LV),En 77 P A c L w0 w wx s6 [ow w.heap.size 86 2 (.slice b (fs++ [(⟨tS,aS⟩:Src)]).length c') (fs++ [(⟨tS,aS⟩:Src)]).length z,bk gv 40 (qC (.slice H I.length ki) (.slice b (fs++ [(⟨tS,aS⟩:Src)]).length c') ((bZ cs).d.cells p kw y) nl nl 0),bk X 40 zS] (fun u=> (Lst bA 9 u H I∧ExV u (bZ cs) p kw y)∧Els cF 2 (fs++ [(⟨tS,aS⟩:Src)]) z u))
     case first=>
      have z1:=(E.get (j:=1) rfl).cell_some (i:=9) rfl
      replace E:=hid (E.ext (Ext.refl _).drew)
      have z2:=(E.get (j:=1) rfl).cell_some (i:=9) rfl
      go_region_law (first
       |(refine E.aps (⟨tS,aS⟩:Src) qc (j:=0) rfl rfl rfl rfl rfl rfl rfl (by simp[Value.oneCell']) (by first|omega|simp) fun l' b c' u hl E=>?_;have z9:=(E.get (j:=1) rfl).cell_some (i:=9) rfl;have y9:=(E.get (j:=1) rfl).frozen 9;replace E:=hid E)
       |(go_simp;(go_at_call 139;have e:=lO E.ps Y;rw[C]at e;simp only[Ex.d,Nd.cells]at e;(with_reducible refine e.mono ?_);rintro _ u3 ⟨v,rfl,K,U,rfl,X,g3⟩;replace E:=hid (E.call K U);clear K U e);have z3:=(E.get (j:=1) rfl).cell_some (i:=9) rfl;have z4:=fun o=> (x10 u3 o).keep z3))
      all_goals
       replace E:=E.set (j:=1) rfl 9 (.slice b l'.length c')
       go_wp2_with fail
       go_meet
       obtain rfl:=hl.out
       exact⟨_,_,_,E.imp fun u h=>⟨h.1,Els.snoc h.2 rfl ⟨rfl,X,g3⟩⟩⟩
     case rest=>
      obtain⟨A2,c2,ys,E⟩:=hcut
      generalize wc=fr at*
      clear C
      have a7:=aA kON s6
      go_upto_region 13 with (go_at_call 45;refine E.rnd Y kON rfl fun u E=>?_)
      obtain⟨s7,c8⟩:∃x,needP kON s6=x:=⟨_,rfl⟩
      rw[c8]at D E a7
      have a5:=b9 s7
      clear c8
      obtain⟨⟨⟨op,tb,nm,ix,vk,vi,vt⟩,ks⟩,hW⟩:∃x,bZ cs=x:=⟨_,rfl⟩
      obtain⟨⟨⟨⟨op1,bw,bo,bf,vk1,bN,b1⟩,bn⟩,s8⟩,C⟩:∃x,ex s7=x:=⟨_,rfl⟩
      obtain⟨⟨⟨op2,bx,bv,bm,b0,bY,b2⟩,df⟩,hA⟩:∃x,andR (Ex.mk ⟨op,tb,nm,ix,vk,vi,vt⟩ ks) (Ex.mk ⟨op1,bw,bo,bf,vk1,bN,b1⟩ bn)=x:=⟨_,rfl⟩
      rw[hW]at E
      have z0:=(E.get (j:=1) rfl).cell_some (i:=10) (v:= i4 op) rfl;have z1:=(E.get (j:=1) rfl).cell_some (i:=11) (v:= .string tb) rfl;have z2:=(E.get (j:=1) rfl).cell_some (i:=12) (v:= .string nm) rfl;have z3:=(E.get (j:=1) rfl).cell_some (i:=13) (v:= i4 ix) rfl;have z4:=(E.get (j:=1) rfl).cell_some (i:=14) (v:= i4 vk) rfl;have z5:=(E.get (j:=1) rfl).cell_some (i:=15) (v:= i4 vi) rfl;have z6:=(E.get (j:=1) rfl).cell_some (i:=16) (v:= .string vt) rfl;have z7:=(E.get (j:=1) rfl).cell_some (i:=17) (v:= .slice p kw y) rfl
      replace E:=hid (E.ext (Ext.refl _).drew)
      have d0:=(E.get (j:=1) rfl).cell_some (i:=10) (v:= i4 op) rfl;have d1:=(E.get (j:=1) rfl).cell_some (i:=11) (v:= .string tb) rfl;have d2:=(E.get (j:=1) rfl).cell_some (i:=12) (v:= .string nm) rfl;have d3:=(E.get (j:=1) rfl).cell_some (i:=13) (v:= i4 ix) rfl;have d4:=(E.get (j:=1) rfl).cell_some (i:=14) (v:= i4 vk) rfl;have d5:=(E.get (j:=1) rfl).cell_some (i:=15) (v:= i4 vi) rfl;have d6:=(E.get (j:=1) rfl).cell_some (i:=16) (v:= .string vt) rfl;have d7:=(E.get (j:=1) rfl).cell_some (i:=17) (v:= .slice p kw y) rfl
      go_region_law (first
       |(go_simp;go_at_call 140;(with_reducible refine(rand_at hA E.out.far (E.out.stb.imp fun u h=>h.1.1.2) (E.out.stb.imp fun u h=>h.2)).mono ?_);rintro _ u4 ⟨B3,k3,c3,rfl,hx,h3⟩;replace E:=hid ((E.ext hx).both h3);clear hx h3;obtain⟨-,-,-,-,-,-,-,-,-,-,y0,y1,y2,y3,y4,y5,y6,y7,-⟩:=frz (E.get (j:=1) rfl);have x0:=(E.get (j:=1) rfl).cell_some (i:=10) (v:= i4 op) rfl;have x1:=(E.get (j:=1) rfl).cell_some (i:=11) (v:= .string tb) rfl;have x2:=(E.get (j:=1) rfl).cell_some (i:=12) (v:= .string nm) rfl;have x3:=(E.get (j:=1) rfl).cell_some (i:=13) (v:= i4 ix) rfl;have x4:=(E.get (j:=1) rfl).cell_some (i:=14) (v:= i4 vk) rfl;have x5:=(E.get (j:=1) rfl).cell_some (i:=15) (v:= i4 vi) rfl;have x6:=(E.get (j:=1) rfl).cell_some (i:=16) (v:= .string vt) rfl;have x7:=(E.get (j:=1) rfl).cell_some (i:=17) (v:= .slice p kw y) rfl)
       |(go_simp;(go_at_call 41;obtain⟨cj,cc,cp,cl,ck,ci,ct,cd,Z,ad,e⟩:=hr.at_ E.ps (by omega);cases C.symm.trans ad;(with_reducible refine e.mono ?_);rintro _ u3 ⟨B,k,c1,rfl,K,U,g3⟩;replace E:=hid (E.calls K U g3);clear K U g3 ad e);have e0:=(E.get (j:=1) rfl).cell_some (i:=10) (v:= i4 op) rfl;have e1:=(E.get (j:=1) rfl).cell_some (i:=11) (v:= .string tb) rfl;have e2:=(E.get (j:=1) rfl).cell_some (i:=12) (v:= .string nm) rfl;have e3:=(E.get (j:=1) rfl).cell_some (i:=13) (v:= i4 ix) rfl;have e4:=(E.get (j:=1) rfl).cell_some (i:=14) (v:= i4 vk) rfl;have e5:=(E.get (j:=1) rfl).cell_some (i:=15) (v:= i4 vi) rfl;have e6:=(E.get (j:=1) rfl).cell_some (i:=16) (v:= .string vt) rfl;have e7:=(E.get (j:=1) rfl).cell_some (i:=17) (v:= .slice p kw y) rfl))
      all_goals
       replace E:=(E.sets (j:=1) (eC op2 bx bv bm b0 bY b2 B3 k3 c3) 10 rfl)
       simp only[World.setCells,Nat.reduceAdd]at E
       go_wp2_with fail
       have ax:=E.ps.posO
       rw[C]at D a5
       simp only at D a5
       go_roundw
       case measure=>rw[ax,an.out];omega
       refine hid ⟨m,s8,fs++ [(⟨tS,aS⟩:Src)],cs++ [(Ex.mk ⟨op1,bw,bo,bf,vk1,bN,b1⟩ bn)],ys,A2,c2,B3,k3,c3,by omega,by simp;omega,by omega,D,?_⟩
       rw[qs,hW,hA]
       exact E.imp fun u h=>⟨⟨h.1.1.1.1,h.2⟩,h.1.1.2⟩
    ·rw[if_neg (by rw[hb];simp),if_neg (by rw[hj];simp)]at D
     obtain rfl:FR=((fs,cs),st):=D.out
     replace E:=E.give.imp (Ψ:=fun u=>Lst bA 9 u H I∧Lst cF 2 u A1 fs∧ExV u (bZ cs) p kw y) fun u h=>⟨h.1.1.1,h.1.2.lst' h.2,h.1.1.2⟩
     obtain⟨f,hf⟩:∃f,(fs,cs)=f:=⟨_,rfl⟩
     obtain rfl:fs=f.1:=by rw[←hf]
     obtain rfl:cs=f.2:=by rw[←hf]
     have HF:Hid (fromP ex s2=(f,st)∧f.1.length≤20001):=⟨by rw[cv.out,←hf],by omega⟩
     obtain⟨s3,eA⟩:∃x,x=st:=⟨_,rfl⟩
     subst eA
     obtain⟨Bf,ee⟩:∃x,x=A1:=⟨_,rfl⟩
     obtain⟨kf,el⟩:∃x,x=c1:=⟨_,rfl⟩
     subst ee el
     clear cv hf D an hb hj hm be
     go_upto_if 60 with (go_at_call 66;refine E.rtkb Y eH rfl fun u E=>?_)
     obtain⟨q,hq⟩:∃q,isS eH s3=q:=⟨_,rfl⟩
     rw[hq]
     have J:=hid hq
     clear hq
     go_cut [] from 61 to 66 (fun wx=> ∃(W:Ex) (p:OA) (kw y:Nat) (st:Ps),cr ex bZ f.2 s3=(W,st)∧st.r.length≤s3.r.length∧En 77 P A c L w0 w wx st [bk gv 40 (qC (.slice H I.length ki) (.slice Bf f.1.length kf) (W.d.cells p kw y) nl nl 0),bk X 40 zS] (fun u=>Lst bA 9 u H I∧Lst cF 2 u Bf f.1∧ExV u W p kw y))
     case first=>
      cases q
      ·rw[show optP eH s3=s3 by simp[optP,J.out]]at E
       go_wp2_with fail
       go_meet
       exact⟨_,p,kw,y,s3,by unfold cr ifM;rw[J.out];rfl,Nat.le_refl _,E⟩
      ·rw[show optP eH s3=s3.next by simp[optP,J.out]]at E
       have a2:=au J
       have a5:=b9 s3.next
       go_upto_region 15 with fail
       obtain⟨⟨⟨op,tb,nm,ix,vk,vi,vt⟩,ks⟩,hW⟩:∃x,bZ f.2=x:=⟨_,rfl⟩
       obtain⟨⟨⟨⟨op1,bw,bo,bf,vk1,bN,b1⟩,bn⟩,s8⟩,C⟩:∃x,ex s3.next=x:=⟨_,rfl⟩
       obtain⟨⟨⟨op2,bx,bv,bm,b0,bY,b2⟩,df⟩,hA⟩:∃x,andR (Ex.mk ⟨op,tb,nm,ix,vk,vi,vt⟩ ks) (Ex.mk ⟨op1,bw,bo,bf,vk1,bN,b1⟩ bn)=x:=⟨_,rfl⟩
       rw[hW]at E
       have z0:=(E.get (j:=0) rfl).cell_some (i:=10) (v:= i4 op) rfl;have z1:=(E.get (j:=0) rfl).cell_some (i:=11) (v:= .string tb) rfl;have z2:=(E.get (j:=0) rfl).cell_some (i:=12) (v:= .string nm) rfl;have z3:=(E.get (j:=0) rfl).cell_some (i:=13) (v:= i4 ix) rfl;have z4:=(E.get (j:=0) rfl).cell_some (i:=14) (v:= i4 vk) rfl;have z5:=(E.get (j:=0) rfl).cell_some (i:=15) (v:= i4 vi) rfl;have z6:=(E.get (j:=0) rfl).cell_some (i:=16) (v:= .string vt) rfl;have z7:=(E.get (j:=0) rfl).cell_some (i:=17) (v:= .slice p kw y) rfl
       replace E:=hid (E.ext (Ext.refl _).drew)
       have d0:=(E.get (j:=0) rfl).cell_some (i:=10) (v:= i4 op) rfl;have d1:=(E.get (j:=0) rfl).cell_some (i:=11) (v:= .string tb) rfl;have d2:=(E.get (j:=0) rfl).cell_some (i:=12) (v:= .string nm) rfl;have d3:=(E.get (j:=0) rfl).cell_some (i:=13) (v:= i4 ix) rfl;have d4:=(E.get (j:=0) rfl).cell_some (i:=14) (v:= i4 vk) rfl;have d5:=(E.get (j:=0) rfl).cell_some (i:=15) (v:= i4 vi) rfl;have d6:=(E.get (j:=0) rfl).cell_some (i:=16) (v:= .string vt) rfl;have d7:=(E.get (j:=0) rfl).cell_some (i:=17) (v:= .slice p kw y) rfl
       go_region_law (first
        |(go_simp;go_at_call 140;(with_reducible refine(rand_at hA E.out.far (E.out.stb.imp fun u h=>h.1.2.2) (E.out.stb.imp fun u h=>h.2)).mono ?_);rintro _ u4 ⟨B3,k3,c3,rfl,hx,h3⟩;replace E:=hid ((E.ext hx).both h3);clear hx h3;obtain⟨-,-,-,-,-,-,-,-,-,-,y0,y1,y2,y3,y4,y5,y6,y7,-⟩:=frz (E.get (j:=0) rfl);have x0:=(E.get (j:=0) rfl).cell_some (i:=10) (v:= i4 op) rfl;have x1:=(E.get (j:=0) rfl).cell_some (i:=11) (v:= .string tb) rfl;have x2:=(E.get (j:=0) rfl).cell_some (i:=12) (v:= .string nm) rfl;have x3:=(E.get (j:=0) rfl).cell_some (i:=13) (v:= i4 ix) rfl;have x4:=(E.get (j:=0) rfl).cell_some (i:=14) (v:= i4 vk) rfl;have x5:=(E.get (j:=0) rfl).cell_some (i:=15) (v:= i4 vi) rfl;have x6:=(E.get (j:=0) rfl).cell_some (i:=16) (v:= .string vt) rfl;have x7:=(E.get (j:=0) rfl).cell_some (i:=17) (v:= .slice p kw y) rfl)
        |(go_simp;(go_at_call 41;obtain⟨cj,cc,cp,cl,ck,ci,ct,cd,Z,ad,e⟩:=hr.at_ E.ps (by omega);cases C.symm.trans ad;(with_reducible refine e.mono ?_);rintro _ u3 ⟨B,k,c1,rfl,K,U,g3⟩;replace E:=hid (E.calls K U g3);clear K U g3 ad e);have e0:=(E.get (j:=0) rfl).cell_some (i:=10) (v:= i4 op) rfl;have e1:=(E.get (j:=0) rfl).cell_some (i:=11) (v:= .string tb) rfl;have e2:=(E.get (j:=0) rfl).cell_some (i:=12) (v:= .string nm) rfl;have e3:=(E.get (j:=0) rfl).cell_some (i:=13) (v:= i4 ix) rfl;have e4:=(E.get (j:=0) rfl).cell_some (i:=14) (v:= i4 vk) rfl;have e5:=(E.get (j:=0) rfl).cell_some (i:=15) (v:= i4 vi) rfl;have e6:=(E.get (j:=0) rfl).cell_some (i:=16) (v:= .string vt) rfl;have e7:=(E.get (j:=0) rfl).cell_some (i:=17) (v:= .slice p kw y) rfl))
       all_goals
        replace E:=(E.sets (j:=0) (eC op2 bx bv bm b0 bY b2 B3 k3 c3) 10 rfl)
        simp only[World.setCells,Nat.reduceAdd]at E
        go_wp2_with fail
        go_meet
        rw[C]at a5
        simp only at a5
        refine⟨(Ex.mk ⟨op2,bx,bv,bm,b0,bY,b2⟩ df),B3,k3,c3,s8,by unfold cr ifM ay aH;rw[J.out,if_pos rfl,C];simp only;rw[qs,hW,hA],by omega,?_⟩
        exact E.imp fun u h=>⟨h.1.1.1,h.1.1.2.1,h.2⟩
     case rest=>
      obtain⟨W,p,kw,y,s4,c9,eU,E⟩:=hcut
      generalize wc=fw at*
      have HW:=hid c9
      clear c9 J
      go_upto_if 68 with (go_at_call 66;refine E.rtkb Y iw rfl fun u E=>?_)
      obtain⟨q,hq⟩:∃q,isS iw s4=q:=⟨_,rfl⟩
      rw[hq]
      have J:=hid hq
      clear hq
      go_cut [] from 69 to 86 (fun wx=> ∃(Bg:OA) (kg:Nat) (G:List Ex) (st:Ps),fT s4=(G,st)∧G.length≤20001∧st.r.length≤s4.r.length∧En 77 P A c L w0 w wx st [bk gv 40 (qC (.slice H I.length ki) (.slice Bf f.1.length kf) (W.d.cells p kw y) (.slice Bg G.length kg) nl 0),bk X 40 zS] (fun u=>Lst bA 9 u H I∧Lst cF 2 u Bf f.1∧ExV u W p kw y∧Lst Phiex 8 u Bg G))
      case first=>
       cases q
       ·rw[show optP iw s4=s4 by simp[optP,J.out]]at E
        go_wp2_with fail
        go_meet
        exact⟨none,0,[],s4,by unfold fT ifM;rw[J.out];rfl,by simp,Nat.le_refl _,E.imp fun u h=>⟨h.1,h.2.1,h.2.2,fun i a h=>by cases h⟩⟩
       ·rw[show optP iw s4=s4.next by simp[optP,J.out]]at E
        have a2:=au J
        have a7:=aA kBY s4.next
        go_upto_region 18 with (go_at_call 45;refine E.rnd Y kBY rfl fun u E=>?_)
        obtain⟨s9,a3⟩:∃x,needP kBY s4.next=x:=⟨_,rfl⟩
        rw[a3]at E a7
        have b3:=hid a3
        clear a3
        have a8:Hid (listP colP s9=listGo colP (s9.r.length+1) [(colP s9).1] (colP s9).2):=rfl
        have a1:=list_len fwd_col s9
        have a0:=fwd_list fwd_col s9
        have ac:=fwd_col s9
        obtain⟨Rg,b5⟩:∃R,listP colP s9=R:=⟨_,rfl⟩
        rw[b5]at a8 a1 a0
        have dp:=hid b5
        clear b5
        obtain⟨⟨⟨⟨op,tb,nm,ix,vk,vi,vt⟩,ks⟩,Z⟩,C⟩:∃x,colP s9=x:=⟨_,rfl⟩
        rw[C]at a8 ac
        simp only at a8 ac
        replace E:=(E.row0 (α:=Ex) w.heap.size 37 8).imp (Ψ:=fun u=> (Lst bA 9 u H I∧Lst cF 2 u Bf f.1∧ExV u W p kw y)∧Els Phiex 8 ([]:List (Ex)) [] u) fun u h=>⟨h,Els.nil⟩
        go_upto_region 18 with fail
        go_cut [] from 71 to 77 (fun wx=> ∃(b:OA) (c':Nat) (z:LV),En 77 P A c L w0 w wx Z [ow w.heap.size 37 8 (.slice b [(⟨⟨op,tb,nm,ix,vk,vi,vt⟩,ks⟩:Ex)].length c') [(⟨⟨op,tb,nm,ix,vk,vi,vt⟩,ks⟩:Ex)].length z,bk gv 40 (qC (.slice H I.length ki) (.slice Bf f.1.length kf) (W.d.cells p kw y) (.slice b [(⟨⟨op,tb,nm,ix,vk,vi,vt⟩,ks⟩:Ex)].length c') nl 0),bk X 40 zS] (fun u=> (Lst bA 9 u H I∧Lst cF 2 u Bf f.1∧ExV u W p kw y)∧Els Phiex 8 [(⟨⟨op,tb,nm,ix,vk,vi,vt⟩,ks⟩:Ex)] z u))
        case first=>
         have z1:=(E.get (j:=1) rfl).cell_some (i:=18) rfl
         replace E:=hid (E.ext (Ext.refl _).drew)
         have z2:=(E.get (j:=1) rfl).cell_some (i:=18) rfl
         go_region_law (first
          |(refine E.aps (⟨⟨op,tb,nm,ix,vk,vi,vt⟩,ks⟩:Ex) ap_ex (j:=0) rfl rfl rfl rfl rfl rfl rfl (by simp[Value.oneCell']) (by first|omega|simp) fun l' b c' u hl E=>?_;have z9:=(E.get (j:=1) rfl).cell_some (i:=18) rfl;have y9:=(E.get (j:=1) rfl).frozen 18;replace E:=hid E)
          |(go_simp;(go_at_call 141;obtain⟨cj,cc,cp,cl,ck,ci,ct,cd,Z,ad,e⟩:=(jo Y 30000).at_ E.ps (by omega);cases C.symm.trans ad;(with_reducible refine e.mono ?_);rintro _ u3 ⟨B,k,c1,rfl,K,U,g3⟩;replace E:=hid (E.calls K U g3);clear K U g3 ad e);have z3:=(E.get (j:=1) rfl).cell_some (i:=18) rfl;have z4:=fun o=> (x10 u3 o).keep z3))
         all_goals
          replace E:=E.set (j:=1) rfl 18 (.slice b l'.length c')
          go_wp2_with fail
          go_meet
          obtain rfl:=hl.out
          exact⟨_,_,_,E.imp fun u h=>⟨h.1.1,Els.snoc h.1.2 rfl ⟨B,k,c1,rfl,h.2⟩⟩⟩
        case rest=>
         obtain⟨A1,c1,z,E⟩:=hcut
         generalize wc=wg at*
         clear C
         go_wp2_with fail
         go_loopw [79] (fun _ wr=>Hid (∃(m:Nat) (st:Ps) (l:List (Ex)) (z:LV) (b:OA) (c':Nat),st.r.length<m∧l.length+st.r.length≤s9.r.length+1∧Rg=listGo colP m l st∧En 77 P A c L w0 w wr st [ow w.heap.size 37 8 (.slice b l.length c') l.length z,bk gv 40 (qC (.slice H I.length ki) (.slice Bf f.1.length kf) (W.d.cells p kw y) (.slice b l.length c') nl 0),bk X 40 zS] (fun u=> (Lst bA 9 u H I∧Lst cF 2 u Bf f.1∧ExV u W p kw y)∧Els Phiex 8 l z u))) (fun _ wr=>20001-posO P wr)
         case atStart=>exact hid ⟨_,Z,_,z,A1,c1,by omega,by show 1+_≤_;omega,a8,E⟩
         case round=>
          clear E
          obtain⟨m,st,l,z,A1,c1,hm,be,hI,E⟩:=hrel.out
          obtain⟨m,rfl⟩:∃x,m=x+1:=⟨m-1,by omega⟩
          rw[listGo]at hI
          have D:=hid hI
          have an:=hid E.ps.posO
          have a6:=E.ps.le
          clear hI
          go_wp2_with (first|(go_at_call 66;refine E.rtk Y yCm rfl (fun hb u E=>?_) (fun hb u E=>?_)))
          ·rw[hb,if_pos rfl]at D
           have a2:=au hb
           have g:=fwd_col st.next
           obtain⟨⟨⟨⟨op,tb,nm,ix,vk,vi,vt⟩,ks⟩,s6⟩,C⟩:∃x,colP st.next=x:=⟨_,rfl⟩
           rw[C]at D g
           simp only at D g
           have z1:=(E.get (j:=1) rfl).cell_some (i:=18) rfl
           replace E:=hid (E.ext (Ext.refl _).drew)
           have z2:=(E.get (j:=1) rfl).cell_some (i:=18) rfl
           go_region_law (first
            |(refine E.aps (⟨⟨op,tb,nm,ix,vk,vi,vt⟩,ks⟩:Ex) ap_ex (j:=0) rfl rfl rfl rfl rfl rfl rfl (by simp[Value.oneCell']) (by first|omega|simp) fun l' b c' u hl E=>?_;have z9:=(E.get (j:=1) rfl).cell_some (i:=18) rfl;have y9:=(E.get (j:=1) rfl).frozen 18;replace E:=hid E)
            |(go_simp;(go_at_call 141;obtain⟨cj,cc,cp,cl,ck,ci,ct,cd,Z,ad,e⟩:=(jo Y 30000).at_ E.ps (by omega);cases C.symm.trans ad;(with_reducible refine e.mono ?_);rintro _ u3 ⟨B,k,c1,rfl,K,U,g3⟩;replace E:=hid (E.calls K U g3);clear K U g3 ad e);have z3:=(E.get (j:=1) rfl).cell_some (i:=18) rfl;have z4:=fun o=> (x10 u3 o).keep z3))
           all_goals
            replace E:=E.set (j:=1) rfl 18 (.slice b l'.length c')
            go_wp2_with fail
            have ax:=E.ps.posO
            go_roundw
            case rel=>
             first|refine⟨_,_,_,_,_,_,_,_,_,?_,rfl⟩|skip
             exact hid ⟨m,s6,l',_,b,c',by omega,by rw[hl.out];simp;omega,by rw[hl.out];exact D,E.imp fun u h=>⟨h.1.1,hl.out ▸ Els.snoc h.1.2 rfl ⟨B,k,c1,rfl,h.2⟩⟩⟩
            case measure=>rw[ax,an.out];omega
          ·rw[hb,if_neg (by simp)]at D
           obtain rfl:Rg=(l,st):=D.out
           replace E:=E.give.imp (Ψ:=fun u=> (Lst bA 9 u H I∧Lst cF 2 u Bf f.1∧ExV u W p kw y)∧Lst Phiex 8 u A1 l) fun u h=>⟨h.1.1,h.1.2.lst' h.2⟩
           go_wp2_with fail
           go_meet
           exact⟨A1,c1,l,st,by unfold fT ifM ay aE;rw[J.out,if_pos rfl,b3.out];exact dp,by have:l.length≤_:=a1;omega,by have:st.r.length≤_:=a0;omega,E.imp fun u h=>⟨h.1.1,h.1.2.1,h.1.2.2,h.2⟩⟩
      case rest=>
       obtain⟨Bg,kg,G,Z,cz,cH,eX,E⟩:=hcut
       generalize wc=fA at*
       have HG:=hid (And.intro cz cH)
       clear cz cH J
       go_upto_if 88 with (go_at_call 66;refine E.rtkb Y iy rfl fun u E=>?_)
       obtain⟨q,hq⟩:∃q,isS iy Z=q:=⟨_,rfl⟩
       rw[hq]
       have J:=hid hq
       clear hq
       go_cut [] from 89 to 106 (fun wx=> ∃(Bo:OA) (ko:Nat) (O:List Ord') (st:Ps),da cg Z=(O,st)∧O.length≤20001∧st.r.length≤Z.r.length∧En 77 P A c L w0 w wx st [bk gv 40 (qC (.slice H I.length ki) (.slice Bf f.1.length kf) (W.d.cells p kw y) (.slice Bg G.length kg) (.slice Bo O.length ko) 0),bk X 40 zS] (fun u=>Lst bA 9 u H I∧Lst cF 2 u Bf f.1∧ExV u W p kw y∧Lst Phiex 8 u Bg G∧Lst fv 2 u Bo O))
       case first=>
        cases q
        ·rw[show optP iy Z=Z by simp[optP,J.out]]at E
         go_wp2_with fail
         go_meet
         exact⟨none,0,[],Z,by unfold da ifM;rw[J.out];rfl,by simp,Nat.le_refl _,E.imp fun u h=>⟨h.1,h.2.1,h.2.2.1,h.2.2.2,fun i a h=>by cases h⟩⟩
        ·rw[show optP iy Z=Z.next by simp[optP,J.out]]at E
         have a2:=au J
         have a7:=aA kBY Z.next
         go_upto_region 23 with (go_at_call 45;refine E.rnd Y kBY rfl fun u E=>?_)
         obtain⟨s9,a3⟩:∃x,needP kBY Z.next=x:=⟨_,rfl⟩
         rw[a3]at E a7
         have b3:=hid a3
         clear a3
         have ba:Hid (listP (dG cg) s9=listGo (dG cg) (s9.r.length+1) [((dG cg) s9).1] ((dG cg) s9).2):=rfl
         have a1:=list_len mF s9
         have a0:=fwd_list mF s9
         have ac:=mF s9
         obtain⟨Ro,b7⟩:∃R,listP (dG cg) s9=R:=⟨_,rfl⟩
         rw[b7]at ba a1 a0
         have dx:=hid b7
         clear b7
         obtain⟨⟨⟨it,ds⟩,Z⟩,C⟩:∃x,(dG cg) s9=x:=⟨_,rfl⟩
         rw[C]at ba ac
         simp only at ba ac
         replace E:=(E.row0 (α:=Ord') w.heap.size 88 2).imp (Ψ:=fun u=> (Lst bA 9 u H I∧Lst cF 2 u Bf f.1∧ExV u W p kw y∧Lst Phiex 8 u Bg G)∧Els fv 2 ([]:List (Ord')) [] u) fun u h=>⟨h,Els.nil⟩
         go_upto_region 23 with fail
         go_cut [] from 91 to 97 (fun wx=> ∃(b:OA) (c':Nat) (z:LV),En 77 P A c L w0 w wx Z [ow w.heap.size 88 2 (.slice b [(⟨it,ds⟩:Ord')].length c') [(⟨it,ds⟩:Ord')].length z,bk gv 40 (qC (.slice H I.length ki) (.slice Bf f.1.length kf) (W.d.cells p kw y) (.slice Bg G.length kg) (.slice b [(⟨it,ds⟩:Ord')].length c') 0),bk X 40 zS] (fun u=> (Lst bA 9 u H I∧Lst cF 2 u Bf f.1∧ExV u W p kw y∧Lst Phiex 8 u Bg G)∧Els fv 2 [(⟨it,ds⟩:Ord')] z u))
         case first=>
          have z1:=(E.get (j:=1) rfl).cell_some (i:=19) rfl
          replace E:=hid (E.ext (Ext.refl _).drew)
          have z2:=(E.get (j:=1) rfl).cell_some (i:=19) rfl
          go_region_law (first
           |(refine E.aps (⟨it,ds⟩:Ord') ap_ord (j:=0) rfl rfl rfl rfl rfl rfl rfl (by simp[Value.oneCell']) (by first|omega|simp) fun l' b c' u hl E=>?_;have z9:=(E.get (j:=1) rfl).cell_some (i:=19) rfl;have y9:=(E.get (j:=1) rfl).frozen 19;replace E:=hid E)
           |(go_simp;(go_at_call 142;have e:=rN E.ps Y;rw[C]at e;simp only[Ex.d,Nd.cells]at e;(with_reducible refine e.mono ?_);rintro _ u3 ⟨v,rfl,K,U,rfl,X⟩;replace E:=hid (E.call K U);clear K U e);have z3:=(E.get (j:=1) rfl).cell_some (i:=19) rfl;have z4:=fun o=> (x10 u3 o).keep z3))
          all_goals
           replace E:=E.set (j:=1) rfl 19 (.slice b l'.length c')
           go_wp2_with fail
           go_meet
           obtain rfl:=hl.out
           exact⟨_,_,_,E.imp fun u h=>⟨h.1,Els.snoc h.2 rfl ⟨rfl,X⟩⟩⟩
         case rest=>
          obtain⟨A1,c1,z,E⟩:=hcut
          generalize wc=wo at*
          clear C
          go_wp2_with fail
          go_loopw [99] (fun _ wr=>Hid (∃(m:Nat) (st:Ps) (l:List (Ord')) (z:LV) (b:OA) (c':Nat),st.r.length<m∧l.length+st.r.length≤s9.r.length+1∧Ro=listGo (dG cg) m l st∧En 77 P A c L w0 w wr st [ow w.heap.size 88 2 (.slice b l.length c') l.length z,bk gv 40 (qC (.slice H I.length ki) (.slice Bf f.1.length kf) (W.d.cells p kw y) (.slice Bg G.length kg) (.slice b l.length c') 0),bk X 40 zS] (fun u=> (Lst bA 9 u H I∧Lst cF 2 u Bf f.1∧ExV u W p kw y∧Lst Phiex 8 u Bg G)∧Els fv 2 l z u))) (fun _ wr=>20001-posO P wr)
          case atStart=>exact hid ⟨_,Z,_,z,A1,c1,by omega,by show 1+_≤_;omega,ba,E⟩
          case round=>
           clear E
           obtain⟨m,st,l,z,A1,c1,hm,be,hI,E⟩:=hrel.out
           obtain⟨m,rfl⟩:∃x,m=x+1:=⟨m-1,by omega⟩
           rw[listGo]at hI
           have D:=hid hI
           have an:=hid E.ps.posO
           have a6:=E.ps.le
           clear hI
           go_wp2_with (first|(go_at_call 66;refine E.rtk Y yCm rfl (fun hb u E=>?_) (fun hb u E=>?_)))
           ·rw[hb,if_pos rfl]at D
            have a2:=au hb
            have g:=mF st.next
            obtain⟨⟨⟨it,ds⟩,s6⟩,C⟩:∃x,(dG cg) st.next=x:=⟨_,rfl⟩
            rw[C]at D g
            simp only at D g
            have z1:=(E.get (j:=1) rfl).cell_some (i:=19) rfl
            replace E:=hid (E.ext (Ext.refl _).drew)
            have z2:=(E.get (j:=1) rfl).cell_some (i:=19) rfl
            go_region_law (first
             |(refine E.aps (⟨it,ds⟩:Ord') ap_ord (j:=0) rfl rfl rfl rfl rfl rfl rfl (by simp[Value.oneCell']) (by first|omega|simp) fun l' b c' u hl E=>?_;have z9:=(E.get (j:=1) rfl).cell_some (i:=19) rfl;have y9:=(E.get (j:=1) rfl).frozen 19;replace E:=hid E)
             |(go_simp;(go_at_call 142;have e:=rN E.ps Y;rw[C]at e;simp only[Ex.d,Nd.cells]at e;(with_reducible refine e.mono ?_);rintro _ u3 ⟨v,rfl,K,U,rfl,X⟩;replace E:=hid (E.call K U);clear K U e);have z3:=(E.get (j:=1) rfl).cell_some (i:=19) rfl;have z4:=fun o=> (x10 u3 o).keep z3))
            all_goals
             replace E:=E.set (j:=1) rfl 19 (.slice b l'.length c')
             go_wp2_with fail
             have ax:=E.ps.posO
             go_roundw
             case rel=>
              first|refine⟨_,_,_,_,_,_,_,_,_,?_,rfl⟩|skip
              exact hid ⟨m,s6,l',_,b,c',by omega,by rw[hl.out];simp;omega,by rw[hl.out];exact D,E.imp fun u h=>⟨h.1,hl.out ▸ Els.snoc h.2 rfl ⟨rfl,X⟩⟩⟩
             case measure=>rw[ax,an.out];omega
           ·rw[hb,if_neg (by simp)]at D
            obtain rfl:Ro=(l,st):=D.out
            replace E:=E.give.imp (Ψ:=fun u=> (Lst bA 9 u H I∧Lst cF 2 u Bf f.1∧ExV u W p kw y∧Lst Phiex 8 u Bg G)∧Lst fv 2 u A1 l) fun u h=>⟨h.1.1,h.1.2.lst' h.2⟩
            go_wp2_with fail
            go_meet
            exact⟨A1,c1,l,st,by unfold da ifM ay aE;rw[J.out,if_pos rfl,b3.out];exact dx,by have:l.length≤_:=a1;omega,by have:st.r.length≤_:=a0;omega,E.imp fun u h=>⟨h.1.1,h.1.2.1,h.1.2.2.1,h.1.2.2.2,h.2⟩⟩
       case rest=>
        obtain⟨Bo,ko,O,s6,c6,c7,e8,E⟩:=hcut
        generalize wc=f1 at*
        have HO:=hid (And.intro c6 c7)
        clear c6 c7 J
        go_upto_if 108 with (go_at_call 66;refine E.rtkb Y ln rfl fun u E=>?_)
        obtain⟨q,hq⟩:∃q,isS ln s6=q:=⟨_,rfl⟩
        rw[hq]
        have J:=hid hq
        clear hq
        go_cut [] from 109 to 111 (fun wx=> ∃(lim:Int) (st:Ps),limP cg s6=(lim,st)∧I64 lim∧En 77 P A c L w0 w wx st [bk gv 40 (qC (.slice H I.length ki) (.slice Bf f.1.length kf) (W.d.cells p kw y) (.slice Bg G.length kg) (.slice Bo O.length ko) lim),bk X 40 zS] (fun u=>Lst bA 9 u H I∧Lst cF 2 u Bf f.1∧ExV u W p kw y∧Lst Phiex 8 u Bg G∧Lst fv 2 u Bo O))
        case first=>
         cases q
         ·rw[show optP ln s6=s6 by simp[optP,J.out]]at E
          go_wp2_with fail
          go_meet
          exact⟨0,s6,by unfold limP ifM;rw[J.out];rfl,cy,E⟩
         ·rw[show optP ln s6=s6.next by simp[optP,J.out]]at E
          have a2:=au J
          have eb:=hid (posR_64 E.ps Y)
          go_wp2_with (first|(go_at_call 143;refine E.to (ld E.ps Y) fun u E=>?_)|(refine E.sm (j:=0) rfl rfl rfl rfl rfl (by first|exact cA rfl|exact cS rfl|exact cI rfl|exact cL rfl|exact cB rfl) (by kernel_rfl) (by kernel_rfl) (by kernel_rfl) fun u E=>?_))
          go_meet
          exact⟨_,_,by unfold limP ifM;rw[J.out,if_pos rfl],eb,E⟩
        case rest=>
         obtain⟨lim,s7,es,c5,E⟩:=hcut
         generalize wc=f2 at*
         have HM:queryP ex cg bZ s=(qS I f.1 W G O lim,s7):=query_ofR cx.1 (by rw[d9.out];exact HF.1) HW HG.1 HO.1 es
         have h1:=cx.2
         have h2:=HF.2
         have h3:=HG.2
         have h4:=HO.2
         obtain rfl:R=(qS I f.1 W G O lim,s7):=d8.symm.trans HM
         clear HM J
         go_wp2_with (first|(refine E.lw (j:=0) (ty:=40) rfl rfl rfl rfl (by kernel_rfl) ?_)|(refine E.sw (j:=1) (ty:=40) rfl rfl rfl rfl rfl rfl (by kernel_rfl) (by kernel_rfl) rfl fun u E=>?_))
         exact E.fi (j:=1) rfl rfl rfl rfl (by kernel_rfl) ⟨⟨⟨none,0,0⟩,⟨none,0,0⟩,⟨none,0,0⟩,⟨none,0,0⟩,⟨none,0,0⟩,⟨none,0,0⟩,⟨H,I.length,ki⟩,⟨Bf,f.1.length,kf⟩,⟨p,kw,y⟩,⟨Bg,G.length,kg⟩,⟨Bo,O.length,ko⟩⟩,rfl,E.keep.imp fun u h=>StW.of (qi h1 h2 h3 h4 c5 h.1 h.2.1 h.2.2.1 h.2.2.2.1 h.2.2.2.2) rfl rfl⟩
end
end
section
open Lx (Tk)
abbrev Vd (n0 gd:Nat) (V:List Vb) (d:Df) (l:List BA) (v1 v2 v3 v4 vp:Value) (x1 x2 x3 x4:LV):List Vb:=
 ow n0 99 6 v1 d.cols.length x1::ow n0 101 1 v2 d.keys.length x2::ow n0 103 3 v3 d.frs.length x3::ow n0 37 8 v4 d.chk.length x4::ow n0 9 1 vp l.length (l.map .string)::bk gd 29 [v1,v2,v3,v4]::V
def ElDf (n:Nat) (W:World) (d:Df) (v:Value):Prop:=∃B1 c1 B2 c2 B3 c3 B4 c4,v= .agg #[.slice B1 d.cols.length c1,.slice B2 d.keys.length c2,.slice B3 d.frs.length c3,.slice B4 d.chk.length c4]∧(d.cols.length≤20001∧d.keys.length≤20001∧d.frs.length≤20001∧d.chk.length≤20001)∧Stb (n≤·) W (fun u=>Lst nR 6 u B1 d.cols∧Lst qd 1 u B2 d.keys∧Lst qe 3 u B3 d.frs∧Lst Phiex 8 u B4 d.chk)
def boolN (v:Value):Nat:=match v with| .bool true=>1|_=>0
theorem ba_tol (a b:BA):(a.toList==b.toList)=decide (a=b):=by
 rw[ByteArray.toList_eq,ByteArray.toList_eq,Bool.eq_iff_iff,beq_iff_eq,decide_eq_true_iff]
 cases a
 cases b
 simp
def dfP (ex:M Ex):M Df:=ay (aE yLp) fun _=>ay (bL ex) fun x=>ay (aE yRp) fun _=>aH { x.1 with cols:=x.1.cols.map (nnC x.2) }
theorem dfP_eq (ex:M Ex) (s:Ps):dfP ex s=({ (bL ex (needP yLp s)).1.1 with cols:=(bL ex (needP yLp s)).1.1.cols.map (nnC (bL ex (needP yLp s)).1.2) },needP yRp (bL ex (needP yLp s)).2):=rfl
section
variable {P c:Nat} {A:OA} {L:List Tk} {w0 w:World} {s:Ps}
theorem En.rnms {wi:World} {V:List Vb} {Φ:World→Prop} {Q:Ending→World→Prop} (E:En 77 P A c L w0 wi w s V Φ) (m:TkL L)
  (k:∀B b w',(namesP s).1.length≤20001∧(namesP s).1.length≤b→En 77 P A c L w0 wi w' (namesP s).2 V (fun u=>Φ u∧bi u B (namesP s).1)→Q (.returned (.slice B (namesP s).1.length b)) w'):Cl 136 #[.pointer (some ⟨P,0,none⟩)] w Q:=
 (rO E.ps m).mono fun e w' ⟨v,h,f,g,B,b,i,j,l⟩=>by rw[h,i];exact k B b w' j (E.calls f g l)
theorem qt {n:Nat} {ex:M Ex} (hr:RX P A c L w0 41 #[.pointer (some ⟨P,0,none⟩),i4 1] n ex) (bo:Fwd ex) (hn:s.r.length<n) (hp:PsAt 77 P A c L w0 w s) (C:TkL L):
  Cl 68 #[.pointer (some ⟨P,0,none⟩)] w (Ran 77 P A c L w0 w (dfP ex s).2 fun v w'=>ElDf w.heap.size w' (dfP ex s).1 v):=by
 have E:=En.start hp
 have c8:=hp.le
 have cw:=C.len
 have HM:=hid (dfP_eq ex s)
 obtain⟨Z,hZ⟩:∃Z,dfP ex s=Z:=⟨_,rfl⟩
 rw[hZ]at HM ⊢
 have a6:=aA yLp s
 obtain⟨I,bY⟩:∃x,needP yLp s=x:=⟨_,rfl⟩
 rw[bY]at HM a6
 have HF:=hid (vm ex I)
 obtain⟨FR,be⟩:∃FR,bL ex I=FR:=⟨_,rfl⟩
 rw[be]at HF HM
 clear be hZ hp
 go_enter func68,ntmps68
 go_upto_region 1 with (refine E.al rfl _ rfl rfl (cs:= [nl,nl,nl,nl]) (t:=29) (by kernel_rfl) fun g0 u E=>?_)
 go_upto_region 2 with (first|(refine E.al rfl _ rfl rfl (cs:= [nl,nl,nl,nl]) (t:=29) (by kernel_rfl) fun gd u E=>?_)|(refine wpList_buildTo rfl 29 _ rfl _ rfl #[nl,nl,nl,nl] (by kernel_rfl) ?_)|(refine E.sw (j:=0) (ty:=29) rfl rfl rfl rfl rfl rfl (by kernel_rfl) (by kernel_rfl) rfl fun u E=>?_))
 go_upto_region 3 with fail
 replace E:=E.rowE (e:=9) (sz:=1)
 obtain⟨gp,bx⟩:∃x,u.heap.size=x:=⟨_,rfl⟩
 rw[bx]at E ⊢
 clear bx
 go_upto_region 4 with (go_at_call 45;refine E.rnd C yLp rfl fun u E=>?_)
 rw[bY]at E
 replace E:=((((E.row0 (α:=Ex) w.heap.size 37 8).row0 (α:=Rf) w.heap.size 103 3).row0 (α:=List BA) w.heap.size 101 1).row0 (α:=Cd) w.heap.size 99 6).imp (Ψ:=DP ⟨[],[],[],[]⟩ [] [] [] []) fun u _=>⟨Els.nil,Els.nil,Els.nil,Els.nil⟩
 go_upto_region 5 with fail
 obtain⟨H,ac⟩:∃H:Value→Value→World→Prop,H=fun W bv wr=> ∃(m:Nat) (st:Ps) (d:Df) (l:List BA) (q:Bool) (v1 v2 v3 v4:Value) (J K O U:LV),bv= .bool q∧FR=(if q=true then cm ex m (elemP ex d l st).1.1 (elemP ex d l st).1.2 (elemP ex d l st).2 else ((d,l),st))∧(q=true→st.r.length<m)∧(d.cols.length+st.r.length≤I.r.length+1∧d.keys.length+st.r.length≤I.r.length+1∧d.frs.length+st.r.length≤I.r.length+1∧d.chk.length+st.r.length≤I.r.length+1∧l.length+st.r.length≤2*I.r.length+2∧st.r.length≤I.r.length)∧
  (q=true→d.cols.length+st.r.length≤I.r.length∧d.keys.length+st.r.length≤I.r.length∧d.frs.length+st.r.length≤I.r.length∧d.chk.length+st.r.length≤I.r.length∧l.length+st.r.length≤2*I.r.length+1)∧En 77 P A c L w0 w wr st (Vd w.heap.size gd [bk g0 29 [nl,nl,nl,nl]] d l v1 v2 v3 v4 W J K O U) (DP d J K O U):=⟨_,rfl⟩
 have aS:=hid (fun W bv wr h=> (by rw[ac];exact h:H W bv wr))
 have b6:=hid (fun W bv wr (h:H W bv wr)=>by rw[ac]at h;exact h)
 clear ac
 go_loopw [4,5,6,7] (fun W bv _ _ wr=>H W bv wr) (fun _ bv _ _ wr=>2* (20001-posO P wr)+boolN bv)
 case atStart=>exact aS _ _ _ ⟨I.r.length+1,I,⟨[],[],[],[]⟩,[],true,nl,nl,nl,nl,[],[],[],[],rfl,HF,fun _=>by omega,⟨by simp,by simp,by simp,by simp,by simp;omega,by omega⟩,fun _=>⟨by simp,by simp,by simp,by simp,by simp;omega⟩,E⟩
 case round=>
  clear E HF
  obtain⟨m,st,d,l,q,v1,v2,v3,v4,J,K,O,U,rfl,hF,hm,hB,ax,E⟩:=b6 _ _ _ hrel
  have HF:=hid hF
  have bd:=hid (And.intro E.ps.posO E.ps.le)
  clear hF
  cases q
  ·obtain rfl:FR=((d,l),st):=by
    have h:=HF.out
    rwa [if_neg (by simp)]at h
   have HB:=hid hB
   clear ax hm HF
   obtain⟨Ac,cc,rfl⟩:=ca (E.own (j:=0) rfl)
   obtain⟨Bp,cp,rfl⟩:=ca (E.own (j:=4) rfl)
   go_wp2_with (go_at_call 45;refine E.rnd C yRp rfl fun u E=>?_)
   go_loopw [8,9] (fun iv _ wr=>Hid (∃(k:Nat) (cs:List Cd) (J:LV),k≤d.cols.length∧iv= i4 k∧cs=(d.cols.take k).map (nnC l)++d.cols.drop k∧En 77 P A c L w0 w wr (needP yRp st) (Vd w.heap.size gd [bk g0 29 [nl,nl,nl,nl]] { d with cols:=cs } l (.slice Ac cs.length cc) v2 v3 v4 (.slice Bp l.length cp) J K O U) (DP { d with cols:=cs } J K O U))) (fun i _ _=>d.cols.length- (intOf i).toNat)
   case atStart=>exact hid ⟨0,d.cols,J,Nat.zero_le _,rfl,rfl,E⟩
   case round=>
    clear E
    obtain⟨k,cs,y1,hk,rfl,G,E⟩:=hrel.out
    have cx:cs.length=d.cols.length:=by rw[G,length_append,length_map,length_take,length_drop];omega
    by_cases ck:k<d.cols.length
    ·obtain⟨⟨nm,ty,lo,hi,mx,nn⟩,hy⟩:∃y,d.cols[k]? =some y:=⟨_,getElem?_eq_getElem ck⟩
     have a8:=(tD l d.cols hy _ rfl).2
     rw[←G]at a8
     have HN:=hid (fun b f=> (tD l d.cols hy b f).1)
     rw[←G]at HN
     obtain⟨gr,rfl⟩:=nQ (E.own (j:=0) rfl) (by omega)
     have i0:(0:Int)≤(k:Int):=by omega
     have i2:(k:Int)<(cs.length:Int):=by omega
     have HY:=hid a8
     have cv:=hid G
     clear hy a8 G
     go_wp2_with (refine E.l1 (j:=5) rfl rfl rfl rfl rfl (by kernel_rfl) ?_)
     go_loopw [9] (fun jv wr=>Hid (∃(j:Nat) (b:Bool) (ds:List Cd) (z1:LV),j≤l.length∧jv= i4 j∧b=(nn||(l.take j).contains nm)∧ds=cs.set k ⟨nm,ty,lo,hi,mx,b⟩∧En 77 P A c L w0 w wr (needP yRp st) (Vd w.heap.size gd [bk g0 29 [nl,nl,nl,nl]] { d with cols:=ds } l (.slice (some ⟨gr,0,none⟩) ds.length cc) v2 v3 v4 (.slice Bp l.length cp) z1 K O U) (DP { d with cols:=ds } z1 K O U))) (fun j _=>l.length- (intOf j).toNat)
     case atStart=>exact hid ⟨0,nn,cs,y1,Nat.zero_le _,rfl,by simp,by
      obtain⟨h1,h2⟩:=List.getElem?_eq_some_iff.1 HY
      rw[←h2,set_getElem_self],E⟩
     case round=>
      clear E
      obtain⟨j,b,ds,z1,hj,rfl,f,ad,E⟩:=hrel.out
      have c0:ds.length=cs.length:=by rw[ad,length_set]
      have bn:ds[k]? =some ⟨nm,ty,lo,hi,mx,b⟩:=by rw[ad,getElem?_set_self (by omega)]
      by_cases b9:j<l.length
      ·obtain⟨t,ht⟩:∃t,l[j]? =some t:=⟨_,getElem?_eq_getElem b9⟩
       obtain⟨gp,rfl⟩:=nQ (E.own (j:=4) rfl) (by omega)
       obtain⟨cz,cH,⟨rfl,dp⟩,bw⟩:=E.stb.now.1.get bn
       have ho:=E.own (j:=0) rfl
       have df:z1.length=ds.length*6:=ho.1
       have j0:(0:Int)≤(j:Int):=by omega
       have j1:(j:Int)<(l.length:Int):=by omega
       have i3:(k:Int)<(ds.length:Int):=by omega
       have bf:(l.take (j+1)).contains nm=((l.take j).contains nm||(nm==t)):=by
        rw[take_add_one,ht,List.contains_append]
        simp
       have a1:=ai.keep ((E.get (j:=5) rfl).cell_some (i:=0) rfl)
       have a2:=ai.keep ((ho.cellAt (k*6) (by omega)).trans (bw 0 _ rfl))
       have a3:=ai.keep (((E.own (j:=4) rfl).cellAt j (by omega)).trans (show(l.map Value.string)[j]? =some (.string t) by rw[getElem?_map,ht];rfl))
       go_upto_region 33 with fail
       refine af (by kernel_rfl) (by kernel_rfl) ?_
       repeat (go_big_quiet_step (fail))
       refine wpQuiet_nil ?_
       intro w' b0
       have hx:=am b0
       replace E:=E.ext hx
       generalize w'=d7 at*
       clear a1 a2 a3 b0 hx ho
       rw[ba_tol nm t]
       by_cases hq:nm=t
       ·subst hq
        have ho:=E.own (j:=0) rfl
        have c6:=(ho.cellAt (k*6+5) (by omega)).trans (bw 5 _ rfl)
        have c5:=ho.frozenAt (k*6+5)
        go_wp2_with (refine E.l1 (j:=5) rfl rfl rfl rfl rfl (by kernel_rfl) ?_)
        have E2:=E.setr (j:=0) rfl (k*6+5) (.bool true)
        have h9:ds.length=(ds.set k ⟨nm,ty,lo,hi,mx,true⟩).length:=by rw[length_set]
        go_roundw
        case rel=>
         rw[h9]at E2
         exact hid ⟨j+1,true,ds.set k ⟨nm,ty,lo,hi,mx,true⟩,z1.set (k*6+5) (.bool true),by omega,by go_num,by rw[bf,tw];simp,by rw[ad,set_set],E2.imp fun u h=>⟨Els.nn true h.1 bn,h.2⟩⟩
        case measure=>simp[intOf];omega
       ·go_wp2_with fail
        go_roundw
        case rel=>exact hid ⟨j+1,b,ds,z1,by omega,by go_num,by rw[bf,show(nm==t)=false by rw[tw];simpa using hq,Bool.or_false];exact f,ad,E⟩
        case measure=>simp[intOf];omega
      ·obtain rfl:j=l.length:=by omega
       rw[take_length]at f
       have e:=HN b f
       rw[←ad]at e
       go_wp2_with fail
       go_roundw
       case rel=>exact hid ⟨k+1,ds,z1,by omega,by go_num,e,E⟩
       case measure=>simp[intOf];omega
    ·obtain rfl:k=d.cols.length:=by omega
     rw[take_length,drop_length,append_nil]at G
     subst G
     obtain⟨B2,c2,rfl⟩:=ca (E.own (j:=1) rfl)
     obtain⟨B3,c3,rfl⟩:=ca (E.own (j:=2) rfl)
     obtain⟨B4,c4,rfl⟩:=ca (E.own (j:=3) rfl)
     have hB:=HB.out
     have c7:¬((d.cols.length:Int)<((d.cols.map (nnC l)).length:Int)):=by rw[length_map];omega
     obtain rfl:Z=({ d with cols:=d.cols.map (nnC l) },needP yRp st):=HM.out
     go_wp2_with (first|(refine E.lw (j:=5) (ty:=29) rfl rfl rfl rfl (by kernel_rfl) ?_)|(refine E.l1 (j:=5) rfl rfl rfl rfl rfl (by kernel_rfl) ?_)|(refine E.sw (j:=6) (ty:=29) rfl rfl rfl rfl rfl rfl (by kernel_rfl) (by kernel_rfl) (by rfl) fun u E=>?_))
     refine E.fi (j:=6) rfl rfl rfl rfl (by kernel_rfl) ⟨Ac,cc,B2,c2,B3,c3,B4,c4,rfl,⟨by show(d.cols.map (nnC l)).length≤_;rw[length_map];omega,by show d.keys.length≤_;omega,by show d.frs.length≤_;omega,by show d.chk.length≤_;omega⟩,E.all2.imp fun u h=>⟨h.1.1.lst' (h.2 0 _ rfl),h.1.2.1.lst' (h.2 1 _ rfl),h.1.2.2.1.lst' (h.2 2 _ rfl),h.1.2.2.2.lst' (h.2 3 _ rfl)⟩⟩
  ·have c9:=hm rfl
   obtain⟨m,rfl⟩:∃x,m=x+1:=⟨m-1,by omega⟩
   have HB:=hid (ax rfl)
   obtain⟨b1,b2,b3,b4,b5⟩:=ax rfl
   have a9:=hid hB.2.2.2.2.2
   have a4:=qh (ex:=ex) d l st
   have a5:=nT bo d l st
   have a0:=mA bo d l st
   have D:Hid (elemP ex d l st=if isS eI st=true then (({ d with keys:=d.keys++ [(namesP (needP kKEY st.next)).1] },l++(namesP (needP kKEY st.next)).1),(namesP (needP kKEY st.next)).2)else if isS fC st=true then (({ d with keys:=d.keys++ [(namesP st.next).1] },l),(namesP st.next).2)else if isS iu st=true then (({ d with chk:=d.chk++ [(ex (needP yLp st.next)).1] },l),needP yRp (ex (needP yLp st.next)).2)else if isS ea st=true then (({ d with frs:=d.frs++ [(refP (needP kKEY st.next)).1] },l),(refP (needP kKEY st.next)).2)else (({ d with cols:=d.cols++ [(ek st).1] },l),(ek st).2)):=rfl
   obtain⟨X,hX⟩:∃x,elemP ex d l st=x:=⟨_,rfl⟩
   rw[if_pos rfl,hX]at HF
   rw[hX]at D a4 a5 a0
   have ba:=hid (And.intro a4 (And.intro a5 a0))
   clear hX hm hB ax a4 a5 a0
   have HT:=hid (fun (W v1 v2 v3 v4:Value) (J K O U:LV) (u:World) (f:isS yCm X.2=true) (E:En 77 P A c L w0 w u X.2.next (Vd w.heap.size gd [bk g0 29 [nl,nl,nl,nl]] X.1.1 X.1.2 v1 v2 v3 v4 W J K O U) (DP X.1.1 J K O U))=> (by
    obtain⟨⟨⟨d2,l2⟩,s2⟩,hX⟩:∃x,x=X:=⟨_,rfl⟩
    subst hX
    have hF:=HF.out
    obtain⟨e1,e2,e3⟩:=ba.out
    simp only at hF E e1 e2 e3 f
    rw[jZ,f,if_pos rfl]at hF
    have a7:=bd.out
    have b7:=a9.out
    have cj:=au f
    exact⟨aS _ _ _ ⟨m,s2.next,d2,l2,true,v1,v2,v3,v4,J,K,O,U,rfl,by rw[if_pos rfl];exact hF,fun _=>by omega,by omega,fun _=>by omega,E⟩,by rw[E.ps.posO,a7.1];omega⟩:H W (.bool true) u∧2* (20001-posO P u)+1<2* (20001-posO P wr)+1))
   have HU:=hid (fun (W v1 v2 v3 v4:Value) (J K O U:LV) (u:World) (f:isS yCm X.2=false) (E:En 77 P A c L w0 w u X.2 (Vd w.heap.size gd [bk g0 29 [nl,nl,nl,nl]] X.1.1 X.1.2 v1 v2 v3 v4 W J K O U) (DP X.1.1 J K O U))=> (by
    obtain⟨⟨⟨d2,l2⟩,s2⟩,hX⟩:∃x,x=X:=⟨_,rfl⟩
    subst hX
    have hF:=HF.out
    obtain⟨e1,e2,e3⟩:=ba.out
    simp only at hF E e1 e2 e3 f
    rw[jZ,f,if_neg (by simp)]at hF
    have a7:=bd.out
    have b7:=a9.out
    exact⟨aS _ _ _ ⟨m,s2,d2,l2,false,v1,v2,v3,v4,J,K,O,U,rfl,by rw[if_neg (by simp)];exact hF,fun h=>by simp at h,by omega,fun h=>by simp at h,E⟩,by rw[E.ps.posO,a7.1];omega⟩:H W (.bool false) u∧2* (20001-posO P u)+0<2* (20001-posO P wr)+1))
   go_wp2_with (first|(go_at_call 66;refine E.rtk C eI rfl (fun h1 u E=>?_) (fun h1 u E=>?_))|(go_at_call 66;refine E.rtk C fC rfl (fun h2 u E=>?_) (fun h2 u E=>?_))|(go_at_call 66;refine E.rtk C iu rfl (fun h3 u E=>?_) (fun h3 u E=>?_))|(go_at_call 66;refine E.rtk C ea rfl (fun h4 u E=>?_) (fun h4 u E=>?_)))
   ·rw[h1,if_pos rfl]at D
    go_upto_region 11 with (first|(go_at_call 45;refine E.rnd C kKEY rfl fun u E=>?_)|(go_at_call 136;refine E.rnms C fun B k u hk E=>?_))
    obtain⟨⟨ks,s2⟩,ag⟩:∃x,namesP (needP kKEY st.next)=x:=⟨_,rfl⟩
    rw[ag]at D hk E ⊢
    simp only at D hk E ⊢
    clear ag
    obtain rfl:=D.out
    have G:([.slice B ks.length k]:LV).length=1:=rfl
    go_wp2_with (first|(refine E.l1 (j:=5) rfl rfl rfl rfl rfl (by kernel_rfl) ?_)|(refine E.sm (j:=5) rfl rfl rfl rfl rfl (by first|exact cA rfl|exact cS rfl|exact cI rfl|exact cL rfl|exact cB rfl) (by kernel_rfl) (by kernel_rfl) (by kernel_rfl) fun u E=>?_)|(at_builtin;refine E.ap ks tu (j:=1) rfl rfl rfl rfl rfl rfl rfl (by simp[Value.oneCell']) (by omega) fun Y A' c' u p E=>?_)|(at_builtin;obtain⟨lim,cl⟩:=xl E.stb.now.2;refine E.apr ks ap_str (j:=4) rfl rfl rfl rfl rfl cl (fun u hu=>by obtain⟨z,_,rfl⟩:=List.mem_map.1 hu;rfl) (by omega) fun l2 A2 c2 u an E=>?_;rw[←map_append,←an.out]at E;replace E:=E.imp (Ψ:=DP { d with keys:=Y } _ _ _ _) fun u h=>⟨h.1.1,p.out ▸ Els.snoc h.1.2.1 rfl ⟨B,k,rfl,hk,h.2⟩,h.1.2.2⟩)|(go_at_call 66;refine E.rtk C yCm rfl (fun f u E=>?_) (fun f u E=>?_)))
    ·go_roundw
     case rel=>obtain rfl:=p.out;obtain rfl:=an.out;exact(HT _ _ _ _ _ _ _ _ _ _ f E).1
     case measure=>obtain rfl:=p.out;obtain rfl:=an.out;exact(HT _ _ _ _ _ _ _ _ _ _ f E).2
    ·go_roundw
     case rel=>obtain rfl:=p.out;obtain rfl:=an.out;exact(HU _ _ _ _ _ _ _ _ _ _ f E).1
     case measure=>obtain rfl:=p.out;obtain rfl:=an.out;exact(HU _ _ _ _ _ _ _ _ _ _ f E).2
   ·rw[h1,if_neg (by simp),h2,if_pos rfl]at D
    obtain⟨⟨ks,s2⟩,ag⟩:∃x,namesP st.next=x:=⟨_,rfl⟩
    rw[ag]at D
    simp only at D
    obtain rfl:=D.out
    have z1:=(E.get (j:=5) rfl).cell_some (i:=1) rfl
    replace E:=hid (E.ext (Ext.refl _).drew)
    have z2:=(E.get (j:=5) rfl).cell_some (i:=1) rfl
    go_region_law (first
     |(refine E.aps ks tu (j:=1) rfl rfl rfl rfl rfl rfl rfl (by simp[Value.oneCell']) (by omega) fun Y A' c' u p E=>?_;have z9:=(E.get (j:=5) rfl).cell_some (i:=1) rfl;have y9:=(E.get (j:=5) rfl).frozen 1;replace E:=hid E)
     |(go_simp;(go_at_call 136;have hc:=rO E.ps C;rw[ag]at hc;(with_reducible refine hc.mono ?_);rintro _ u3 ⟨v,rfl,g1,g2,B,k,rfl,hk,g3⟩;replace E:=hid (E.calls g1 g2 g3);have HK:=hid hk;clear g1 g2 g3 hk hc);have z3:=(E.get (j:=5) rfl).cell_some (i:=1) rfl;have z4:=fun o=> (x10 u3 o).keep z3))
    all_goals
     replace E:=E.set (j:=5) rfl 1 (.slice A' Y.length c')
     replace E:=E.imp (Ψ:=DP { d with keys:=Y } _ _ _ _) fun u h=>⟨h.1.1,p.out ▸ Els.snoc h.1.2.1 rfl ⟨B,k,rfl,HK,h.2⟩,h.1.2.2⟩
     go_wp2_with (first|(go_at_call 66;refine E.rtk C yCm rfl (fun f u E=>?_) (fun f u E=>?_)))
     ·go_roundw
      case rel=>obtain rfl:=p.out;exact(HT _ _ _ _ _ _ _ _ _ _ f E).1
      case measure=>obtain rfl:=p.out;exact(HT _ _ _ _ _ _ _ _ _ _ f E).2
     ·go_roundw
      case rel=>obtain rfl:=p.out;exact(HU _ _ _ _ _ _ _ _ _ _ f E).1
      case measure=>obtain rfl:=p.out;exact(HU _ _ _ _ _ _ _ _ _ _ f E).2
   ·rw[h1,if_neg (by simp),h2,if_neg (by simp),h3,if_pos rfl]at D
    have cj:=au h3
    have a6:=aA yLp st.next
    go_upto_region 17 with (go_at_call 45;refine E.rnd C yLp rfl fun u E=>?_)
    obtain⟨s2,ct⟩:∃x,needP yLp st.next=x:=⟨_,rfl⟩
    rw[ct]at D E a6
    obtain⟨⟨⟨⟨op,tb,nm,ix,vk,vi,vt⟩,ks⟩,s3⟩,hy⟩:∃x,ex s2=x:=⟨_,rfl⟩
    rw[hy]at D
    simp only at D
    obtain rfl:=D.out
    have z1:=(E.get (j:=5) rfl).cell_some (i:=3) rfl
    replace E:=hid (E.ext (Ext.refl _).drew)
    have z2:=(E.get (j:=5) rfl).cell_some (i:=3) rfl
    go_region_law (first
     |(refine E.aps (Ex.mk ⟨op,tb,nm,ix,vk,vi,vt⟩ ks) ap_ex (j:=3) rfl rfl rfl rfl rfl rfl rfl (by simp[Value.oneCell']) (by omega) fun Y A' c' u p E=>?_;have z9:=(E.get (j:=5) rfl).cell_some (i:=3) rfl;have y9:=(E.get (j:=5) rfl).frozen 3;replace E:=hid E)
     |(go_simp;(go_at_call 41;obtain⟨d1,dw,d5,d4,d3,d0,d6,dx,s5,bN,hc⟩:=hr.at_ E.ps (by omega);cases hy.symm.trans bN;(with_reducible refine hc.mono ?_);rintro _ u3 ⟨B,k,c1,rfl,g1,g2,g3⟩;replace E:=hid (E.calls g1 g2 g3);clear g1 g2 g3 bN hc);have z3:=(E.get (j:=5) rfl).cell_some (i:=3) rfl;have z4:=fun o=> (x10 u3 o).keep z3))
    all_goals
     replace E:=E.set (j:=5) rfl 3 (.slice A' Y.length c')
     replace E:=E.imp (Ψ:=DP { d with chk:=Y } _ _ _ _) fun u h=>⟨h.1.1,h.1.2.1,h.1.2.2.1,p.out ▸ Els.snoc h.1.2.2.2 rfl ⟨B,k,c1,rfl,h.2⟩⟩
     go_wp2_with (first|(go_at_call 45;refine E.rnd C yRp rfl fun u E=>?_)|(go_at_call 66;refine E.rtk C yCm rfl (fun f u E=>?_) (fun f u E=>?_)))
     ·go_roundw
      case rel=>obtain rfl:=p.out;exact(HT _ _ _ _ _ _ _ _ _ _ f E).1
      case measure=>obtain rfl:=p.out;exact(HT _ _ _ _ _ _ _ _ _ _ f E).2
     ·go_roundw
      case rel=>obtain rfl:=p.out;exact(HU _ _ _ _ _ _ _ _ _ _ f E).1
      case measure=>obtain rfl:=p.out;exact(HU _ _ _ _ _ _ _ _ _ _ f E).2
   ·rw[h1,if_neg (by simp),h2,if_neg (by simp),h3,if_neg (by simp),h4,if_pos rfl]at D
    obtain rfl:=D.out
    go_upto_region 22 with (first|(go_at_call 45;refine E.rnd C kKEY rfl fun u E=>?_)|(go_at_call 136;refine E.rnms C fun B1 k1 u cb E=>?_)|(refine E.al rfl _ rfl rfl (cs:= [nl,.string ⟨#[]⟩,nl]) (t:=103) (by kernel_rfl) fun g u E=>?_)|(refine E.sw (j:=0) (ty:=103) rfl rfl rfl rfl rfl rfl (by kernel_rfl) (by kernel_rfl) rfl fun u E=>?_))
    go_wp2_with (first|(go_at_call 45;refine E.rnd C kREFERENCES rfl fun u E=>?_)|(go_at_call 136;refine E.rnms C fun B2 k2 u ci E=>?_)|(go_at_call 67;refine E.rnm C fun u hz E=>?_;replace hz:=hid hz)|(refine E.lw (j:=0) (ty:=103) rfl rfl rfl rfl (by kernel_rfl) ?_)|(refine E.l1 (j:=6) rfl rfl rfl rfl rfl (by kernel_rfl) ?_)|(refine E.sm (j:=0) rfl rfl rfl rfl rfl (by first|exact cA rfl|exact cS rfl|exact cI rfl|exact cL rfl|exact cB rfl) (by kernel_rfl) (by kernel_rfl) (by kernel_rfl) fun u E=>?_)|(refine E.sm (j:=6) rfl rfl rfl rfl rfl (by first|exact cA rfl|exact cS rfl|exact cI rfl|exact cL rfl|exact cB rfl) (by kernel_rfl) (by kernel_rfl) (by kernel_rfl) fun u E=>?_)|(refine bsG ap_ref rfl rfl _ rfl rfl ?_)|(at_builtin;refine E.ap ⟨(namesP (needP kKEY st.next)).1,(takP 1 (needP kREFERENCES (namesP (needP kKEY st.next)).2)).1,(namesP (takP 1 (needP kREFERENCES (namesP (needP kKEY st.next)).2)).2).1⟩ ap_ref (j:=3) rfl rfl rfl rfl rfl rfl rfl (by simp[Value.oneCell']) (by omega) fun Y A' c' u p E=>?_)|(go_at_call 66;refine E.rtk C yCm rfl (fun f u E=>?_) (fun f u E=>?_)))
    all_goals replace E:=E.pop.imp (Ψ:=DP { d with frs:=Y } _ _ _ _) fun u h=>⟨h.1.1.1,h.1.1.2.1,p.out ▸ Els.snoc h.1.1.2.2.1 rfl ⟨B1,k1,B2,k2,rfl,Nat.le_trans hz (by omega),cb,ci,h.1.2,h.2⟩,h.1.1.2.2.2⟩
    ·obtain rfl:=p.out
     exact HT _ _ _ _ _ _ _ _ _ _ f E
    ·obtain rfl:=p.out
     exact HU _ _ _ _ _ _ _ _ _ _ f E
   ·rw[h1,if_neg (by simp),h2,if_neg (by simp),h3,if_neg (by simp),h4,if_neg (by simp)]at D
    obtain⟨⟨cd,s2⟩,bm⟩:∃x,ek st=x:=⟨_,rfl⟩
    rw[bm]at D
    simp only at D
    obtain rfl:=D.out
    go_upto_region 7 with fail
    have z1:=(E.get (j:=5) rfl).cell_some (i:=0) rfl
    replace E:=hid (E.ext (Ext.refl _).drew)
    have z2:=(E.get (j:=5) rfl).cell_some (i:=0) rfl
    go_region_law (first
     |(refine E.aps cd ap_col (j:=0) rfl rfl rfl rfl rfl rfl rfl (by simp[Value.oneCell']) (by omega) fun Y A' c' u p E=>?_;have z9:=(E.get (j:=5) rfl).cell_some (i:=0) rfl;have y9:=(E.get (j:=5) rfl).frozen 0;replace E:=hid E)
     |(go_simp;(go_at_call 137;have hc:=rtyped_rd E.ps C;rw[bm]at hc;(with_reducible refine hc.mono ?_);rintro _ u3 ⟨v,rfl,g1,g2,rfl,g3⟩;replace E:=hid (E.call g1 g2);have HK:=hid g3;clear g1 g2 g3 hc);have z3:=(E.get (j:=5) rfl).cell_some (i:=0) rfl;have z4:=fun o=> (x10 u3 o).keep z3))
    all_goals
     replace E:=E.set (j:=5) rfl 0 (.slice A' Y.length c')
     replace E:=E.imp (Ψ:=DP { d with cols:=Y } _ _ _ _) fun u h=>⟨p.out ▸ Els.snoc h.1 rfl ⟨rfl,HK⟩,h.2⟩
     go_wp2_with (first|(go_at_call 66;refine E.rtk C yCm rfl (fun f u E=>?_) (fun f u E=>?_)))
     ·go_roundw
      case rel=>obtain rfl:=p.out;exact(HT _ _ _ _ _ _ _ _ _ _ f E).1
      case measure=>obtain rfl:=p.out;exact(HT _ _ _ _ _ _ _ _ _ _ f E).2
     ·go_roundw
      case rel=>obtain rfl:=p.out;exact(HU _ _ _ _ _ _ _ _ _ _ f E).1
      case measure=>obtain rfl:=p.out;exact(HU _ _ _ _ _ _ _ _ _ _ f E).2
end
end
end Go.Proofs.YtjigcpfjhfoheaaGreatDoor
