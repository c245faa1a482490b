/- Steps of a walk over the program's parser, each with what follows it; Steps of a walk over a parser: structs of any type stored into, loaded from, returned; Rows of the call's own that grow; a slice of one element built; the eleme. -/
import Derived.Test.YtjigcpfjhfoheaaGreatDoorVbb
import Derived.Great.Walk
import Derived.Deep.MidRow
import Derived.Maps.OwnSet
namespace Go.Proofs.YtjigcpfjhfoheaaGreatDoor
open Go.RowKit List Go.Proofs.Tryz
set_option maxHeartbeats 1000000
set_option maxRecDepth 100000
set_option linter.unusedVariables false
set_option linter.unusedSimpArgs false
section
open Lx (Tk)
def Rdr (T P:Nat) (A:OA) (c:Nat) (L:List Tk) (w0:World) (n:Nat) (F:FuncId) (m:M Ex):Prop:=∀(W:World) (st:Ps),PsAt T P A c L w0 W st→st.r.length<n→
 Cl F #[.pointer (some ⟨P,0,none⟩)] W (Ran T P A c L w0 W (m st).2 fun v W'=>ExG W.heap.size W' (m st).1 v)
abbrev zE:LV:=eZ
section
variable {T P c:Nat} {A:OA} {L:List Tk} {w0 wi w:World} {s s':Ps} {V:List Vb} {Φ Ψ:World→Prop} {F:Nat} {x:Array Value} {R:Ending} {Q:Ending→World→Prop}
theorem En.run {Y:Value→World→Prop} (E:En T P A c L w0 wi w s V Φ) (i:Cl F x w (Ran T P A c L w0 w s' Y)) (k:∀v w',Y v w'→En T P A c L w0 wi w' s' V Φ→Q (.returned v) w'):Cl F x w Q:=
 i.mono fun e w' ⟨v,h,b,f,g⟩=>by rw[h];exact k v w' g (E.call b f)
theorem En.rdx {y:Ex} (E:En T P A c L w0 wi w s V Φ) (i:Cl F x w (Ran T P A c L w0 w s' fun v w'=>ExG w.heap.size w' y v)) (k:∀B k c' w',En T P A c L w0 wi w' s' V (fun u=>Φ u∧ExV u y B k c')→Q (.returned (.agg (y.d.cells B k c').toArray)) w'):Cl F x w Q:=
 i.mono fun e w' ⟨v,h,b,f,B,m,c',j,g⟩=>by rw[h,j];exact k B m c' w' (E.calls b f g)
theorem En.rd {n:Nat} {m:M Ex} (f:Rdr T P A c L w0 n F m) (E:En T P A c L w0 wi w s V Φ) (b:s.r.length<n) (k:∀(y:Ex) (s':Ps) B k c' w',m s=(y,s')→En T P A c L w0 wi w' s' V (fun u=>Φ u∧ExV u y B k c')→Q (.returned (.agg (y.d.cells B k c').toArray)) w'):Cl F #[.pointer (some ⟨P,0,none⟩)] w Q:=
 E.rdx (f w s E.ps b) fun B g c' w' E=>k _ _ B g c' w' rfl E
theorem En.o1 {x:Array Value} {W:World} {y:Ex} {B:OA} {n c':Nat} {o:Int} (E:En T P A c L w0 wi w s V Φ) (b:x= #[i4 o,.slice (some ⟨w.heap.size,0,none⟩) 1 1]) (g:W=w.alloc (.cells (y.d.cells B n c').toArray 37)) (h:∀u,Φ u→ExV u y B n c') (i:I64 o) (k:∀D w',En T P A c L w0 wi w' s V (fun u=>Φ u∧ExV u (opE o [y]) D 1 1)→Q (.returned (.agg ((opE o [y]).d.cells D 1 1).toArray)) w'):
  Cl 105 x W Q:=
 b ▸ g ▸ (gR o _ 1 1 _).mono fun e w' ⟨f,b⟩=>by rw[f];exact k _ w' (E.op1' h i b)
theorem En.o2 {x:Array Value} {W:World} {y z:Ex} {B C:OA} {n c' g c2:Nat} {o:Int} (E:En T P A c L w0 wi w s V Φ) (f:x= #[i4 o,.slice (some ⟨w.heap.size,0,none⟩) 2 2]) (j:W=w.alloc (.cells (y.d.cells B n c'++z.d.cells C g c2).toArray 37)) (h:∀u,Φ u→ExV u y B n c'∧ExV u z C g c2) (m:I64 o) (k:∀D w',En T P A c L w0 wi w' s V (fun u=>Φ u∧ExV u (opE o [y,z]) D 2 2)→Q (.returned (.agg ((opE o [y,z]).d.cells D 2 2).toArray)) w'):
  Cl 105 x W Q:=
 f ▸ j ▸ (gR o _ 2 2 _).mono fun e w' ⟨i,f⟩=>by rw[i];exact k _ w' (E.op2' (fun u b=> (h u b).1) (fun u b=> (h u b).2) m f)
end
section
variable {P c:Nat} {A:OA} {L:List Tk} {w0 wi w:World} {s:Ps} {V:List Vb} {Φ:World→Prop} {Q:Ending→World→Prop}
theorem En.tk {x:Array Value} (E:En 68 P A c L w0 wi w s V Φ) (h:TkL L) (t:BA) (j:x= #[.pointer (some ⟨P,0,none⟩),.string t]) (g:isS t s=true→∀w',En 68 P A c L w0 wi w' s.next V Φ→Q (.returned (.bool true)) w') (f:isS t s=false→∀w',En 68 P A c L w0 wi w' s V Φ→Q (.returned (.bool false)) w'):
  Cl 53 x w Q:=
 j ▸ E.run (gP E.ps h t) fun v w' i E=>by
  subst i
  cases b:isS t s
  ·exact f b w' (by rw[ir,b]at E;exact E)
  ·exact g b w' (by rw[ir,b]at E;exact E)
theorem En.tkb {x:Array Value} (E:En 68 P A c L w0 wi w s V Φ) (b:TkL L) (t:BA) (g:x= #[.pointer (some ⟨P,0,none⟩),.string t]) (k:∀w',En 68 P A c L w0 wi w' (optP t s) V Φ→Q (.returned (.bool (isS t s))) w'):
  Cl 53 x w Q:=
 g ▸ E.run (gP E.ps b t) fun v w' f E=>by subst f;exact k w' E
theorem En.nd {x:Array Value} {W:World} (E:En 68 P A c L w0 wi w s V Φ) (h:TkL L) (t:BA) (i:W=w.alloc (.cells #[.string t] 9)) (j:x= #[.pointer (some ⟨P,0,none⟩),.slice (some ⟨w.heap.size,0,none⟩) 1 1]) (k:∀v w',En 68 P A c L w0 wi w' (needP t s) V Φ→Q (.returned v) w'):
  Cl 44 x W Q:=
 j ▸ i ▸ (need_any (E.ps.ext (x10 w _)) h t w.heap.size (by simp[World.cell?_alloc_new])).mono fun e w' ⟨v,b,f,g,_⟩=>by rw[b];exact k v w' (E.call f ((Chg.of (x10 w _)).trans g))
theorem En.hs {x:Array Value} (E:En 68 P A c L w0 wi w s V Φ) (m:TkL L) (j:Nat) (b:x= #[.pointer (some ⟨P,0,none⟩),i4 j]) (i:hasK j s=true→∀w',En 68 P A c L w0 wi w' s V Φ→Q (.returned (.bool true)) w') (g:hasK j s=false→∀w',En 68 P A c L w0 wi w' s V Φ→Q (.returned (.bool false)) w'):
  Cl 43 x w Q:=
 b ▸ (oX E.ps m j).mono fun e w' ⟨h,b⟩=>by
  rw[h]
  cases f:hasK j s
  ·exact g f w' (E.ext b)
  ·exact i f w' (E.ext b)
end
section
variable {T P c:Nat} {A:OA} {L:List Tk} {w0 wi w:World} {s:Ps} {V:List Vb} {Φ:World→Prop} {Q:Ending→World→Prop}
theorem En.lit {j i:Int} {t:BA} (E:En T P A c L w0 wi w s V Φ) (b:I64 j) (hi:I64 i) (f:t.size≤9223372036854775807) (k:∀w',En T P A c L w0 wi w' s V (fun u=>Φ u∧ExV u (dF j i t) none 0 0)→Q (.returned (.agg ((dF j i t).d.cells none 0 0).toArray)) w'):
  Cl 260 #[.agg #[i4 j,i4 i,.string t]] w Q:=
 (lit_val j i t w).mono fun e w' ⟨h,m⟩=>by rw[h];exact k w' ((E.ext m).imp fun u g=>⟨g,th b hi f⟩)
end
section
variable {T P c:Nat} {A:OA} {L:List Tk} {w0 wi w w':World} {s:Ps} {V:List Vb} {Φ:World→Prop}
theorem Rdr.at_ {n F:Nat} {m:M Ex} (t:Rdr T P A c L w0 n F m) (p:PsAt T P A c L w0 w s) (j:s.r.length<n):∃(y:Ex) (s':Ps),m s=(y,s')∧Cl F #[.pointer (some ⟨P,0,none⟩)] w fun e w'=> ∃B k c',e= .returned (.agg #[i4 y.d.op,.string y.d.tb,.string y.d.nm,i4 y.d.ix,i4 y.d.vk,i4 y.d.vi,.string y.d.vt,.slice B k c'])∧PsAt T P A c L w0 w' s'∧Chg P w w'∧Stb (w.heap.size≤·) w' (fun u=>ExV u y B k c'):=
 ⟨_,_,rfl,(t w s p j).mono fun e w' ⟨v,b,f,g,B,k,c',h,i⟩=>⟨B,k,c',by rw[b,h];rfl,f,g,i⟩⟩
end
section
variable {T P c:Nat} {A:OA} {L:List Tk} {w0 wi w:World} {s:Ps} {V:List Vb} {Φ:World→Prop} {ops:Array Oper} {rest:List Oper} {o:Oper} {a:Act} {Q:Exit→Act→World→Prop}
theorem En.al {t:Nat} {cs:LV} (E:En T P A c L w0 wi w s V Φ) (b:o.guard=none) (d:Option Tmp) (hd:o.dst=d) (h:o.op= .alloc t) (f:(execOp a.eval o).run prog w= .ok (.value (.pointer (some ⟨w.heap.size,0,none⟩))) (w.alloc (.cells cs.toArray t)))
  (k:∀g w',En T P A c L w0 wi w' s (bk g t cs::V) Φ→wpList prog ops Q rest (a.put d (.pointer (some ⟨g,0,none⟩))) w'):wpList prog ops Q (o::rest) a w:=
 Great.wpList_allocTo b d hd _ _ f (k _ _ (E.alloc t cs))
theorem En.sv {j g:Nat} {cs ds:LV} {x y:Operand} (E:En T P A c L w0 wi w s V Φ) (f:V[j]? =some (bk g 37 cs)) (b:o.guard=none) (p:o.op= .store 37 x y) (hd:o.dst=none) (r:a.eval x= .pointer (some ⟨g,0,none⟩)) (t:a.eval y= .agg ds.toArray) (i:cs.length=8) (m:ds.length=8) (h:ds.toArray.all (·.oneCell')=true)
  (k:∀w',En T P A c L w0 wi w' s (V.set j (bk g 37 ds)) Φ→wpList prog ops Q rest a w'):wpList prog ops Q (o::rest) a w:=
 stE b p hd g ds r t (E.get f) i m h (k _ (E.row f ds))
theorem infoE:(prog.info? 37).map (fun i=> (i.zero,i.size,i.bytes))=some (some (.agg zE.toArray),8,104):=by kernel_rfl
theorem bs1 {x:Operand} (f:o.guard=none) (m:o.op= .buildSlice 27 1 #[(0,x)]) (y:Nd) (B:OA) (n c':Nat) (p:a.eval x= .agg (y.cells B n c').toArray)
  (h:wpList prog ops Q rest (a.put o.dst (.slice (some ⟨w.heap.size,0,none⟩) 1 1)) (w.alloc (.cells (y.cells B n c').toArray 37))):wpList prog ops Q (o::rest) a w:=by
 obtain⟨r,g,j,b,t⟩:∃i,prog.info? 37=some i∧i.zero=some (.agg zE.toArray)∧i.size=8∧i.bytes=104:=by
  have h:=infoE
  cases hi:prog.info? 37 with
  |none=>rw[hi]at h;cases h
  |some i=>
   rw[hi]at h
   simp only[Option.map_some,Option.some.injEq,Prod.mk.injEq]at h
   exact⟨i,rfl,h.1,h.2.1,h.2.2⟩
 refine wpList_buildSlice f _ 37 1 _ m _ r _ rfl g j (by rw[b];decide) (by rw[b];decide) ?_ h
 rw[b]
 simp only[map_toArray,map_cons,map_nil,p]
 kernel_rfl
theorem bs2 {x z:Operand} (f:o.guard=none) (t:o.op= .buildSlice 27 2 #[(0,x),(1,z)]) (y:Nd) (B:OA) (n c':Nat) (p:Nd) (j:OA) (m c2:Nat) (u:a.eval x= .agg (y.cells B n c').toArray) (C:a.eval z= .agg (p.cells j m c2).toArray)
  (h:wpList prog ops Q rest (a.put o.dst (.slice (some ⟨w.heap.size,0,none⟩) 2 2)) (w.alloc (.cells (y.cells B n c'++p.cells j m c2).toArray 37))):wpList prog ops Q (o::rest) a w:=by
 obtain⟨D,g,r,b,E⟩:∃i,prog.info? 37=some i∧i.zero=some (.agg zE.toArray)∧i.size=8∧i.bytes=104:=by
  have h:=infoE
  cases hi:prog.info? 37 with
  |none=>rw[hi]at h;cases h
  |some i=>
   rw[hi]at h
   simp only[Option.map_some,Option.some.injEq,Prod.mk.injEq]at h
   exact⟨i,rfl,h.1,h.2.1,h.2.2⟩
 refine wpList_buildSlice f _ 37 2 _ t _ D _ rfl g r (by rw[b];decide) (by rw[b];decide) ?_ h
 rw[b]
 simp only[map_toArray,map_cons,map_nil,u,C]
 kernel_rfl
end
section
variable {T P c:Nat} {A:OA} {L:List Tk} {w0 wi w:World} {s:Ps} {V:List Vb} {Φ:World→Prop} {a:Act}
theorem En.done {X:Ex×Ps} {b:Func} {p j g:Nat} {B:OA} {n c':Nat} {y:Ex} (f:X=(y,s)) (E:En T P A c L w0 wi w s V Φ) (i:V[j]? =some (bk g 37 (y.d.cells B n c'))) (r:b.results= #[.cell p 37]) (m:a.tmps.getD p undef= .pointer (some ⟨g,0,none⟩)) (hd:a.defers= []) (h:∀u,Φ u→ExV u y B n c'):
  bodyPost prog b (Ran T P A c L w0 wi X.2 fun v w'=>ExG wi.heap.size w' X.1 v) .ret a w:=by
 subst f
 exact bodyPost_ret (v:= .agg (y.d.cells B n c').toArray) (results_cell_row r _ _ g 37 _ _ _ m (E.get i) underlying37 rfl (by kernel_rfl)) hd ⟨_,rfl,E.ps,E.chg,B,n,c',rfl,E.keep.imp h⟩
theorem En.fin {b:Func} {p j g:Nat} {B:OA} {n c':Nat} {y:Ex} (E:En T P A c L w0 wi w s V Φ) (f:V[j]? =some (bk g 37 (y.d.cells B n c'))) (m:b.results= #[.cell p 37]) (i:a.tmps.getD p undef= .pointer (some ⟨g,0,none⟩)) (hd:a.defers= []) (h:∀u,Φ u→ExV u y B n c'):
  bodyPost prog b (Ran T P A c L w0 wi s fun v w'=>ExG wi.heap.size w' y v) .ret a w:=
 bodyPost_ret (v:= .agg (y.d.cells B n c').toArray) (results_cell_row m _ _ g 37 _ _ _ i (E.get f) underlying37 rfl (by kernel_rfl)) hd ⟨_,rfl,E.ps,E.chg,B,n,c',rfl,E.keep.imp h⟩
end
end
section
open Lx (Tk)
def ElG {α:Type} (Ph:α→LV→World→Prop) (sz n:Nat) (W:World) (a:α) (v:Value):Prop:=∃cs,v.cells=cs.toArray∧(cs.length=sz∧∀u∈cs,u.oneCell'=true)∧Stb (n≤·) W (Ph a cs)
def updL:LV→Nat→LV→LV
 |cs,_,[]=>cs
 |cs,i,d::ds=>updL (cs.set i d) (i+1) ds
theorem mv {t n:Nat} (h:((prog.underlying t).map (·.isRow),(prog.info? t).map (·.size))=(some true,some n)):∃d,prog.underlying t=some d∧d.isRow=true∧(prog.info? t).map (·.size)=some n:=by
 have b:=congrArg Prod.fst h
 have g:=congrArg Prod.snd h
 cases f:prog.underlying t with
 |none=>rw[f]at b;cases b
 |some d=>rw[f]at b;exact⟨d,rfl,Option.some.inj b,g⟩
theorem mw {P:Program} (w:World) (b i ty:Nat) (v:Value) (ds:LV) (p:v.cells=ds.toArray) (h:w.there b i ds.length) (hi:(P.info? ty).map (·.size)=some ds.length) (m:∀u∈ds,u.oneCell'=true):
  (storeVar ty ⟨b,i,none⟩ v).run P w= .ok () (w.setCells b i ds):=by
 have:=run_storeCells_cells (P:=P) b i ds 0 w (fun j f=>by simpa using (h j f).1) (fun j f=>by simpa using (h j f).2) m
 cases g:P.info? ty with
 |none=>simp[g]at hi
 |some z=>
  have hs:ds.length=z.size:=by simp[g]at hi;omega
  simp only[Nat.add_zero]at this
  simp[storeVar,sizeOf,typeInfo,g,p,hs,this]
theorem run_load1 {P:Program} (w:World) (p:Addr) (t:TypeId) (v:Value) (d:TypeDesc) (g:P.underlying t=some d) (hd:d.isRow=false) (f:w.cell? p=some v):(loadVar t p).run P w= .ok v w:=by
 have b:(isAgg t).run P w= .ok false w:=by
  unfold isAgg
  rw[Sem.run_bind,run_underlying g w]
  cases d<;>simp_all
 simp[loadVar,Sem.run_bind,b,f]
theorem Blk.there {w:World} {g t i n:Nat} {cs:LV} (h:Blk w g t cs) (f:i+n≤cs.length):w.there g i n:=fun j b=>by
 refine⟨?_,h.frozen _⟩
 rw[h.cell_some (getElem?_eq_getElem (show i+j<cs.length by omega))]
 rfl
section
variable {T P c:Nat} {A:OA} {L:List Tk} {w0 wi w:World} {s:Ps} {V:List Vb} {Φ:World→Prop} {ops:Array Oper} {rest:List Oper} {o:Oper} {a:Act} {Q:Exit→Act→World→Prop}
theorem En.sets {j g t:Nat} :∀(ds:LV) (i:Nat) {w:World} {V:List Vb} {cs:LV},En T P A c L w0 wi w s V Φ→V[j]? =some (bk g t cs)→En T P A c L w0 wi (w.setCells g i ds) s (V.set j (bk g t (updL cs i ds))) Φ
 | [],i,w,V,cs,E,hj=>by
  rw[updL,World.setCells,show V.set j (bk g t cs)=V by
   obtain⟨h,e⟩:=List.getElem?_eq_some_iff.1 hj
   rw[←e,set_getElem_self]]
  exact E
 |d::ds,i,w,V,cs,E,hj=>by
  have h:=En.sets ds (i+1) (E.set hj i d) (getElem?_set_self (List.getElem?_eq_some_iff.1 hj).1)
  rw[set_set]at h
  rw[updL,World.setCells]
  exact h
theorem cA {v:Value} {ds:LV} (h:v= .agg ds.toArray):v.cells=ds.toArray:=by rw[h];rfl
theorem cS {v:Value} {b:BA} (h:v= .string b):v.cells= [.string b].toArray:=by rw[h];rfl
theorem cI {v:Value} {k:IntKind} {n:Int} (h:v= .int k n):v.cells= [.int k n].toArray:=by rw[h];rfl
theorem cB {v:Value} {b:Bool} (h:v= .bool b):v.cells= [.bool b].toArray:=by rw[h];rfl
theorem cL {v:Value} {B:OA} {n m:Nat} (h:v= .slice B n m):v.cells= [.slice B n m].toArray:=by rw[h];rfl
theorem tq:∀(ds:LV) (i:Nat) (cs:LV),i+ds.length≤cs.length→updL cs i ds=cs.take i++(ds++cs.drop (i+ds.length))
 | [],i,cs,h=>by
  show cs=cs.take i++([]++cs.drop (i+0))
  rw[nil_append,Nat.add_zero,take_append_drop]
 |d::ds,i,cs,h=>by
  simp only[length_cons]at h
  rw[updL,tq ds (i+1) (cs.set i d) (by rw[length_set];omega),take_add_one,getElem?_set_self (by omega),take_set_of_le (Nat.le_refl _),drop_set_of_lt (by omega)]
  simp only[length_cons,Option.toList_some,append_assoc,singleton_append,cons_append,nil_append]
  rw[show i+1+ds.length=i+(ds.length+1) by omega]
theorem En.sm0 {j g t i ty:Nat} {cs ds:LV} {x y:Operand} (E:En T P A c L w0 wi w s V Φ) (f:V[j]? =some (bk g t cs)) (b:o.guard=none) (z:o.op= .store ty x y) (hd:o.dst=none) (C:a.eval x= .pointer (some ⟨g,i,none⟩)) (D:(a.eval y).cells=ds.toArray) (hi:(prog.info? ty).map (·.size)=some ds.length) (p:ds.toArray.all (·.oneCell')=true) (m:i+ds.length≤cs.length)
  (k:∀w',En T P A c L w0 wi w' s (V.set j (bk g t (cs.take i++(ds++cs.drop (i+ds.length))))) Φ→wpList prog ops Q rest a w'):wpList prog ops Q (o::rest) a w:=
 wpList_plain b fun K r=>by
  unfold Oper.wp execOp
  simp only[z,C,Instr.storeAt,Instr.sureAddr,Sem.run_bind,Sem.run_pure,Result.andThen_ok,mw w g i ty (a.eval y) ds D ((E.get f).there m) hi (fun u B=> (Array.all_eq_true_iff_forall_mem.1 p) u (by simpa using B))]
  have h:=r a _ (k _ (tq ds i cs m ▸ E.sets ds i f))
  have e:a.put o.dst undef=a:=by rw[hd];rfl
  rw[←e]at h
  exact h
theorem En.sm {j g t i ty:Nat} {cs ds:LV} {x y:Operand} (E:En T P A c L w0 wi w s V Φ) (h:V[j]? =some (bk g t cs)) (b:o.guard=none) (p:o.op= .store ty x y) (hd:o.dst=none) (r:a.eval x= .pointer (some ⟨g,i,none⟩)) (u:(a.eval y).cells=ds.toArray) (hi:(prog.info? ty).map (·.size)=some ds.length) (f:ds.toArray.all (·.oneCell')=true) (m:Nat.ble (i+ds.length) cs.length=true)
  (k:∀w',En T P A c L w0 wi w' s (V.set j (bk g t (cs.take i++(ds++cs.drop (i+ds.length))))) Φ→wpList prog ops Q rest a w'):wpList prog ops Q (o::rest) a w:=
 E.sm0 h b p hd r u hi f (Nat.le_of_ble_eq_true m) k
theorem En.sw {j g t ty:Nat} {cs ds:LV} {x y:Operand} (E:En T P A c L w0 wi w s V Φ) (h:V[j]? =some (bk g t cs)) (b:o.guard=none) (m:o.op= .store ty x y) (hd:o.dst=none) (p:a.eval x= .pointer (some ⟨g,0,none⟩)) (r:a.eval y= .agg ds.toArray) (hi:(prog.info? ty).map (·.size)=some ds.length) (f:ds.toArray.all (·.oneCell')=true) (u:cs.length=ds.length)
  (k:∀w',En T P A c L w0 wi w' s (V.set j (bk g t ds)) Φ→wpList prog ops Q rest a w'):wpList prog ops Q (o::rest) a w:=
 E.sm0 (i:=0) h b m hd p (cA r) hi f (by omega) fun w' E=>k w' (by
  have e:cs.drop (0+ds.length)= []:=drop_eq_nil_of_le (by omega)
  rw[e,take_zero,nil_append,append_nil]at E
  exact E)
theorem En.l1 {j g t i ty:Nat} {cs:LV} {v:Value} {x:Operand} (E:En T P A c L w0 wi w s V Φ) (r:V[j]? =some (bk g t cs)) (f:o.guard=none) (u:o.op= .load ty x) (y:a.eval x= .pointer (some ⟨g,i,none⟩)) (p:cs[i]? =some v) (b:(prog.underlying ty).map (·.isRow)=some false)
  (k:wpList prog ops Q rest (a.put o.dst v) w):wpList prog ops Q (o::rest) a w:=
 wpList_plain f fun K m=>by
  cases h:prog.underlying ty with
  |none=>rw[h]at b;cases b
  |some d=>
   rw[h]at b
   unfold Oper.wp execOp
   simp only[u,y,Instr.loadAt,Instr.sureAddr,Sem.run_bind,Sem.run_pure,Result.andThen_ok,run_load1 w ⟨g,i,none⟩ ty v d h (Option.some.inj b) ((E.get r).cell_some p)]
   exact m _ _ k
theorem En.lw {j g t ty:Nat} {cs:LV} {x:Operand} (E:En T P A c L w0 wi w s V Φ) (f:V[j]? =some (bk g t cs)) (b:o.guard=none) (h:o.op= .load ty x) (p:a.eval x= .pointer (some ⟨g,0,none⟩)) (i:((prog.underlying ty).map (·.isRow),(prog.info? ty).map (·.size))=(some true,some cs.length))
  (k:wpList prog ops Q rest (a.put o.dst (.agg cs.toArray)) w):wpList prog ops Q (o::rest) a w:=by
 obtain⟨d,m,hd,hi⟩:=mv i
 exact aw b ty x h g p t cs d (E.get f) m (by cases d<;>first|rfl|cases hd) hi k
theorem En.lm {j g t i ty:Nat} {cs:LV} (ds:LV) {x:Operand} (E:En T P A c L w0 wi w s V Φ) (m:V[j]? =some (bk g t cs)) (f:o.guard=none) (p:o.op= .load ty x) (y:a.eval x= .pointer (some ⟨g,i,none⟩)) (h:(cs.drop i).take ds.length=ds) (r:((prog.underlying ty).map (·.isRow),(prog.info? ty).map (·.size))=(some true,some ds.length))
  (k:wpList prog ops Q rest (a.put o.dst (.agg ds.toArray)) w):wpList prog ops Q (o::rest) a w:=by
 obtain⟨d,u,hd,hi⟩:=mv r
 refine wpList_load_mid f ty x p g i y ds d (fun k v b=> (E.get m).cell_some ?_) u hd hi k
 rw[←h,getElem?_take]at b
 split at b
 ·rwa [getElem?_drop]at b
 ·cases b
theorem En.fi {f:Func} {p j g t:Nat} {cs:LV} {R:Value→World→Prop} (E:En T P A c L w0 wi w s V Φ) (i:V[j]? =some (bk g t cs)) (r:f.results= #[.cell p t]) (m:a.tmps.getD p undef= .pointer (some ⟨g,0,none⟩)) (hd:a.defers= []) (u:((prog.underlying t).map (·.isRow),(prog.info? t).map (·.size))=(some true,some cs.length)) (h:R (.agg cs.toArray) w):
  bodyPost prog f (Ran T P A c L w0 wi s R) .ret a w:=by
 obtain⟨d,y,b,hi⟩:=mv u
 exact bodyPost_ret (v:= .agg cs.toArray) (results_cell_row r _ _ g t _ _ d m (E.get i) y (by cases d<;>first|rfl|cases b) (by simpa using hi)) hd ⟨_,rfl,E.ps,E.chg,h⟩
theorem En.outG {b:Func} {p j g t sz:Nat} {cs:LV} {α:Type} {Ph:α→LV→World→Prop} {z:α} (E:En T P A c L w0 wi w s V Φ) (i:V[j]? =some (bk g t cs)) (y:b.results= #[.cell p t]) (r:a.tmps.getD p undef= .pointer (some ⟨g,0,none⟩)) (hd:a.defers= []) (B:((prog.underlying t).map (·.isRow),(prog.info? t).map (·.size))=(some true,some cs.length)) (m:cs.length=sz) (f:cs.all (·.oneCell')=true) (h:∀u,Φ u→Ph z cs u):
  bodyPost prog b (Ran T P A c L w0 wi s fun v w'=>ElG Ph sz wi.heap.size w' z v) .ret a w:=
 E.fi i y r hd B ⟨cs,rfl,⟨m,fun u C=>List.all_eq_true.1 f u C⟩,E.keep.imp h⟩
end
end
section
open Lx (Tk)
theorem tr {P:Program} {t:TypeId} {z:Value} {s b:Nat} (h:(P.info? t).map (fun i=> (i.zero,i.size,i.bytes))=some (some z,s,b)):∃i,P.info? t=some i∧i.zero=some z∧i.size=s∧i.bytes=b:=by
 cases hi:P.info? t with
 |none=>rw[hi]at h;cases h
 |some i=>
  rw[hi]at h
  simp only[Option.map_some,Option.some.injEq,Prod.mk.injEq]at h
  exact⟨i,rfl,h.1,h.2.1,h.2.2⟩
def Ap (t e sz:Nat):Prop:=prog.underlying t=some (.slice e)∧∃z b,(prog.info? e).map (fun i=> (i.zero,i.size,i.bytes))=some (some z,sz,b)∧z.cells.size=sz∧(0<sz∧sz≤100)∧b≤400
theorem ap_ex:Ap 27 37 8:=⟨underlying27,.agg zE.toArray,104,by kernel_rfl,rfl,by decide,by decide⟩
theorem ap_str:Ap 101 9 1:=⟨underlying101,.string ⟨#[]⟩,16,by kernel_rfl,rfl,by decide,by decide⟩
theorem ap_row:Ap 30 27 1:=⟨underlying30,.slice none 0 0,24,by kernel_rfl,rfl,by decide,by decide⟩
theorem tu:Ap 25 101 1:=⟨underlying25,.slice none 0 0,24,by kernel_rfl,rfl,by decide,by decide⟩
theorem ap_asg:Ap 31 82 10:=⟨underlying31,.agg (.string ⟨#[]⟩:: i4 0::zE).toArray,128,by kernel_rfl,rfl,by decide,by decide⟩
theorem ap_itm:Ap 32 84 9:=⟨underlying32,.agg (i4 0::zE).toArray,112,by kernel_rfl,rfl,by decide,by decide⟩
theorem ap_ord:Ap 38 88 2:=⟨underlying38,.agg #[i4 0,.bool false],16,by kernel_rfl,rfl,by decide,by decide⟩
theorem qc:Ap 33 86 2:=⟨underlying33,.agg #[.string ⟨#[]⟩,.string ⟨#[]⟩],32,by kernel_rfl,rfl,by decide,by decide⟩
theorem ap_col:Ap 24 99 6:=⟨underlying24,.agg #[.string ⟨#[]⟩,i4 0,i4 0,i4 0,i4 0,.bool false],56,by kernel_rfl,rfl,by decide,by decide⟩
theorem ap_ref:Ap 26 103 3:=⟨underlying26,.agg #[.slice none 0 0,.string ⟨#[]⟩,.slice none 0 0],64,by kernel_rfl,rfl,by decide,by decide⟩
theorem rz:∀(l:LV) (k:Nat) (b:LV),k+l.length≤b.length→(l.zipIdx k).foldl (fun (cs:Array Value) (x:Value×Nat)=>cs.setIfInBounds (0+x.2) x.1) b.toArray=(b.take k++l++b.drop (k+l.length)).toArray
 | [],k,b,h=>by simp
 |a::l,k,b,h=>by
  simp only[length_cons]at h
  rw[zipIdx_cons,foldl_cons,setIfInBounds_toArray,rz l (k+1) (b.set (0+k) a) (by rw[length_set];omega)]
  congr 1
  rw[Nat.zero_add,take_add_one,getElem?_set_self (by omega),take_set_of_le (Nat.le_refl _),drop_set_of_lt (by omega)]
  simp only[length_cons,Option.toList_some,append_assoc,singleton_append]
  rw[show k+1+l.length=k+(l.length+1) by omega]
theorem fill_one {z v:Value} {cs:LV} {sz:Nat} (j:z.cells.size=sz) (g:v.cells=cs.toArray) (b:cs.length=sz):
  Instr.fill (fun i=>some (i*sz,sz)) ((Array.range (1*sz)).map (z.cells[·%z.cells.size]!)) [(0,v)]=some cs.toArray:=by
 have h:v.cells.size=sz:=by rw[g];simpa using b
 simp only[Instr.fill,Nat.zero_mul]
 rw[if_neg (by simp[h])]
 have e:(Array.range (1*sz)).map (z.cells[·%z.cells.size]!)=((Array.range (1*sz)).map (z.cells[·%z.cells.size]!)).toList.toArray:=(Array.toArray_toList).symm
 rw[e,g,←Array.foldl_toList,Array.toList_zipIdx]
 have f:=rz cs 0 ((Array.range (1*sz)).map (z.cells[·%z.cells.size]!)).toList (by simp[b])
 simp only[take_zero,nil_append,Nat.zero_add]at f ⊢
 rw[f]
 simp[b]
def Els {α:Type} (Ph:α→LV→World→Prop) (sz:Nat) (l:List α) (xs:LV) (w:World):Prop:=∃css:List (LV),css.flatten=xs∧css.length=l.length∧(∀c∈css,c.length=sz)∧∀(i:Nat) (a:α) (c:LV),l[i]? =some a→css[i]? =some c→Ph a c w
section
variable {α:Type} {Ph:α→LV→World→Prop} {n0 T sz:Nat} {w:World} {v:Value} {l:List α} {xs cs:LV} {a:α}
theorem Els.nil:Els Ph sz [] [] w:=⟨[],rfl,rfl,fun c h=>by simp at h,fun i a c h=>by simp at h⟩
theorem Els.snoc (h:Els Ph sz l xs w) (y:cs.length=sz) (u:Ph a cs w):Els Ph sz (l++ [a]) (xs++cs) w:=by
 obtain⟨j,p,m,r,t⟩:=h
 refine⟨j++ [cs],by simp[p],by simp[m],fun c f=>?_,fun i b c g f=>?_⟩
 ·rcases List.mem_append.1 f with f|f
  ·exact r c f
  ·rw[List.mem_singleton.1 f];exact y
 ·rw[getElem?_append]at g f
  split at g
  ·next hi=>rw[if_pos (by omega)]at f;exact t i b c g f
  ·next hi=>
   rw[if_neg (by omega)]at f
   have:i=l.length:=by
    have:=(List.getElem?_eq_some_iff.1 g).1
    simp at this
    omega
   subst this
   rw[m]at f
   simp at g f
   subst g f
   exact u
theorem Els.one (f:cs.length=sz) (b:Ph a cs w):Els Ph sz [a] cs w:=by simpa using Els.snoc (Els.nil (Ph:=Ph)) f b
theorem Els.get (h:Els Ph sz l xs w) {i:Nat} (hi:l[i]? =some a):∃c,c.length=sz∧Ph a c w∧∀j u,c[j]? =some u→xs[i*sz+j]? =some u:=by
 obtain⟨b,m,p,g,r⟩:=h
 obtain⟨c,f⟩:∃c,b[i]? =some c:=⟨_,getElem?_eq_getElem (by rw[p];exact(List.getElem?_eq_some_iff.1 hi).1)⟩
 exact⟨c,g c (mem_of_getElem? f),r i a c hi f,fun j u t=>by rw[←m];exact pS b g i j c u f t⟩
theorem Els.lst (h:Els Ph sz l xs w) (p:w.ownsRow n0 T sz v l.length xs):∃A c,v= .slice A l.length c∧l.length≤c∧Lst Ph sz w A l:=by
 rcases p.2 with ⟨hv,h0⟩|⟨g,cap,cur,hv,_,hh,hc,_,_,ht⟩
 ·refine⟨none,0,by rw[hv,h0],by omega,fun i a hi=>?_⟩
  have:=(List.getElem?_eq_some_iff.1 hi).1
  omega
 ·refine⟨some ⟨g,0,none⟩,cap,hv,hc,fun i a hi=>?_⟩
  obtain⟨c,m,r,f⟩:=h.get hi
  refine⟨c,m,⟨g,0,rfl,fun j u t=>?_⟩,r⟩
  have b:=f j u t
  rw[←ht,getElem?_take]at b
  split at b
  ·rw[Nat.zero_add]
   simp[World.cell?,hh]
   simpa using b
  ·cases b
end
section
variable {T P c:Nat} {A:OA} {L:List Tk} {w0 wi w W w':World} {s:Ps} {V:List Vb} {Φ:World→Prop} {ops:Array Oper} {rest:List Oper} {o:Oper} {a:Act} {Q:Exit→Act→World→Prop} {K:Act→World→Prop} {R:Prop}
theorem bsG {x:Operand} {t e sz:Nat} (m:Ap t e sz) (g:o.guard=none) (u:o.op= .buildSlice t 1 #[(0,x)]) (cs:LV) (p:(a.eval x).cells=cs.toArray) (r:cs.length=sz)
  (h:wpList prog ops Q rest (a.put o.dst (.slice (some ⟨w.heap.size,0,none⟩) 1 1)) (w.alloc (.cells cs.toArray e))):wpList prog ops Q (o::rest) a w:=by
 obtain⟨y,z,b,hi,B,hs,_⟩:=m
 obtain⟨i,hi,j,f,_⟩:=tr hi
 refine wpList_buildSlice g t e 1 _ u _ i z y hi j (by rw[f];omega) (by rw[f];omega) ?_ h
 rw[f]
 simp only[map_toArray,map_cons,map_nil]
 exact fill_one B p r
theorem En.ap0 {t e sz j n m:Nat} {v f:Value} {xs i:LV} (E:En T P A c L w0 wi w s V Φ) (u:V[j]? =some (ow wi.heap.size e sz v n xs)) (y:Ext w W) (h:w'.ownsRow wi.heap.size e sz f (n+1) i) (r:W.grownBy w' v.ownBlock) (b:f.ownBlock=v.ownBlock∨f.ownBlock=some W.heap.size):
  En T P A c L w0 wi w' s (V.set j (ow wi.heap.size e sz f (n+1) i)) Φ∧∃p c',f= .slice p (n+1) c':=by
 refine⟨(E.ext y).put u r _ (kL h) fun q e=>?_,?_⟩
 ·rcases b with b|b
  ·exact .inl (b.symm.trans e)
  ·have:=(h.lt q e).2
   have:=Option.some.inj (b.symm.trans e)
   exact .inr ⟨by omega,by omega⟩
 ·rcases h.2 with ⟨_,h0⟩|⟨g,cap,cur,hv,_⟩
  ·cases h0
  ·exact⟨_,_,hv⟩
theorem En.apB {x y:Operand} {t e sz j jb f:Nat} {α:Type} {l:List α} {v:Value} {xs cs:LV} (z:α) (hT:Ap t e sz) (E:En T P A c L w0 wi w s V Φ) (D:V[j]? =some (ow wi.heap.size e sz v l.length xs)) (hb:V[jb]? =some (bk f e cs)) (ho:o.op= .call { callee:= .builtin .append,args:=#[x,y],argTypes:=#[t,t] })
  (hx:a.eval x=v) (hy:a.eval y= .slice (some ⟨f,0,none⟩) 1 1) (B:cs.length=sz) (U:∀u∈cs,u.oneCell'=true) (hn:l.length≤1000000000)
  (k:∀p h c' w',Hid (p=l++ [z])→En T P A c L w0 wi w' s (V.set j (ow wi.heap.size e sz (.slice h p.length c') p.length (xs++cs))) Φ→K (a.put o.dst (.slice h p.length c')) w'):Oper.wp prog o a w K Q:=by
 obtain⟨C,z',b,hi,hz,hs,r⟩:=hT
 obtain⟨i,hi,O,X,Y⟩:=tr hi
 have Z:=E.get hb
 have hr:Reads w (f+1) sz (some ⟨f,0,none⟩) 1 cs:=⟨by simp[B],fun _=>⟨_,rfl,Nat.lt_succ_self _,fun j u C=>by
  have g:(⟨f,0,none⟩:Addr).add j=⟨f,0+j,none⟩:=by unfold Addr.add;split<;>simp_all
  rw[g,Nat.zero_add]
  exact Z.cell_some C⟩⟩
 refine dY w x y t ho wi.heap.size e i z' sz b C hi O X Y hz hs.1 v l.length xs hx (E.own D) _ _ 1 1 cs hy hr U (by unfold maxLen;omega) (Nat.le_trans (Nat.mul_le_mul_left _ r) (by omega)) E.size fun v' w' H I J=>?_
 obtain⟨G,h,c',rfl⟩:=E.ap0 (m:=0) (t:=0) D (Ext.refl w) H I J
 have e:(l++ [z]).length=l.length+1:=by simp
 have:=k (l++ [z]) h c' w' rfl
 rw[e]at this
 exact this G
theorem En.apA {x y:Operand} {t e sz j:Nat} {α:Type} {l:List α} {v:Value} {xs cs:LV} (z:α) (m:Ap t e sz) (E:En T P A c L w0 wi w s V Φ) (r:V[j]? =some (ow wi.heap.size e sz v l.length xs)) (p:W=w.alloc (.cells cs.toArray e)) (D:o.op= .call { callee:= .builtin .append,args:=#[x,y],argTypes:=#[t,t] })
  (G:a.eval x=v) (H:a.eval y= .slice (some ⟨w.heap.size,0,none⟩) 1 1) (g:cs.length=sz) (i:∀u∈cs,u.oneCell'=true) (C:l.length≤1000000000)
  (k:∀b f c' w',Hid (b=l++ [z])→En T P A c L w0 wi w' s (V.set j (ow wi.heap.size e sz (.slice f b.length c') b.length (xs++cs))) Φ→K (a.put o.dst (.slice f b.length c')) w'):Oper.wp prog o a W K Q:=
 p ▸ (E.alloc e cs).apB z m (j:=j+1) (jb:=0) r rfl D G H g i C fun b f c' w' B h=>k b f c' w' B h.pop
theorem En.ap {x y:Operand} {t e sz j:Nat} {α:Type} {l:List α} {v:Value} {xs cs:LV} (z:α) (r:Ap t e sz) (E:En T P A c L w0 wi w s V Φ) (C:V[j]? =some (ow wi.heap.size e sz v l.length xs)) (B:W=w.alloc (.cells cs.toArray e)) (h:o.guard=none) (H:o.op= .call { callee:= .builtin .append,args:=#[x,y],argTypes:=#[t,t] })
  (I:a.eval x=v) (J:a.eval y= .slice (some ⟨w.heap.size,0,none⟩) 1 1) (g:cs.length=sz) (m:∀u∈cs,u.oneCell'=true) (G:l.length≤1000000000)
  (k:∀b f c' w',Hid (b=l++ [z])→En T P A c L w0 wi w' s (V.set j (ow wi.heap.size e sz (.slice f b.length c') b.length (xs++cs))) Φ→wpList prog ops Q rest (a.put o.dst (.slice f b.length c')) w'):wpList prog ops Q (o::rest) a W:=
 wpList_plain h fun _ p=>E.apA z r C B H I J g m G fun b f c' w' D i=>p _ _ (k b f c' w' D i)
theorem En.aps {x y:Operand} {t e sz j:Nat} {α:Type} {l:List α} {v:Value} {xs cs:LV} (z:α) (m:Ap t e sz) (E:En T P A c L w0 wi w s V Φ) (r:V[j]? =some (ow wi.heap.size e sz v l.length xs)) (p:W=w.alloc (.cells cs.toArray e)) (g:o.guard=none) (C:o.op= .call { callee:= .builtin .append,args:=#[x,y],argTypes:=#[t,t] })
  (D:a.eval x=v) (G:a.eval y= .slice (some ⟨w.heap.size,0,none⟩) 1 1) (f:cs.length=sz) (i:∀u∈cs,u.oneCell'=true) (B:l.length≤1000000000)
  (k:∀b h c' w',Hid (b=l++ [z])→En T P A c L w0 wi w' s (V.set j (ow wi.heap.size e sz (.slice h b.length c') b.length (xs++cs))) Φ→K (a.put o.dst (.slice h b.length c')) w'):if Region.wanted o (yielded ops a.tmps)=true then Oper.wp prog o a W K Q else R:=by
 rw[if_pos (by simp[Region.wanted,g])]
 exact E.apA z m r p C D G f i B k
theorem En.apBs {x y:Operand} {t e sz j jb i:Nat} {α:Type} {l:List α} {v:Value} {xs cs:LV} (z:α) (p:Ap t e sz) (E:En T P A c L w0 wi w s V Φ) (B:V[j]? =some (ow wi.heap.size e sz v l.length xs)) (r:V[jb]? =some (bk i e cs)) (g:o.guard=none) (D:o.op= .call { callee:= .builtin .append,args:=#[x,y],argTypes:=#[t,t] })
  (G:a.eval x=v) (H:a.eval y= .slice (some ⟨i,0,none⟩) 1 1) (f:cs.length=sz) (m:∀u∈cs,u.oneCell'=true) (C:l.length≤1000000000)
  (k:∀b h c' w',Hid (b=l++ [z])→En T P A c L w0 wi w' s (V.set j (ow wi.heap.size e sz (.slice h b.length c') b.length (xs++cs))) Φ→K (a.put o.dst (.slice h b.length c')) w'):if Region.wanted o (yielded ops a.tmps)=true then Oper.wp prog o a w K Q else R:=by
 rw[if_pos (by simp[Region.wanted,g])]
 exact E.apB z p B r D G H f m C k
theorem En.rdg {α:Type} {Ph:α→LV→World→Prop} {sz F:Nat} {z:α} {x:Array Value} {s':Ps} {Q:Ending→World→Prop} (E:En T P A c L w0 wi w s V Φ) (m:Cl F x w (Ran T P A c L w0 w s' fun v w'=>ElG Ph sz w.heap.size w' z v))
  (k:∀v cs w',v.cells=cs.toArray→cs.length=sz→(∀u∈cs,u.oneCell'=true)→En T P A c L w0 wi w' s' V (fun u=>Φ u∧Ph z cs u)→Q (.returned v) w'):Cl F x w Q:=
 m.mono fun e w' ⟨v,h,f,g,cs,i,b,j⟩=>by rw[h];exact k v cs w' i b.1 b.2 (E.calls f g j)
theorem En.row1 {e sz:Nat} {cs:LV} (E:En T P A c L w0 wi w s V Φ) (b:cs.length=sz):En T P A c L w0 wi (w.alloc (.cells cs.toArray e)) s (ow wi.heap.size e sz (.slice (some ⟨w.heap.size,0,none⟩) 1 1) 1 cs::V) Φ:=by
 have h:(w.alloc (.cells cs.toArray e)).ownsRow wi.heap.size e sz (.slice (some ⟨w.heap.size,0,none⟩) 1 1) 1 cs:=
  ⟨by omega,.inr ⟨w.heap.size,1,cs.toArray,rfl,E.size,heap_alloc_new w _,Nat.le_refl _,by unfold maxLen;omega,by simp[b],by simpa using take_of_length_le (Nat.le_of_eq b)⟩⟩
 exact E.add (x10 w _) _ (kL h) fun q e=>by cases e;exact⟨Nat.le_refl _,(h.lt _ rfl).2⟩
end
end
section
open Lx (Tk)
theorem tw (a b:BA):(a==b)=decide (a=b):=by
 cases a with|mk a=>cases b with|mk b=>
 show(a==b)=_
 rw[Bool.eq_iff_iff]
 simp
def StrMap (w:World) (P:Program) (k e:TypeId) (M n:Nat) (l:List BA):Prop:=
 ∃D:DataW Unit,w.ownsMap P k (plainElem P e) M n D∧Maps.IsMap D∧∀s:BA,D.atKey (.string s.data.toList) (.lit (.bool false))= .lit (.bool (l.contains s))
section
variable {P:Program} {w w':World} {k e M n:Nat} {l:List BA}
theorem StrMap.made (w:World) (P:Program) (k e:TypeId):StrMap (w.alloc (.map #[] 0)) P k e w.heap.size 0 []:=
 ⟨_,World.ownsMap_made w P k _,Maps.isMap_empty,fun s=>rfl⟩
theorem StrMap.lt (h:StrMap w P k e M n l):M<w.heap.size:=by
 obtain⟨D,h,_⟩:=h
 exact h.lt
theorem StrMap.mono (h:StrMap w P k e M n l) {m:Nat} (f:n≤m):StrMap w P k e M m l:=by
 obtain⟨D,h,b⟩:=h
 exact⟨D,h.mono f,b⟩
theorem StrMap.kept (h:StrMap w P k e M n l) {row:Option Nat} (g:w.grownBy w' row) (b:some M≠row):StrMap w' P k e M n l:=by
 obtain⟨D,h,f⟩:=h
 exact⟨D,h.kept g b,f⟩
theorem StrMap.ext (h:StrMap w P k e M n l) (b:Ext w w'):StrMap w' P k e M n l:=h.kept (row:=none) (ext_grown b none) (by simp)
theorem StrMap.look (h:StrMap w P k e M n l) {t:TypeId} (i:P.underlying k=some .string) (m:P.underlying t=some (.map k e)) (g:P.underlying e=some .bool) (p:(zeroValue e).run P w= .ok (.bool false) w)
  (s:BA) (hs:s.size≤maxLen):(Instr.lookup t (.map (some M)) (.string s) false).run P w= .ok (.bool (l.contains s)) w:=by
 obtain⟨D,h,r,j⟩:=h
 obtain⟨v,ps,b,f⟩:=h.lookup (Maps.string_keyed i) m p (plainElem_bool g false) (WideMaps.keyOf_string_mk i hs)
 rw[j s]at f
 have:v= .bool (l.contains s):=by
  unfold plainElem at f
  rw[g]at f
  cases v<;>simp at f
  rw[f.1]
 rw[b,this]
theorem StrMap.add (h:StrMap w P k e M n l) {t:TypeId} (j:P.underlying k=some .string) (y:P.underlying t=some (.map k e)) (b:P.underlying e=some .bool) (u:n<maxLen)
  (s:BA) (hs:s.size≤maxLen):∃w',(Instr.mapUpdate t (.map (some M)) (.string s) (.bool true)).run P w= .ok () w'∧StrMap w' P k e M (n+1) (l++ [s])∧w.grownBy w' (some M):=by
 obtain⟨D,h,i,p⟩:=h
 obtain⟨w',f,m,r⟩:=h.update (Maps.string_keyed j) y u (WideMaps.keyOf_string_mk j hs) (plainElem_bool b true)
 refine⟨w',f,⟨_,m,i.put _ _,fun x=>?_⟩,r⟩
 by_cases g:x=s
 ·subst g
  rw[Maps.atKey_put_same i (by simp[WideAt.IsKeyLit])]
  simp[tw]
 ·rw[Maps.atKey_put_other (by
   intro b
   apply g
   injection b with b
   cases x;cases s
   simp at b
   simp[b]),p]
  simp[g,tw]
theorem vb {o:Oper} {ops:Array Oper} {rest:List Oper} {a:Act} {Q:Exit→Act→World→Prop} (p:o.guard=none) (m x v:Operand) (t:TypeId) (g:o.op=Op.mapUpdate t m x v)
  (r:P.underlying k=some .string) (z:P.underlying t=some (.map k e)) (j:P.underlying e=some .bool)
  (u:a.eval m= .map (some M)) (h:StrMap w P k e M n l) (y:n<maxLen) (s:BA) (hs:s.size≤maxLen) (C:a.eval x= .string s) (B:a.eval v= .bool true)
  (i:∀w',StrMap w' P k e M (n+1) (l++ [s])→w.grownBy w' (some M)→wpList P ops Q rest (a.put o.dst undef) w'):
  wpList P ops Q (o::rest) a w:=by
 refine wpList_plain p fun G f=>?_
 obtain⟨w',b,D,E⟩:=h.add r z j y s hs
 unfold Oper.wp
 simp[execOp,g,u,C,B,b,Result.andThen]
 exact f _ _ (i w' D E)
end
theorem stb_map {w:World} {P:Program} {k e M n:Nat} {l:List BA} (h:StrMap w P k e M n l):Stb (fun q=>some M=some q) w (fun u=>StrMap u P k e M n l):=fun r _ i=>by
 have p:=h.lt
 obtain⟨D,⟨f,b,g,j⟩,m⟩:=h
 exact⟨D,⟨f,b,(i M p rfl).trans g,j⟩,m⟩
theorem ca {w:World} {B e sz n:Nat} {v:Value} {xs:LV} (h:w.ownsRow B e sz v n xs):∃A c,v= .slice A n c:=by
 rcases h.2 with ⟨rfl,rfl⟩|⟨g,cap,cur,rfl,_⟩
 ·exact⟨_,_,rfl⟩
 ·exact⟨_,_,rfl⟩
theorem nQ {w:World} {B e sz n c:Nat} {A:OA} {xs:LV} (h:w.ownsRow B e sz (.slice A n c) n xs) (b:0<n):∃g,A=some ⟨g,0,none⟩:=by
 rcases h.2 with ⟨_,h0⟩|⟨g,_,_,hv,_⟩
 ·omega
 ·exact⟨g,by injection hv⟩
theorem snoc_lt {α:Type} {l b:List α} {z:α} (h:Hid (b=l++ [z])):(l.length:Int)<(b.length:Int):=by
 have:=congrArg List.length h
 rw[length_append,length_singleton]at this
 omega
def mp (M:Nat) (l:List BA):Vb:=(some M,fun w=>StrMap w prog 9 4 M l.length l)
def nR (a:Cd) (cs:LV) (w:World):Prop:=cs= [.string a.nm,i4 a.ty,i4 a.lo,i4 a.hi,i4 a.mx,.bool a.nn]∧a.nm.size≤9223372036854775807∧I64 a.ty∧I64 a.lo∧I64 a.hi∧I64 a.mx
def qd (a:List BA) (cs:LV) (w:World):Prop:=∃B k,cs= [.slice B a.length k]∧(a.length≤20001∧a.length≤k)∧bi w B a
def qe (a:Rf) (cs:LV) (w:World):Prop:=∃B k B2 k2,cs= [.slice B a.cs.length k,.string a.tb,.slice B2 a.tg.length k2]∧a.tb.size≤9223372036854775807∧(a.cs.length≤20001∧a.cs.length≤k)∧(a.tg.length≤20001∧a.tg.length≤k2)∧bi w B a.cs∧bi w B2 a.tg
section
variable {T P c:Nat} {A:OA} {L:List Tk} {w0 wi w:World} {s:Ps} {V:List Vb} {Φ:World→Prop} {ops:Array Oper} {rest:List Oper} {o:Oper} {a:Act} {Q:Exit→Act→World→Prop}
theorem En.map (E:En T P A c L w0 wi w s V Φ):En T P A c L w0 wi (w.alloc (.map #[] 0)) s (mp w.heap.size []::V) Φ:=
 E.add (x10 w _) _ (stb_map (StrMap.made w prog _ _)) fun q e=>by cases e;exact⟨Nat.le_refl _,by simp⟩
theorem En.look {j M:Nat} {l:List BA} (E:En T P A c L w0 wi w s V Φ) (b:V[j]? =some (mp M l)):StrMap w prog 9 4 M l.length l:=(E.blk _ (mem_of_getElem? b)).now
theorem En.mput {j M t:Nat} {l:List BA} {m x v:Operand} (E:En T P A c L w0 wi w s V Φ) (i:V[j]? =some (mp M l)) (f:o.guard=none) (g:o.op=Op.mapUpdate t m x v) (r:prog.underlying t=some (.map 9 4)) (p:a.eval m= .map (some M)) (z:l.length<2000000000) (b:BA) (hs:b.size≤9223372036854775807) (y:a.eval x= .string b) (u:a.eval v= .bool true)
  (k:∀w',En T P A c L w0 wi w' s (V.set j (mp M (l++ [b]))) Φ→wpList prog ops Q rest (a.put o.dst undef) w'):wpList prog ops Q (o::rest) a w:=
 vb f m x v t g underlying9 r underlying4 p (E.look i) (by unfold maxLen;omega) b (by unfold maxLen;omega) y u fun w' h f=>k w' (E.put i f (mp M (l++ [b])) (stb_map (by rw[length_append];exact h)) fun q e=> .inl e)
theorem En.setr {j n0 t sz n f g:Nat} {xs:LV} (E:En T P A c L w0 wi w s V Φ) (b:V[j]? =some (ow n0 t sz (.slice (some ⟨g,0,none⟩) n f) n xs)) (i:Nat) (u:Value):En T P A c L w0 wi (w.setCell ⟨g,i,none⟩ u) s (V.set j (ow n0 t sz (.slice (some ⟨g,0,none⟩) n f) n (xs.set i u))) Φ:=
 E.put b ((E.own b).stored i u).2 _ (kL ((E.own b).stored i u).1) fun q e=> .inl e
theorem En.at_ {w':World} (E:En T P A c L w0 wi w s V Φ) (e:w'=w):En T P A c L w0 wi w' s V Φ:=e ▸ E
theorem En.ne {i j g h:Nat} {x y:Vb} (E:En T P A c L w0 wi w s V Φ) (hi:V[i]? =some x) (b:V[j]? =some y) (f:i≠j) (p:x.1=some g) (r:y.1=some h):g≠h:=fun e=>by
 obtain⟨t,hi⟩:=List.getElem?_eq_some_iff.1 hi
 obtain⟨u,b⟩:=List.getElem?_eq_some_iff.1 b
 have m:=List.pairwise_iff_getElem.1 E.nod
 rcases Nat.lt_or_gt_of_ne f with hlt|hlt
 ·exact m i j t u hlt g (by rw[hi];exact p) (by rw[b,e];exact r)
 ·exact m j i u t hlt g (by rw[b,e];exact r) (by rw[hi];exact p)
theorem En.setrs {n0 t sz n b g j:Nat} :∀(ds:LV) (i:Nat) {w:World} {V:List Vb} {xs:LV},En T P A c L w0 wi w s V Φ→V[j]? =some (ow n0 t sz (.slice (some ⟨g,0,none⟩) n b) n xs)→En T P A c L w0 wi (sts w g i ds) s (V.set j (ow n0 t sz (.slice (some ⟨g,0,none⟩) n b) n (updL xs i ds))) Φ
 | [],i,w,V,xs,E,hj=>by
  rw[updL,sts,show V.set j (ow n0 t sz (.slice (some ⟨g,0,none⟩) n b) n xs)=V by
   obtain⟨h,e⟩:=List.getElem?_eq_some_iff.1 hj
   rw[←e,set_getElem_self]]
  exact E
 |d::ds,i,w,V,xs,E,hj=>by
  have h:=En.setrs ds (i+1) (E.setr hj i d) (getElem?_set_self (List.getElem?_eq_some_iff.1 hj).1)
  rw[set_set]at h
  rw[updL,sts]
  exact h
theorem En.last {n0 t sz n b g j m:Nat} {xs i ds:LV} (E:En T P A c L w0 wi w s V Φ) (p:V[j]? =some (ow n0 t sz (.slice (some ⟨g,0,none⟩) n b) n (xs++i))) (f:xs.length=m) (hd:i.length=ds.length):En T P A c L w0 wi (sts w g m ds) s (V.set j (ow n0 t sz (.slice (some ⟨g,0,none⟩) n b) n (xs++ds))) Φ:=by
 have h:=E.setrs ds m p
 rw[tq ds m _ (by rw[length_append];omega),←f,take_left' rfl,drop_eq_nil_of_le (by rw[length_append];omega),append_nil]at h
 rw[←f]
 exact h
theorem En.last8 {n0 t n z g j m k f D:Nat} {xs cs:LV} (E:En T P A c L w0 wi w s V Φ) (y:V[j]? =some (ow n0 t 8 (.slice (some ⟨g,0,none⟩) n z) n (xs++zE))) (C:xs.length=m) (B:V[k]? =some (bk f D cs)) (r:j≠k):
  (w.cell? ⟨g,m,none⟩=some (i4 0)∧w.cell? ⟨g,m+1,none⟩=some (.string ⟨#[]⟩)∧w.cell? ⟨g,m+2,none⟩=some (.string ⟨#[]⟩)∧w.cell? ⟨g,m+3,none⟩=some (i4 0)∧w.cell? ⟨g,m+4,none⟩=some (i4 0)∧w.cell? ⟨g,m+5,none⟩=some (i4 0)∧w.cell? ⟨g,m+6,none⟩=some (.string ⟨#[]⟩)∧w.cell? ⟨g,m+7,none⟩=some (.slice none 0 0))∧
  (w.frozen? ⟨g,m,none⟩=false∧w.frozen? ⟨g,m+1,none⟩=false∧w.frozen? ⟨g,m+2,none⟩=false∧w.frozen? ⟨g,m+3,none⟩=false∧w.frozen? ⟨g,m+4,none⟩=false∧w.frozen? ⟨g,m+5,none⟩=false∧w.frozen? ⟨g,m+6,none⟩=false∧w.frozen? ⟨g,m+7,none⟩=false)∧g≠f∧f≠g:=by
 have b:=E.own y
 have p:=b.1
 rw[length_append,C]at p
 have p:m+8=n*8:=p
 have h:∀i,i<8→w.cell? ⟨g,m+i,none⟩=zE[i]? :=fun i hi=>by
  rw[b.cellAt _ (by omega),getElem?_append_right (by omega),show m+i-xs.length=i by omega]
 have u:=E.ne y B r rfl rfl
 exact⟨⟨h 0 (by omega),h 1 (by omega),h 2 (by omega),h 3 (by omega),h 4 (by omega),h 5 (by omega),h 6 (by omega),h 7 (by omega)⟩,⟨b.frozenAt _,b.frozenAt _,b.frozenAt _,b.frozenAt _,b.frozenAt _,b.frozenAt _,b.frozenAt _,b.frozenAt _⟩,u,u.symm⟩
end
end
section
open Lx (Tk)
theorem En.row0 {T P c:Nat} {A:OA} {L:List Tk} {w0 wi w:World} {s:Ps} {V:List Vb} {Φ:World→Prop} (α:Type) (E:En T P A c L w0 wi w s V Φ) (n0 t sz:Nat):En T P A c L w0 wi w s (ow n0 t sz (.slice none 0 0) ([]:List α).length []::V) Φ:=E.nil n0 t sz
theorem En.all2 {T P c:Nat} {A:OA} {L:List Tk} {w0 wi w:World} {s:Ps} {V:List Vb} {Φ:World→Prop} (E:En T P A c L w0 wi w s V Φ):Stb (wi.heap.size≤·) w (fun u=>Φ u∧∀(j:Nat) (x:Vb),V[j]? =some x→x.2 u):=E.all.imp fun u h=>⟨h.1,fun j x b=>h.2 x (mem_of_getElem? b)⟩
theorem En.lr {T P c:Nat} {A:OA} {L:List Tk} {w0 wi w:World} {s:Ps} {V:List Vb} {Φ:World→Prop} {ops:Array Oper} {rest:List Oper} {o:Oper} {a:Act} {Q:Exit→Act→World→Prop} {j n0 e sz n m g i ty:Nat} {xs:LV} (ds:LV) {x:Operand} (E:En T P A c L w0 wi w s V Φ) (f:V[j]? =some (ow n0 e sz (.slice (some ⟨g,0,none⟩) n m) n xs)) (b:o.guard=none) (t:o.op= .load ty x) (C:a.eval x= .pointer (some ⟨g,i,none⟩)) (p:∀k u,ds[k]? =some u→xs[i+k]? =some u) (y:((prog.underlying ty).map (·.isRow),(prog.info? ty).map (·.size))=(some true,some ds.length))
  (k:wpList prog ops Q rest (a.put o.dst (.agg ds.toArray)) w):wpList prog ops Q (o::rest) a w:=by
 obtain⟨d,z,hd,hi⟩:=mv y
 refine wpList_load_mid b ty x t g i C ds d (fun k v B=>?_) z hd hi k
 have h:=p k v B
 have r:=(List.getElem?_eq_some_iff.1 h).1
 rw[(E.own f).cellAt _ (by rw[←(E.own f).1];exact r)]
 exact h
theorem Els.lst' {α:Type} {Ph:α→LV→World→Prop} {n0 T sz c:Nat} {w:World} {A:OA} {l:List α} {xs:LV} (h:Els Ph sz l xs w) (b:w.ownsRow n0 T sz (.slice A l.length c) l.length xs):Lst Ph sz w A l:=by
 obtain⟨B,k,f,_,h⟩:=h.lst b
 injection f with e
 rw[e]
 exact h
end
end Go.Proofs.YtjigcpfjhfoheaaGreatDoor
