/- Steps of a walk over the program's parser, each with what follows it; Walks: unary, product, sum, and, expr, not; Walk: primary. -/
import Derived.Test.YtjigcpfjhfoheaaGreatDoorYbg
import Derived.Great.Walk
import Derived.Test.YtjigcpfjhfoheaaGreatDoorYbh
namespace Go.Proofs.YtjigcpfjhfoheaaGreatDoor
open Go.RowKit
set_option maxHeartbeats 4000000
set_option maxRecDepth 100000
set_option linter.unusedVariables false
set_option linter.unusedSimpArgs false
section
open Lx (Tk)
def Rdr (T P:Nat) (A:Option Addr) (c:Nat) (L:List Tk) (w0:World) (n:Nat) (F:FuncId) (m:M Ex):Prop:=∀(W:World) (st:Ps),PsAt T P A c L w0 W st→st.r.length<n→
 Calls Tryz.prog F #[.pointer (some ⟨P,0,none⟩)] W (Ran T P A c L w0 W (m st).2 fun v W'=>ExG W.heap.size W' (m st).1 v)
abbrev zE:List Value:=eZ
section
variable {T P c:Nat} {A:Option Addr} {L:List Tk} {w0 wi w:World} {s s':Ps} {V:List Vb} {Φ Ψ:World→Prop} {F:Nat} {x:Array Value} {R:Ending} {Q:Ending→World→Prop}
theorem En.to (E:En T P A c L w0 wi w s V Φ) (g:Calls Tryz.prog F x w fun e w'=>e=R∧PsAt T P A c L w0 w' s'∧Chg P w w') (k:∀w',En T P A c L w0 wi w' s' V Φ→Q R w'):Calls Tryz.prog F x w Q:=
 g.mono fun e w' ⟨h,f,b⟩=>by rw[h];exact k w' (E.call f b)
theorem En.run {Y:Value→World→Prop} (E:En T P A c L w0 wi w s V Φ) (i:Calls Tryz.prog F x w (Ran T P A c L w0 w s' Y)) (k:∀v w',Y v w'→En T P A c L w0 wi w' s' V Φ→Q (.returned v) w'):Calls Tryz.prog F x w Q:=
 i.mono fun e w' ⟨v,h,f,b,g⟩=>by rw[h];exact k v w' g (E.call f b)
theorem En.rdx {y:Ex} (E:En T P A c L w0 wi w s V Φ) (m:Calls Tryz.prog F x w (Ran T P A c L w0 w s' fun v w'=>ExG w.heap.size w' y v)) (k:∀B k b w',En T P A c L w0 wi w' s' V (fun u=>Φ u∧ExV u y B k b)→Q (.returned (.agg (y.d.cells B k b).toArray)) w'):Calls Tryz.prog F x w Q:=
 m.mono fun e w' ⟨v,h,i,g,B,f,b,l,j⟩=>by rw[h,l];exact k B f b w' (E.calls i g j)
theorem En.rd {n:Nat} {m:M Ex} (f:Rdr T P A c L w0 n F m) (E:En T P A c L w0 wi w s V Φ) (g:s.r.length<n) (k:∀(y:Ex) (s':Ps) B k b w',m s=(y,s')→En T P A c L w0 wi w' s' V (fun u=>Φ u∧ExV u y B k b)→Q (.returned (.agg (y.d.cells B k b).toArray)) w'):Calls Tryz.prog F #[.pointer (some ⟨P,0,none⟩)] w Q:=
 E.rdx (f w s E.ps g) fun B e b w' E=>k _ _ B e b w' rfl E
theorem En.o1 {x:Array Value} {W:World} {y:Ex} {B:Option Addr} {n f:Nat} {o:Int} (E:En T P A c L w0 wi w s V Φ) (b:x= #[.int .i64 o,.slice (some ⟨w.heap.size,0,none⟩) 1 1]) (i:W=w.alloc (.cells (y.d.cells B n f).toArray 37)) (h:∀u,Φ u→ExV u y B n f) (g:I64 o) (k:∀D w',En T P A c L w0 wi w' s V (fun u=>Φ u∧ExV u (opE o [y]) D 1 1)→Q (.returned (.agg ((opE o [y]).d.cells D 1 1).toArray)) w'):
  Calls Tryz.prog 105 x W Q:=
 b ▸ i ▸ (cR o _ 1 1 _).mono fun e w' ⟨j,b⟩=>by rw[j];exact k _ w' (E.op1' h g b)
end
section
variable {P c:Nat} {A:Option Addr} {L:List Tk} {w0 wi w:World} {s:Ps} {V:List Vb} {Φ:World→Prop} {Q:Ending→World→Prop}
theorem En.tk {x:Array Value} (E:En 68 P A c L w0 wi w s V Φ) (e:TkL L) (t:ByteArray) (i:x= #[.pointer (some ⟨P,0,none⟩),.string t]) (g:isS t s=true→∀w',En 68 P A c L w0 wi w' s.next V Φ→Q (.returned (.bool true)) w') (f:isS t s=false→∀w',En 68 P A c L w0 wi w' s V Φ→Q (.returned (.bool false)) w'):
  Calls Tryz.prog 53 x w Q:=
 i ▸ E.run (ai E.ps e t) fun v w' h E=>by
  subst h
  cases b:isS t s
  ·exact f b w' (by rw[aq,b]at E;exact E)
  ·exact g b w' (by rw[aq,b]at E;exact E)
theorem En.nd {x:Array Value} {W:World} (E:En 68 P A c L w0 wi w s V Φ) (b:TkL L) (t:ByteArray) (g:W=w.alloc (.cells #[.string t] 9)) (j:x= #[.pointer (some ⟨P,0,none⟩),.slice (some ⟨w.heap.size,0,none⟩) 1 1]) (k:∀v w',En 68 P A c L w0 wi w' (needP t s) V Φ→Q (.returned v) w'):
  Calls Tryz.prog 44 x W Q:=
 j ▸ g ▸ (az (E.ps.ext ((Ext.refl w).alloc _)) b t w.heap.size (by simp[World.cell?_alloc_new])).mono fun e w' ⟨v,h,f,i,_⟩=>by rw[h];exact k v w' (E.call f ((Chg.of ((Ext.refl w).alloc _)).trans i))
theorem En.hs {x:Array Value} (E:En 68 P A c L w0 wi w s V Φ) (g:TkL L) (j:Nat) (b:x= #[.pointer (some ⟨P,0,none⟩),.int .i64 j]) (k:hasK j s=true→∀w',En 68 P A c L w0 wi w' s V Φ→Q (.returned (.bool true)) w') (i:hasK j s=false→∀w',En 68 P A c L w0 wi w' s V Φ→Q (.returned (.bool false)) w'):
  Calls Tryz.prog 43 x w Q:=
 b ▸ (gB E.ps g j).mono fun e w' ⟨h,b⟩=>by
  rw[h]
  cases f:hasK j s
  ·exact i f w' (E.ext b)
  ·exact k f w' (E.ext b)
end
section
variable {T P c:Nat} {A:Option Addr} {L:List Tk} {w0 wi w:World} {s:Ps} {V:List Vb} {Φ:World→Prop} {Q:Ending→World→Prop}
theorem En.lit {j i:Int} {t:ByteArray} (E:En T P A c L w0 wi w s V Φ) (f:I64 j) (hi:I64 i) (l:t.size≤9223372036854775807) (k:∀w',En T P A c L w0 wi w' s V (fun u=>Φ u∧ExV u (ei j i t) none 0 0)→Q (.returned (.agg ((ei j i t).d.cells none 0 0).toArray)) w'):
  Calls Tryz.prog 260 #[.agg #[.int .i64 j,.int .i64 i,.string t]] w Q:=
 (lit_val j i t w).mono fun e w' ⟨h,g⟩=>by rw[h];exact k w' ((E.ext g).imp fun u b=>⟨b,exv_lit f hi l⟩)
end
section
variable {T P c:Nat} {A:Option Addr} {L:List Tk} {w0 wi w w':World} {s:Ps} {V:List Vb} {Φ:World→Prop}
theorem Rdr.at_ {n F:Nat} {m:M Ex} (h:Rdr T P A c L w0 n F m) (f:PsAt T P A c L w0 w s) (p:s.r.length<n):∃(y:Ex) (s':Ps),m s=(y,s')∧Calls Tryz.prog F #[.pointer (some ⟨P,0,none⟩)] w fun e w'=> ∃B k b,e= .returned (.agg #[.int .i64 y.d.op,.string y.d.tb,.string y.d.nm,.int .i64 y.d.ix,.int .i64 y.d.vk,.int .i64 y.d.vi,.string y.d.vt,.slice B k b])∧PsAt T P A c L w0 w' s'∧Chg P w w'∧Stb (w.heap.size≤·) w' (fun u=>ExV u y B k b):=
 ⟨_,_,rfl,(h w s f p).mono fun e w' ⟨v,i,g,l,B,k,b,q,j⟩=>⟨B,k,b,by rw[i,q];rfl,g,l,j⟩⟩
end
section
variable {T P c:Nat} {A:Option Addr} {L:List Tk} {w0 wi w:World} {s:Ps} {V:List Vb} {Φ:World→Prop} {ops:Array Oper} {rest:List Oper} {o:Oper} {a:Act} {Q:Exit→Act→World→Prop}
theorem En.al {t:Nat} {cs:List Value} (E:En T P A c L w0 wi w s V Φ) (e:o.guard=none) (d:Option Tmp) (hd:o.dst=d) (f:o.op= .alloc t) (b:(execOp a.eval o).run Tryz.prog w= .ok (.value (.pointer (some ⟨w.heap.size,0,none⟩))) (w.alloc (.cells cs.toArray t)))
  (k:∀g w',En T P A c L w0 wi w' s ((g,t,cs)::V) Φ→wpList Tryz.prog ops Q rest (a.put d (.pointer (some ⟨g,0,none⟩))) w'):wpList Tryz.prog ops Q (o::rest) a w:=
 Great.wpList_allocTo e d hd _ _ b (k _ _ (E.alloc t cs))
theorem En.sv {j g:Nat} {cs ds:List Value} {x y:Operand} (E:En T P A c L w0 wi w s V Φ) (e:V[j]? =some (g,37,cs)) (b:o.guard=none) (h:o.op= .store 37 x y) (hd:o.dst=none) (n:a.eval x= .pointer (some ⟨g,0,none⟩)) (f:a.eval y= .agg ds.toArray) (i:cs.length=8) (l:ds.length=8) (m:ds.toArray.all (·.oneCell')=true)
  (k:∀w',En T P A c L w0 wi w' s (V.set j (g,37,ds)) Φ→wpList Tryz.prog ops Q rest a w'):wpList Tryz.prog ops Q (o::rest) a w:=
 stE b h hd g ds n f (E.get e) i l m (k _ (E.row e ds))
theorem infoE:(Tryz.prog.info? 37).map (fun i=> (i.zero,i.size,i.bytes))=some (some (.agg zE.toArray),8,104):=by kernel_rfl
theorem bs1 {x:Operand} (b:o.guard=none) (j:o.op= .buildSlice 27 1 #[(0,x)]) (y:Nd) (B:Option Addr) (n g:Nat) (l:a.eval x= .agg (y.cells B n g).toArray)
  (h:wpList Tryz.prog ops Q rest (a.put o.dst (.slice (some ⟨w.heap.size,0,none⟩) 1 1)) (w.alloc (.cells (y.cells B n g).toArray 37))):wpList Tryz.prog ops Q (o::rest) a w:=by
 obtain⟨m,f,k,e,p⟩:∃i,Tryz.prog.info? 37=some i∧i.zero=some (.agg zE.toArray)∧i.size=8∧i.bytes=104:=by
  have h:=infoE
  cases hi:Tryz.prog.info? 37 with
  |none=>rw[hi]at h;cases h
  |some i=>
   rw[hi]at h
   simp only[Option.map_some,Option.some.injEq,Prod.mk.injEq]at h
   exact⟨i,rfl,h.1,h.2.1,h.2.2⟩
 refine wpList_buildSlice b _ 37 1 _ j _ m _ rfl f k (by rw[e];decide) (by rw[e];decide) ?_ h
 rw[e]
 simp only[List.map_toArray,List.map_cons,List.map_nil,l]
 kernel_rfl
end
section
variable {T P c:Nat} {A:Option Addr} {L:List Tk} {w0 wi w:World} {s:Ps} {V:List Vb} {Φ:World→Prop} {a:Act}
theorem En.done {X:Ex×Ps} {e:Func} {p j g:Nat} {B:Option Addr} {n b:Nat} {y:Ex} (i:X=(y,s)) (E:En T P A c L w0 wi w s V Φ) (l:V[j]? =some (g,37,y.d.cells B n b)) (k:e.results= #[.cell p 37]) (f:a.tmps.getD p undef= .pointer (some ⟨g,0,none⟩)) (hd:a.defers= []) (h:∀u,Φ u→ExV u y B n b):
  bodyPost Tryz.prog e (Ran T P A c L w0 wi X.2 fun v w'=>ExG wi.heap.size w' X.1 v) .ret a w:=by
 subst i
 exact bodyPost_ret (v:= .agg (y.d.cells B n b).toArray) (results_cell_row k _ _ g 37 _ _ _ f (E.get l) Tryz.underlying37 rfl (by kernel_rfl)) hd ⟨_,rfl,E.ps,E.chg,B,n,b,rfl,E.keep.imp h⟩
theorem En.fin {e:Func} {p j g:Nat} {B:Option Addr} {n b:Nat} {y:Ex} (E:En T P A c L w0 wi w s V Φ) (k:V[j]? =some (g,37,y.d.cells B n b)) (i:e.results= #[.cell p 37]) (f:a.tmps.getD p undef= .pointer (some ⟨g,0,none⟩)) (hd:a.defers= []) (h:∀u,Φ u→ExV u y B n b):
  bodyPost Tryz.prog e (Ran T P A c L w0 wi s fun v w'=>ExG wi.heap.size w' y v) .ret a w:=
 bodyPost_ret (v:= .agg (y.d.cells B n b).toArray) (results_cell_row i _ _ g 37 _ _ _ f (E.get k) Tryz.underlying37 rfl (by kernel_rfl)) hd ⟨_,rfl,E.ps,E.chg,B,n,b,rfl,E.keep.imp h⟩
end
end
section
open Lx (Tk)
section
variable {P c:Nat} {A:Option Addr} {L:List Tk} {w0 w:World} {s:Ps}
theorem En.chn {wi:World} {V:List Vb} {Φ:World→Prop} {Q:Ending→World→Prop} {F:FuncId} {n:Nat} {b:M Ex} {ops:List (ByteArray×Int)} (E:En 68 P A c L w0 wi w s V Φ) (p:dR F) (f:Fwd b) (m:ops.length≤100) (e:∀x∈ops,I64 x.2) (j:TkL L) (l:Rdr 68 P A c L w0 n F b) (q:s.r.length<n)
  (k:∀B k g w',En 68 P A c L w0 wi w' (chainP b ops s).2 V (fun u=>Φ u∧ExV u (chainP b ops s).1 B k g)→Q (.returned (.agg ((chainP b ops s).1.d.cells B k g).toArray)) w'):
  Calls Tryz.prog 77 #[.pointer (some ⟨P,0,none⟩),.func (Fn.func F) #[.pointer (some ⟨P,0,none⟩)] #[],.slice (some ⟨w.heap.size,0,none⟩) ops.length ops.length] (w.alloc (.cells (symCs ops).toArray 120)) Q:=by
 have i:=E.ext ((Ext.refl w).alloc (.cells (symCs ops).toArray 120))
 exact i.rdx (chain_any F p b f ops m e w.heap.size (Blk.of_new w 120 (symCs ops)) (by have:=E.ps.lt;omega) i.ps j fun W st h hs=>l W st h (by omega)) k
theorem unary_rd {n:Nat} {p:M Ex} (e:Rdr 68 P A c L w0 n 313 p) (l:s.r.length<n) (i:PsAt 68 P A c L w0 w s) (f:TkL L):
  Calls Tryz.prog 297 #[.pointer (some ⟨P,0,none⟩)] w (Ran 68 P A c L w0 w (fo p s).2 fun v w'=>ExG w.heap.size w' (fo p s).1 v):=by
 have E:=En.start i
 go_enter Tryz.func297,Tryz.ntmps297
 go_wp2_with (first|(refine E.al rfl _ rfl rfl (cs:=zE) (t:=37) (by kernel_rfl) fun g w E=>?_)|(refine E.tk f dU rfl (fun h w E=>?_) (fun h w E=>?_))|(refine E.rd (F:=313) e (by have:=aM h;omega) fun y s B k c w b E=>?_)|(refine E.rd (F:=313) e (by omega) fun y s B k c w b E=>?_)|(refine bs1 rfl rfl _ _ _ _ rfl ?_)|(refine E.o1 rfl rfl (fun u h=>h.2) (by unfold I64;omega) fun D w E=>?_)|(refine E.sv (j:=0) rfl rfl rfl rfl rfl rfl rfl rfl (by kernel_rfl) fun w E=>?_))
 ·rw[fo,if_pos h,b]
  exact E.fin (j:=0) rfl rfl rfl rfl fun u h=>h.2
 ·rw[fo,if_neg (by rw[h];simp),b]
  exact E.fin (j:=0) rfl rfl rfl rfl fun u h=>h.2
theorem oc {n:Nat} {p:M Ex} (b:Fwd p) (i:Rdr 68 P A c L w0 n 297 (fo p)) (l:s.r.length<n) (f:PsAt 68 P A c L w0 w s) (e:TkL L):
  Calls Tryz.prog 278 #[.pointer (some ⟨P,0,none⟩)] w (Ran 68 P A c L w0 w (proP p s).2 fun v w'=>ExG w.heap.size w' (proP p s).1 v):=by
 have E:=En.start f
 go_enter Tryz.func278,Tryz.ntmps278
 go_wp2_with (first|(refine E.al rfl _ rfl rfl (cs:=zE) (t:=37) (by kernel_rfl) fun g w E=>?_)|(refine E.chn (F:=297) (ops:=opsPro) (fun _ _=>by kernel_rfl) (lh b) (by decide) (by unfold I64;decide) e i l fun B k c w E=>?_)|(refine E.sv (j:=0) rfl rfl rfl rfl rfl rfl rfl rfl (by kernel_rfl) fun w E=>?_))
 exact E.fin (j:=0) rfl rfl rfl rfl fun u h=>h.2
theorem sum_rd {n:Nat} {p:M Ex} (b:Fwd p) (i:Rdr 68 P A c L w0 n 278 (proP p)) (l:s.r.length<n) (f:PsAt 68 P A c L w0 w s) (e:TkL L):
  Calls Tryz.prog 258 #[.pointer (some ⟨P,0,none⟩)] w (Ran 68 P A c L w0 w (sumP p s).2 fun v w'=>ExG w.heap.size w' (sumP p s).1 v):=by
 have E:=En.start f
 go_enter Tryz.func258,Tryz.ntmps258
 go_wp2_with (first|(refine E.al rfl _ rfl rfl (cs:=zE) (t:=37) (by kernel_rfl) fun g w E=>?_)|(refine E.chn (F:=278) (ops:=opsSum) (fun _ _=>by kernel_rfl) (dM (lh b) _) (by decide) (by unfold I64;decide) e i l fun B k c w E=>?_)|(refine E.sv (j:=0) rfl rfl rfl rfl rfl rfl rfl rfl (by kernel_rfl) fun w E=>?_))
 exact E.fin (j:=0) rfl rfl rfl rfl fun u h=>h.2
theorem and_rd {n:Nat} {p:M Ex} (b:Fwd p) (i:Rdr 68 P A c L w0 n 152 (notP p)) (l:s.r.length<n) (f:PsAt 68 P A c L w0 w s) (e:TkL L):
  Calls Tryz.prog 78 #[.pointer (some ⟨P,0,none⟩)] w (Ran 68 P A c L w0 w (andP p s).2 fun v w'=>ExG w.heap.size w' (andP p s).1 v):=by
 have E:=En.start f
 go_enter Tryz.func78,Tryz.ntmps78
 go_wp2_with (first|(refine E.al rfl _ rfl rfl (cs:=zE) (t:=37) (by kernel_rfl) fun g w E=>?_)|(refine E.chn (F:=152) (ops:=opsAnd) (fun _ _=>by kernel_rfl) (fun s=>gM b _ s) (by decide) (by unfold I64;decide) e i l fun B k c w E=>?_)|(refine E.sv (j:=0) rfl rfl rfl rfl rfl rfl rfl rfl (by kernel_rfl) fun w E=>?_))
 exact E.fin (j:=0) rfl rfl rfl rfl fun u h=>h.2
theorem expr_rd {n:Nat} {p:M Ex} (b:Fwd p) (i:Rdr 68 P A c L w0 n 78 (andP p)) (l:s.r.length<n) (f:PsAt 68 P A c L w0 w s) (e:TkL L):
  Calls Tryz.prog 39 #[.pointer (some ⟨P,0,none⟩)] w (Ran 68 P A c L w0 w (orP p s).2 fun v w'=>ExG w.heap.size w' (orP p s).1 v):=by
 have E:=En.start f
 go_enter Tryz.func39,Tryz.ntmps39
 go_wp2_with (first|(refine E.al rfl _ rfl rfl (cs:=zE) (t:=37) (by kernel_rfl) fun g w E=>?_)|(refine E.chn (F:=78) (ops:=opsOr) (fun _ _=>by kernel_rfl) (fwd_and b) (by decide) (by unfold I64;decide) e i l fun B k c w E=>?_)|(refine E.sv (j:=0) rfl rfl rfl rfl rfl rfl rfl rfl (by kernel_rfl) fun w E=>?_))
 exact E.fin (j:=0) rfl rfl rfl rfl fun u h=>h.2
theorem not_eq (p:M Ex) (s:Ps):notP p s=if isS kNOT s=true then (opE 20 [(notP p s.next).1],(notP p s.next).2)else testP p s:=by
 unfold notP
 cases hs:isS kNOT s
 ·cases s.r.length with
  |zero=>rfl
  |succ k=>rw[notGo,hs];rfl
 ·have b:=aM hs
  rw[←b,notGo,hs]
theorem not_rd1 {n N:Nat} {p:M Ex} (l:Rdr 68 P A c L w0 N 220 (testP p)) (i:Rdr 68 P A c L w0 n 152 (notP p)) (q:s.r.length<n+1) (m:s.r.length<N) (f:PsAt 68 P A c L w0 w s) (e:TkL L):
  Calls Tryz.prog 152 #[.pointer (some ⟨P,0,none⟩)] w (Ran 68 P A c L w0 w (notP p s).2 fun v w'=>ExG w.heap.size w' (notP p s).1 v):=by
 have E:=En.start f
 go_enter Tryz.func152,Tryz.ntmps152
 go_wp2_with (first|(refine E.al rfl _ rfl rfl (cs:=zE) (t:=37) (by kernel_rfl) fun g w E=>?_)|(refine E.tk e kNOT rfl (fun h w E=>?_) (fun h w E=>?_))|(refine E.rd (F:=152) i (by have:=aM h;omega) fun y s B k c w b E=>?_)|(refine E.rd (F:=220) l (by omega) fun y s B k c w b E=>?_)|(refine bs1 rfl rfl _ _ _ _ rfl ?_)|(refine E.o1 rfl rfl (fun u h=>h.2) (by unfold I64;omega) fun D w E=>?_)|(refine E.sv (j:=0) rfl rfl rfl rfl rfl rfl rfl rfl (by kernel_rfl) fun w E=>?_))
 ·rw[not_eq,if_pos h,b]
  exact E.fin (j:=0) rfl rfl rfl rfl fun u h=>h.2
 ·rw[not_eq,if_neg (by rw[h];simp),b]
  exact E.fin (j:=0) rfl rfl rfl rfl fun u h=>h.2
theorem not_rd {N:Nat} {p:M Ex} (e:Rdr 68 P A c L w0 N 220 (testP p)) (b:TkL L):∀n,n≤N→Rdr 68 P A c L w0 n 152 (notP p)
 |0,_=>fun _ _ _ h=>absurd h (Nat.not_lt_zero _)
 |n+1,hn=>fun W st f h=>not_rd1 e (not_rd e b n (by omega)) h (by omega) f b
end
end
section
open Lx (Tk)
section
variable {P c:Nat} {A:Option Addr} {L:List Tk} {w0 w:World} {s:Ps}
theorem prim_rd1 {n:Nat} {f:M Ex} (J:Er w0) (I:Rdr 68 P A c L w0 n 39 f) (K:s.r.length<n+1) (z:PsAt 68 P A c L w0 w s) (b:TkL L):
  Calls Tryz.prog 313 #[.pointer (some ⟨P,0,none⟩)] w (Ran 68 P A c L w0 w (bQ f s).2 fun v w'=>ExG w.heap.size w' (bQ f s).1 v):=by
 have E:=En.start z
 have C:=hid (z.num_le b)
 have q:=hid (z.tak_size b 4)
 go_enter Tryz.func313,Tryz.ntmps313
 go_wp2_with (first|(refine E.al rfl _ rfl rfl (cs:=zE) (t:=37) (by kernel_rfl) fun g w E=>?_)|(go_at_call 43;refine E.hs b 3 rfl (fun e w E=>?_) (fun e w E=>?_))|(go_at_call 43;refine E.hs b 4 rfl (fun i w E=>?_) (fun i w E=>?_))|(go_at_call 53;refine E.tk b kNULL rfl (fun l w E=>?_) (fun l w E=>?_))|(go_at_call 53;refine E.tk b kLENGTH rfl (fun m w E=>?_) (fun m w E=>?_))|(go_at_call 53;refine E.tk b yLp rfl (fun p w E=>?_) (fun p w E=>?_))|(go_at_call 178;refine E.run (ct E.ps b J) fun v w G E=>?_;subst G)|(go_at_call 100;refine E.run (gC E.ps b 4 (by decide)) fun v w G E=>?_;subst G)|(go_at_call 260;refine E.lit (by unfold I64;omega) (by unfold I64;first|omega|(have:=C.out;omega)) (by first|exact Nat.zero_le _|(have:=q.out;omega)) fun w E=>?_)|(go_at_call 44;refine E.nd b yLp rfl rfl fun v w E=>?_)|(go_at_call 44;refine E.nd b yRp rfl rfl fun v w E=>?_)|(go_at_call 39;refine E.rd I (by first|(have:=aM m;have:=aH yLp s.next;omega)|(have:=aM p;omega)) fun y s B k c w H E=>?_)|(go_at_call 106;refine E.rdx (jR E.ps b) fun B k c w E=>?_)|(refine bs1 rfl rfl _ _ _ _ rfl ?_)|(go_at_call 105;refine E.o1 rfl rfl (fun u h=>h.2) (by unfold I64;omega) fun D w E=>?_)|(refine ldE rfl rfl _ rfl (E.get (j:=0) rfl) rfl ?_)|(refine E.sv (j:=0) rfl rfl rfl rfl rfl rfl rfl rfl (by kernel_rfl) fun w E=>?_)|(refine E.sv (j:=1) rfl rfl rfl rfl rfl rfl rfl rfl (by kernel_rfl) fun w E=>?_))
 ·exact E.done (by unfold bQ;rw[if_pos e]) (j:=0) rfl rfl rfl rfl fun u h=>h.2
 ·exact E.done (by unfold bQ;rw[if_neg (by rw[e];simp),if_pos i]) (j:=0) rfl rfl rfl rfl fun u h=>h.2
 ·exact E.done (by unfold bQ;rw[if_neg (by rw[e];simp),if_neg (by rw[i];simp),if_pos l]) (j:=0) rfl rfl rfl rfl fun u h=>h.2
 ·exact E.done (by unfold bQ;rw[if_neg (by rw[e];simp),if_neg (by rw[i];simp),if_neg (by rw[l];simp),if_pos m,H]) (j:=1) rfl rfl rfl rfl fun u h=>h.2
 ·exact E.done (by unfold bQ;rw[if_neg (by rw[e];simp),if_neg (by rw[i];simp),if_neg (by rw[l];simp),if_neg (by rw[m];simp),if_pos p,H]) (j:=1) rfl rfl rfl rfl fun u h=>h.2
 ·exact E.done (by unfold bQ;rw[if_neg (by rw[e];simp),if_neg (by rw[i];simp),if_neg (by rw[l];simp),if_neg (by rw[m];simp),if_neg (by rw[p];simp)]) (j:=0) rfl rfl rfl rfl fun u h=>h.2
theorem prim_rd {n:Nat} {b:M Ex} (i:Er w0) (e:TkL L) (g:Rdr 68 P A c L w0 n 39 b):Rdr 68 P A c L w0 (n+1) 313 (bQ b):=fun W st f h=>prim_rd1 i g h f e
end
end
end Go.Proofs.YtjigcpfjhfoheaaGreatDoor
