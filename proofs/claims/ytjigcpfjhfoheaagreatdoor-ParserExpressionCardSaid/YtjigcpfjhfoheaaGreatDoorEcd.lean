/- Steps of a walk over the program's parser, each with what follows it; Walks: unary, product, sum, and, expr, not; Walk: primary. -/
import Derived.Test.YtjigcpfjhfoheaaGreatDoorEbh
import Derived.Great.Walk
import Derived.Test.YtjigcpfjhfoheaaGreatDoorEbi
namespace Go.Proofs.YtjigcpfjhfoheaaGreatDoor
open Go.RowKit
set_option maxHeartbeats 4000000
set_option maxRecDepth 100000
set_option linter.unusedVariables false
set_option linter.unusedSimpArgs false
section
open Lx (Tk)
def Rdr (T P:Nat) (A:Option Addr) (c:Nat) (L:List Tk) (w0:World) (n:Nat) (F:FuncId) (m:M Ex):Prop:=∀(W:World) (st:Ps),PsAt T P A c L w0 W st→st.r.length<n→
 Calls Tryz.prog F #[.pointer (some ⟨P,0,none⟩)] W (Ran T P A c L w0 W (m st).2 fun v W'=>ExG W.heap.size W' (m st).1 v)
abbrev zE:List Value:=eZ
section
variable {T P c:Nat} {A:Option Addr} {L:List Tk} {w0 wi w:World} {s s':Ps} {V:List Vb} {Φ Ψ:World→Prop} {F:Nat} {x:Array Value} {R:Ending} {Q:Ending→World→Prop}
theorem En.run {Y:Value→World→Prop} (E:En T P A c L w0 wi w s V Φ) (hc:Calls Tryz.prog F x w (Ran T P A c L w0 w s' Y)) (k:∀v w',Y v w'→En T P A c L w0 wi w' s' V Φ→Q (.returned v) w'):Calls Tryz.prog F x w Q:=
 hc.mono fun e w' ⟨v,h,h1,h2,h3⟩=>by rw[h];exact k v w' h3 (E.call h1 h2)
theorem En.rdx {y:Ex} (E:En T P A c L w0 wi w s V Φ) (hc:Calls Tryz.prog F x w (Ran T P A c L w0 w s' fun v w'=>ExG w.heap.size w' y v)) (k:∀B k c' w',En T P A c L w0 wi w' s' V (fun u=>Φ u∧ExV u y B k c')→Q (.returned (.agg (y.d.cells B k c').toArray)) w'):Calls Tryz.prog F x w Q:=
 hc.mono fun e w' ⟨v,h,h1,h2,B,k',c',hv,h3⟩=>by rw[h,hv];exact k B k' c' w' (E.calls h1 h2 h3)
theorem En.rd {n:Nat} {m:M Ex} (hr:Rdr T P A c L w0 n F m) (E:En T P A c L w0 wi w s V Φ) (hn:s.r.length<n) (k:∀(y:Ex) (s':Ps) B k c' w',m s=(y,s')→En T P A c L w0 wi w' s' V (fun u=>Φ u∧ExV u y B k c')→Q (.returned (.agg (y.d.cells B k c').toArray)) w'):Calls Tryz.prog F #[.pointer (some ⟨P,0,none⟩)] w Q:=
 E.rdx (hr w s E.ps hn) fun B k' c' w' E=>k _ _ B k' c' w' rfl E
theorem En.o1 {y:Ex} {B:Option Addr} {n c':Nat} {o:Int} (E:En T P A c L w0 wi w s V Φ) (h:∀u,Φ u→ExV u y B n c') (ho:I64 o) (k:∀D w',En T P A c L w0 wi w' s V (fun u=>Φ u∧ExV u (opE o [y]) D 1 1)→Q (.returned (.agg ((opE o [y]).d.cells D 1 1).toArray)) w'):
  Calls Tryz.prog 105 #[.int .i64 o,.slice (some ⟨w.heap.size,0,none⟩) 1 1] (w.alloc (.cells (y.d.cells B n c').toArray 37)) Q:=
 (op_any o _ 1 1 _).mono fun e w' ⟨h1,hx⟩=>by rw[h1];exact k _ w' (E.op1' h ho hx)
end
section
variable {P c:Nat} {A:Option Addr} {L:List Tk} {w0 wi w:World} {s:Ps} {V:List Vb} {Φ:World→Prop} {Q:Ending→World→Prop}
theorem En.tk (E:En 68 P A c L w0 wi w s V Φ) (hL:TkL L) (t:ByteArray) (h1:isS t s=true→∀w',En 68 P A c L w0 wi w' s.next V Φ→Q (.returned (.bool true)) w') (h0:isS t s=false→∀w',En 68 P A c L w0 wi w' s V Φ→Q (.returned (.bool false)) w'):
  Calls Tryz.prog 53 #[.pointer (some ⟨P,0,none⟩),.string t] w Q:=
 E.run (accept_any E.ps hL t) fun v w' hv E=>by
  subst hv
  cases hb:isS t s
  ·exact h0 hb w' (by rw[accP,hb]at E;exact E)
  ·exact h1 hb w' (by rw[accP,hb]at E;exact E)
end
section
variable {T P c:Nat} {A:Option Addr} {L:List Tk} {w0 wi w:World} {s:Ps} {V:List Vb} {Φ:World→Prop} {Q:Ending→World→Prop}
theorem En.lit {j i:Int} {t:ByteArray} (E:En T P A c L w0 wi w s V Φ) (hj:I64 j) (hi:I64 i) (ht:t.size≤9223372036854775807) (k:∀w',En T P A c L w0 wi w' s V (fun u=>Φ u∧ExV u (litE j i t) none 0 0)→Q (.returned (.agg ((litE j i t).d.cells none 0 0).toArray)) w'):
  Calls Tryz.prog 260 #[.agg #[.int .i64 j,.int .i64 i,.string t]] w Q:=
 (lit_val j i t w).mono fun e w' ⟨h,hx⟩=>by rw[h];exact k w' ((E.ext hx).imp fun u hu=>⟨hu,exv_lit hj hi ht⟩)
end
section
variable {T P c:Nat} {A:Option Addr} {L:List Tk} {w0 wi w:World} {s:Ps} {V:List Vb} {Φ:World→Prop} {ops:Array Oper} {rest:List Oper} {o:Oper} {a:Act} {Q:Exit→Act→World→Prop}
theorem En.al {t:Nat} {cs:List Value} (E:En T P A c L w0 wi w s V Φ) (hg:o.guard=none) (d:Option Tmp) (hd:o.dst=d) (ho:o.op= .alloc t) (hz:(execOp a.eval o).run Tryz.prog w= .ok (.value (.pointer (some ⟨w.heap.size,0,none⟩))) (w.alloc (.cells cs.toArray t)))
  (k:∀g w',En T P A c L w0 wi w' s ((g,t,cs)::V) Φ→wpList Tryz.prog ops Q rest (a.put d (.pointer (some ⟨g,0,none⟩))) w'):wpList Tryz.prog ops Q (o::rest) a w:=
 Great.wpList_allocTo hg d hd _ _ hz (k _ _ (E.alloc t cs))
theorem En.sv {j g:Nat} {cs ds:List Value} {x y:Operand} (E:En T P A c L w0 wi w s V Φ) (hj:V[j]? =some (g,37,cs)) (hgd:o.guard=none) (ho:o.op= .store 37 x y) (hd:o.dst=none) (hx:a.eval x= .pointer (some ⟨g,0,none⟩)) (hy:a.eval y= .agg ds.toArray) (hl:cs.length=8) (hm:ds.length=8) (h1:ds.toArray.all (·.oneCell')=true)
  (k:∀w',En T P A c L w0 wi w' s (V.set j (g,37,ds)) Φ→wpList Tryz.prog ops Q rest a w'):wpList Tryz.prog ops Q (o::rest) a w:=
 stE hgd ho hd g ds hx hy (E.get hj) hl hm h1 (k _ (E.row hj ds))
theorem infoE:(Tryz.prog.info? 37).map (fun i=> (i.zero,i.size,i.bytes))=some (some (.agg zE.toArray),8,104):=by kernel_rfl
theorem bs1 {x:Operand} (hgd:o.guard=none) (ho:o.op= .buildSlice 27 1 #[(0,x)]) (y:Nd) (B:Option Addr) (n c':Nat) (hx:a.eval x= .agg (y.cells B n c').toArray)
  (h:wpList Tryz.prog ops Q rest (a.put o.dst (.slice (some ⟨w.heap.size,0,none⟩) 1 1)) (w.alloc (.cells (y.cells B n c').toArray 37))):wpList Tryz.prog ops Q (o::rest) a w:=by
 obtain⟨ie,hie,h0,h1,h2⟩:∃i,Tryz.prog.info? 37=some i∧i.zero=some (.agg zE.toArray)∧i.size=8∧i.bytes=104:=by
  have h:=infoE
  cases hi:Tryz.prog.info? 37 with
  |none=>rw[hi]at h;cases h
  |some i=>
   rw[hi]at h
   simp only[Option.map_some,Option.some.injEq,Prod.mk.injEq]at h
   exact⟨i,rfl,h.1,h.2.1,h.2.2⟩
 refine wpList_buildSlice hgd _ 37 1 _ ho _ ie _ rfl hie h0 (by rw[h1];decide) (by rw[h1];decide) ?_ h
 rw[h1]
 simp only[List.map_toArray,List.map_cons,List.map_nil,hx]
 kernel_rfl
end
section
variable {T P c:Nat} {A:Option Addr} {L:List Tk} {w0 wi w:World} {s:Ps} {V:List Vb} {Φ:World→Prop} {a:Act}
theorem En.done {X:Ex×Ps} {fn:Func} {p j g:Nat} {B:Option Addr} {n c':Nat} {y:Ex} (hX:X=(y,s)) (E:En T P A c L w0 wi w s V Φ) (hj:V[j]? =some (g,37,y.d.cells B n c')) (hr:fn.results= #[.cell p 37]) (hp:a.tmps.getD p undef= .pointer (some ⟨g,0,none⟩)) (hd:a.defers= []) (h:∀u,Φ u→ExV u y B n c'):
  bodyPost Tryz.prog fn (Ran T P A c L w0 wi X.2 fun v w'=>ExG wi.heap.size w' X.1 v) .ret a w:=by
 subst hX
 exact bodyPost_ret (v:= .agg (y.d.cells B n c').toArray) (results_cell_row hr _ _ g 37 _ _ _ hp (E.get hj) Tryz.underlying37 rfl (by kernel_rfl)) hd ⟨_,rfl,E.ps,E.chg,B,n,c',rfl,E.keep.imp h⟩
theorem En.fin {fn:Func} {p j g:Nat} {B:Option Addr} {n c':Nat} {y:Ex} (E:En T P A c L w0 wi w s V Φ) (hj:V[j]? =some (g,37,y.d.cells B n c')) (hr:fn.results= #[.cell p 37]) (hp:a.tmps.getD p undef= .pointer (some ⟨g,0,none⟩)) (hd:a.defers= []) (h:∀u,Φ u→ExV u y B n c'):
  bodyPost Tryz.prog fn (Ran T P A c L w0 wi s fun v w'=>ExG wi.heap.size w' y v) .ret a w:=
 bodyPost_ret (v:= .agg (y.d.cells B n c').toArray) (results_cell_row hr _ _ g 37 _ _ _ hp (E.get hj) Tryz.underlying37 rfl (by kernel_rfl)) hd ⟨_,rfl,E.ps,E.chg,B,n,c',rfl,E.keep.imp h⟩
end
end
section
open Lx (Tk)
section
variable {P c:Nat} {A:Option Addr} {L:List Tk} {w0 w:World} {s:Ps}
theorem En.chn {wi:World} {V:List Vb} {Φ:World→Prop} {Q:Ending→World→Prop} {F:FuncId} {n:Nat} {el:M Ex} {ops:List (ByteArray×Int)} (E:En 68 P A c L w0 wi w s V Φ) (hE:EntF F) (hfw:Fwd el) (hl:ops.length≤100) (hops:∀x∈ops,I64 x.2) (hL:TkL L) (hr:Rdr 68 P A c L w0 n F el) (hn:s.r.length<n)
  (k:∀B k c' w',En 68 P A c L w0 wi w' (chainP el ops s).2 V (fun u=>Φ u∧ExV u (chainP el ops s).1 B k c')→Q (.returned (.agg ((chainP el ops s).1.d.cells B k c').toArray)) w'):
  Calls Tryz.prog 77 #[.pointer (some ⟨P,0,none⟩),.func (Fn.func F) #[.pointer (some ⟨P,0,none⟩)] #[],.slice (some ⟨w.heap.size,0,none⟩) ops.length ops.length] (w.alloc (.cells (symCs ops).toArray 120)) Q:=by
 have E':=E.ext ((Ext.refl w).alloc (.cells (symCs ops).toArray 120))
 exact E'.rdx (chain_any F hE el hfw ops hl hops w.heap.size (Blk.of_new w 120 (symCs ops)) (by have:=E.ps.lt;omega) E'.ps hL fun W st h hs=>hr W st h (by omega)) k
theorem unary_rd {n:Nat} {p:M Ex} (hr:Rdr 68 P A c L w0 n 313 p) (hn:s.r.length<n) (hp:PsAt 68 P A c L w0 w s) (hL:TkL L):
  Calls Tryz.prog 297 #[.pointer (some ⟨P,0,none⟩)] w (Ran 68 P A c L w0 w (unaP p s).2 fun v w'=>ExG w.heap.size w' (unaP p s).1 v):=by
 have E:=En.start hp
 go_enter Tryz.func297,Tryz.ntmps297
 go_wp2_with (first|(refine E.al rfl _ rfl rfl (cs:=zE) (t:=37) (by kernel_rfl) fun g w E=>?_)|(refine E.tk hL yMinus (fun h w E=>?_) (fun h w E=>?_))|(refine E.rd (F:=313) hr (by have:=isS_len h;omega) fun y s B k c w hm E=>?_)|(refine E.rd (F:=313) hr (by omega) fun y s B k c w hm E=>?_)|(refine bs1 rfl rfl _ _ _ _ rfl ?_)|(refine E.o1 (fun u h=>h.2) (by unfold I64;omega) fun D w E=>?_)|(refine E.sv (j:=0) rfl rfl rfl rfl rfl rfl rfl rfl (by kernel_rfl) fun w E=>?_))
 ·rw[unaP,if_pos h,hm]
  exact E.fin (j:=0) rfl rfl rfl rfl fun u h=>h.2
 ·rw[unaP,if_neg (by rw[h];simp),hm]
  exact E.fin (j:=0) rfl rfl rfl rfl fun u h=>h.2
theorem product_rd {n:Nat} {p:M Ex} (hfw:Fwd p) (hr:Rdr 68 P A c L w0 n 297 (unaP p)) (hn:s.r.length<n) (hp:PsAt 68 P A c L w0 w s) (hL:TkL L):
  Calls Tryz.prog 278 #[.pointer (some ⟨P,0,none⟩)] w (Ran 68 P A c L w0 w (proP p s).2 fun v w'=>ExG w.heap.size w' (proP p s).1 v):=by
 have E:=En.start hp
 go_enter Tryz.func278,Tryz.ntmps278
 go_wp2_with (first|(refine E.al rfl _ rfl rfl (cs:=zE) (t:=37) (by kernel_rfl) fun g w E=>?_)|(refine E.chn (F:=297) (ops:=opsPro) (fun _ _=>by kernel_rfl) (fwd_una hfw) (by decide) (by unfold I64;decide) hL hr hn fun B k c w E=>?_)|(refine E.sv (j:=0) rfl rfl rfl rfl rfl rfl rfl rfl (by kernel_rfl) fun w E=>?_))
 exact E.fin (j:=0) rfl rfl rfl rfl fun u h=>h.2
theorem sum_rd {n:Nat} {p:M Ex} (hfw:Fwd p) (hr:Rdr 68 P A c L w0 n 278 (proP p)) (hn:s.r.length<n) (hp:PsAt 68 P A c L w0 w s) (hL:TkL L):
  Calls Tryz.prog 258 #[.pointer (some ⟨P,0,none⟩)] w (Ran 68 P A c L w0 w (sumP p s).2 fun v w'=>ExG w.heap.size w' (sumP p s).1 v):=by
 have E:=En.start hp
 go_enter Tryz.func258,Tryz.ntmps258
 go_wp2_with (first|(refine E.al rfl _ rfl rfl (cs:=zE) (t:=37) (by kernel_rfl) fun g w E=>?_)|(refine E.chn (F:=278) (ops:=opsSum) (fun _ _=>by kernel_rfl) (fwd_chain (fwd_una hfw) _) (by decide) (by unfold I64;decide) hL hr hn fun B k c w E=>?_)|(refine E.sv (j:=0) rfl rfl rfl rfl rfl rfl rfl rfl (by kernel_rfl) fun w E=>?_))
 exact E.fin (j:=0) rfl rfl rfl rfl fun u h=>h.2
theorem and_rd {n:Nat} {p:M Ex} (hfw:Fwd p) (hr:Rdr 68 P A c L w0 n 152 (notP p)) (hn:s.r.length<n) (hp:PsAt 68 P A c L w0 w s) (hL:TkL L):
  Calls Tryz.prog 78 #[.pointer (some ⟨P,0,none⟩)] w (Ran 68 P A c L w0 w (andP p s).2 fun v w'=>ExG w.heap.size w' (andP p s).1 v):=by
 have E:=En.start hp
 go_enter Tryz.func78,Tryz.ntmps78
 go_wp2_with (first|(refine E.al rfl _ rfl rfl (cs:=zE) (t:=37) (by kernel_rfl) fun g w E=>?_)|(refine E.chn (F:=152) (ops:=opsAnd) (fun _ _=>by kernel_rfl) (fun s=>fwd_notGo hfw _ s) (by decide) (by unfold I64;decide) hL hr hn fun B k c w E=>?_)|(refine E.sv (j:=0) rfl rfl rfl rfl rfl rfl rfl rfl (by kernel_rfl) fun w E=>?_))
 exact E.fin (j:=0) rfl rfl rfl rfl fun u h=>h.2
theorem expr_rd {n:Nat} {p:M Ex} (hfw:Fwd p) (hr:Rdr 68 P A c L w0 n 78 (andP p)) (hn:s.r.length<n) (hp:PsAt 68 P A c L w0 w s) (hL:TkL L):
  Calls Tryz.prog 39 #[.pointer (some ⟨P,0,none⟩)] w (Ran 68 P A c L w0 w (orP p s).2 fun v w'=>ExG w.heap.size w' (orP p s).1 v):=by
 have E:=En.start hp
 go_enter Tryz.func39,Tryz.ntmps39
 go_wp2_with (first|(refine E.al rfl _ rfl rfl (cs:=zE) (t:=37) (by kernel_rfl) fun g w E=>?_)|(refine E.chn (F:=78) (ops:=opsOr) (fun _ _=>by kernel_rfl) (fwd_and hfw) (by decide) (by unfold I64;decide) hL hr hn fun B k c w E=>?_)|(refine E.sv (j:=0) rfl rfl rfl rfl rfl rfl rfl rfl (by kernel_rfl) fun w E=>?_))
 exact E.fin (j:=0) rfl rfl rfl rfl fun u h=>h.2
theorem not_eq (p:M Ex) (s:Ps):notP p s=if isS kNOT s=true then (opE 20 [(notP p s.next).1],(notP p s.next).2)else testP p s:=by
 unfold notP
 cases hs:isS kNOT s
 ·cases s.r.length with
  |zero=>rfl
  |succ k=>rw[notGo,hs];rfl
 ·have hl:=isS_len hs
  rw[←hl,notGo,hs]
theorem not_rd1 {n N:Nat} {p:M Ex} (ht:Rdr 68 P A c L w0 N 220 (testP p)) (hr:Rdr 68 P A c L w0 n 152 (notP p)) (hn:s.r.length<n+1) (hN:s.r.length<N) (hp:PsAt 68 P A c L w0 w s) (hL:TkL L):
  Calls Tryz.prog 152 #[.pointer (some ⟨P,0,none⟩)] w (Ran 68 P A c L w0 w (notP p s).2 fun v w'=>ExG w.heap.size w' (notP p s).1 v):=by
 have E:=En.start hp
 go_enter Tryz.func152,Tryz.ntmps152
 go_wp2_with (first|(refine E.al rfl _ rfl rfl (cs:=zE) (t:=37) (by kernel_rfl) fun g w E=>?_)|(refine E.tk hL kNOT (fun h w E=>?_) (fun h w E=>?_))|(refine E.rd (F:=152) hr (by have:=isS_len h;omega) fun y s B k c w hm E=>?_)|(refine E.rd (F:=220) ht (by omega) fun y s B k c w hm E=>?_)|(refine bs1 rfl rfl _ _ _ _ rfl ?_)|(refine E.o1 (fun u h=>h.2) (by unfold I64;omega) fun D w E=>?_)|(refine E.sv (j:=0) rfl rfl rfl rfl rfl rfl rfl rfl (by kernel_rfl) fun w E=>?_))
 ·rw[not_eq,if_pos h,hm]
  exact E.fin (j:=0) rfl rfl rfl rfl fun u h=>h.2
 ·rw[not_eq,if_neg (by rw[h];simp),hm]
  exact E.fin (j:=0) rfl rfl rfl rfl fun u h=>h.2
theorem not_rd {N:Nat} {p:M Ex} (ht:Rdr 68 P A c L w0 N 220 (testP p)) (hL:TkL L):∀n,n≤N→Rdr 68 P A c L w0 n 152 (notP p)
 |0,_=>fun _ _ _ h=>absurd h (Nat.not_lt_zero _)
 |n+1,hn=>fun W st hp h=>not_rd1 ht (not_rd ht hL n (by omega)) h (by omega) hp hL
end
end
section
open Lx (Tk)
section
variable {P c:Nat} {A:Option Addr} {L:List Tk} {w0 w:World} {s:Ps}
theorem prim_rd1 {n:Nat} {rec:M Ex} (hE:Er w0) (hr:Rdr 68 P A c L w0 n 39 rec) (hn:s.r.length<n+1) (hp:PsAt 68 P A c L w0 w s) (hL:TkL L):
  Calls Tryz.prog 313 #[.pointer (some ⟨P,0,none⟩)] w (Ran 68 P A c L w0 w (primP rec s).2 fun v w'=>ExG w.heap.size w' (primP rec s).1 v):=by
 have hx0:=(Ext.refl w).alloc (.cells #[.int .i64 0,.string ⟨#[]⟩,.string ⟨#[]⟩,.int .i64 0,.int .i64 0,.int .i64 0,.string ⟨#[]⟩,.slice none 0 0] 37)
 have HS0:=hid (hp.ext hx0)
 have HG0:Hid (P<w.heap.size):=hp.lt
 have HR0:=hid (Blk.of_new w 37 eZ)
 have HC0:=hid (Chg.of (P:=P) hx0)
 have HM:Hid (primP rec s=if hasK 3 s=true then (litE 1 (numP s).1 ⟨#[]⟩,(numP s).2)
  else if hasK 4 s=true then (litE 2 0 (takP 4 s).1,(takP 4 s).2)
  else if isS kNULL s=true then (litE 0 0 ⟨#[]⟩,s.next)
  else if isS kLENGTH s=true then (opE 9 [(rec (needP yLp s.next)).1],needP yRp (rec (needP yLp s.next)).2)
  else if isS yLp s=true then ((rec s.next).1,needP yRp (rec s.next).2)
  else colP s):=rfl
 have HN1:Hid (w.heap.size≤(w.alloc (.cells #[.int .i64 0,.string ⟨#[]⟩,.string ⟨#[]⟩,.int .i64 0,.int .i64 0,.int .i64 0,.string ⟨#[]⟩,.slice none 0 0] 37)).heap.size):=hx0.size
 obtain⟨R,hR⟩:∃R,primP rec s=R:=⟨_,rfl⟩
 rw[hR]at HM ⊢
 clear hp hx0 hR
 go_enter Tryz.func313,Tryz.ntmps313
 go_upto_region 1 with fail
 generalize w.alloc (.cells #[.int .i64 0,.string ⟨#[]⟩,.string ⟨#[]⟩,.int .i64 0,.int .i64 0,.int .i64 0,.string ⟨#[]⟩,.slice none 0 0] 37)=wz at*
 obtain⟨g0,hg0⟩:∃g,w.heap.size=g:=⟨_,rfl⟩
 have HN0:=hid hg0
 rw[hg0]at HG0 HR0 HN1 ⊢
 clear hg0
 have HG:=HG0
 have HNl:=hid (HS0.out.num_le hL)
 have HTl:=hid (HS0.out.tak_size hL 4)
 go_wp2_with fail
 refine(has_any HS0.out hL 3).mono ?_
 rintro _ w1 ⟨rfl,hx⟩
 have HR1:=hid (HR0.out.ext hx)
 have HC1:=hid (HC0.out.ext hx)
 have HS1:=hid (HS0.out.ext hx)
 clear hx
 clear HR0 HC0 HS0
 cases hb1:hasK 3 s
 ·skip
  go_wp2_with fail
  refine(has_any HS1.out hL 4).mono ?_
  rintro _ w2 ⟨rfl,hx⟩
  have HR2:=hid (HR1.out.ext hx)
  have HC2:=hid (HC1.out.ext hx)
  have HS2:=hid (HS1.out.ext hx)
  clear hx
  clear HR1 HC1 HS1
  cases hb2:hasK 4 s
  ·skip
   go_wp2_with fail
   refine(accept_any HS2.out hL kNULL).mono ?_
   rintro _ w3 ⟨v,rfl,h1,h2,rfl⟩
   have HS3:=hid h1
   have HR3:=hid (h2.blk HR2.out (by have:=HG.out;omega))
   have HC3:=hid (HC2.out.trans h2)
   clear h1 h2
   clear HR2 HC2 HS2
   cases hb3:isS kNULL s
   ·have e:(accP kNULL s).2=s:=by simp[accP,hb3]
    rw[e]at HS3
    clear e
    go_wp2_with fail
    refine(accept_any HS3.out hL kLENGTH).mono ?_
    rintro _ w4 ⟨v,rfl,h1,h2,rfl⟩
    have HS4:=hid h1
    have HR4:=hid (h2.blk HR3.out (by have:=HG.out;omega))
    have HC4:=hid (HC3.out.trans h2)
    clear h1 h2
    clear HR3 HC3 HS3
    cases hb4:isS kLENGTH s
    ·have e:(accP kLENGTH s).2=s:=by simp[accP,hb4]
     rw[e]at HS4
     clear e
     go_wp2_with fail
     refine(accept_any HS4.out hL yLp).mono ?_
     rintro _ w5 ⟨v,rfl,h1,h2,rfl⟩
     have HS5:=hid h1
     have HR5:=hid (h2.blk HR4.out (by have:=HG.out;omega))
     have HC5:=hid (HC4.out.trans h2)
     clear h1 h2
     clear HR4 HC4 HS4
     cases hb5:isS yLp s
     ·have e:(accP yLp s).2=s:=by simp[accP,hb5]
      rw[e]at HS5
      clear e
      go_wp2_with fail
      refine(column_tok HS5.out hL).mono ?_
      rintro _ w6 ⟨v,rfl,h1,h2,A1,k1,c1,rfl,h3⟩
      have HS6:=hid h1
      have HR6:=hid (h2.blk HR5.out (by have:=HG.out;omega))
      have HC6:=hid (HC5.out.trans h2)
      obtain⟨e1,he1⟩:∃e,(colP s).1=e:=⟨_,rfl⟩
      have HV1:=hid he1
      rw[he1]at h3 ⊢
      clear he1
      obtain⟨⟨op,tb,nm,ix,vk,vi,vt⟩,ks⟩:=e1
      unfold Nd.val
      simp only[Ex.d]
      have HX1_6:Hid (Stb (g0+1≤·) w6 fun w'=>ExV w' (.mk ⟨op,tb,nm,ix,vk,vi,vt⟩ ks) A1 k1 c1):=h3.weak fun q _ hq=>Nat.le_trans HR5.out.lt hq
      clear h1 h2 h3
      clear HR5 HC5 HS5
      have HXX:Hid (ExG (g0+1) w6 (.mk ⟨op,tb,nm,ix,vk,vi,vt⟩ ks) (.agg #[.int .i64 op,.string tb,.string nm,.int .i64 ix,.int .i64 vk,.int .i64 vi,.string vt,.slice A1 k1 c1])):=⟨A1,k1,c1,rfl,HX1_6.out⟩
      have HRv:Hid (R.1=(.mk ⟨op,tb,nm,ix,vk,vi,vt⟩ ks)):=by
       rw[HM.out,hb1,hb2,hb3,hb4,hb5]
       exact HV1.out
      have HRs:Hid (R.2=(colP s).2):=by
       rw[HM.out,hb1,hb2,hb3,hb4,hb5]
       rfl
      obtain⟨z0,z1,z2,z3,z4,z5,z6,z7,-⟩:=cls HR6.out
      obtain⟨y0,y1,y2,y3,y4,y5,y6,y7,-⟩:=frz HR6.out
      have hz:=sts_blk HR6.out (eC op tb nm ix vk vi vt A1 k1 c1) rfl
      have HGr:=hid (sts_grown g0 (eC op tb nm ix vk vi vt A1 k1 c1) w6 0)
      simp only[sts]at hz
      have HZ:=hid hz
      clear hz
      go_wp2_with fail
      obtain⟨q0,q1,q2,q3,q4,q5,q6,q7,-⟩:=cls HZ.out
      exact bodyPost_ret (v:= .agg #[.int .i64 op,.string tb,.string nm,.int .i64 ix,.int .i64 vk,.int .i64 vi,.string vt,.slice A1 k1 c1]) (by simp[results,Tryz.results313,go_sem,q0,q1,q2,q3,q4,q5,q6,q7]) rfl ⟨_,rfl,by rw[HRs.out];exact HS6.out.grown HGr.out (fun q hq=>by have:=HG.out;have:=Option.some.inj hq;omega),HC6.out.own HGr.out (fun q hq=>by have:=Option.some.inj hq;rw[HN0.out];omega),by rw[HRv.out,HN0.out];exact fin_ex HXX.out HGr.out (Nat.lt_succ_self _)⟩
     ·have e:(accP yLp s).2=s.next:=by simp[accP,hb5]
      rw[e]at HS5
      clear e
      go_wp2_with fail
      refine(hr _ _ HS5.out (by have:=isS_len hb5;omega)).mono ?_
      rintro _ w6 ⟨v,rfl,h1,h2,A1,k1,c1,rfl,h3⟩
      have HS6:=hid h1
      have HR6:=hid (h2.blk HR5.out (by have:=HG.out;omega))
      have HC6:=hid (HC5.out.trans h2)
      obtain⟨e1,he1⟩:∃e,(rec s.next).1=e:=⟨_,rfl⟩
      have HV1:=hid he1
      rw[he1]at h3 ⊢
      clear he1
      obtain⟨⟨op,tb,nm,ix,vk,vi,vt⟩,ks⟩:=e1
      unfold Nd.val
      simp only[Ex.d]
      have HX1_6:Hid (Stb (g0+1≤·) w6 fun w'=>ExV w' (.mk ⟨op,tb,nm,ix,vk,vi,vt⟩ ks) A1 k1 c1):=h3.weak fun q _ hq=>Nat.le_trans HR5.out.lt hq
      clear h1 h2 h3
      clear HR5 HC5 HS5
      go_upto_region 14 with fail
      have hx:=(Ext.refl w6).alloc (.cells #[.int .i64 op,.string tb,.string nm,.int .i64 ix,.int .i64 vk,.int .i64 vi,.string vt,.slice A1 k1 c1] 37)
      have HR7:=hid (HR6.out.ext hx)
      have HC7:=hid (HC6.out.ext hx)
      have HS7:=hid (HS6.out.ext hx)
      have HX1_7:=hid (Stb.ext HX1_6.out hx)
      have HBv_7:=hid (Blk.of_new w6 37 (eC op tb nm ix vk vi vt A1 k1 c1))
      have HGv:Hid (g0<w6.heap.size):=HR6.out.lt
      clear hx
      clear HR6 HC6 HS6 HX1_6
      generalize w6.alloc (.cells #[.int .i64 op,.string tb,.string nm,.int .i64 ix,.int .i64 vk,.int .i64 vi,.string vt,.slice A1 k1 c1] 37)=w7 at*
      generalize w6.heap.size=gv at*
      go_wp2_with fail
      refine(need_any (HS7.out.ext ((Ext.refl w7).alloc (.cells #[.string yRp] 9))) hL yRp w7.heap.size (by simp[World.cell?_alloc_new])).mono ?_
      rintro _ w8 ⟨v,rfl,h1,h2,_⟩
      replace h2:Chg P w7 w8:=(Chg.of ((Ext.refl w7).alloc (.cells #[.string yRp] 9))).trans h2
      have HS8:=hid h1
      have HR8:=hid (h2.blk HR7.out (by have:=HG.out;omega))
      have HC8:=hid (HC7.out.trans h2)
      have HX1_8:=hid (Stb.chg HX1_7.out h2 (by have:=HG.out;omega))
      have HBv_8:=hid (h2.blk HBv_7.out (by have:=HG.out;have:=HGv.out;omega))
      clear h1 h2
      clear HR7 HC7 HS7 HX1_7 HBv_7
      obtain⟨b0,b1,b2,b3,b4,b5,b6,b7,-⟩:=cls HBv_8.out
      have HXX:Hid (ExG (g0+1) w8 (.mk ⟨op,tb,nm,ix,vk,vi,vt⟩ ks) (.agg #[.int .i64 op,.string tb,.string nm,.int .i64 ix,.int .i64 vk,.int .i64 vi,.string vt,.slice A1 k1 c1])):=⟨A1,k1,c1,rfl,HX1_8.out⟩
      have HRv:Hid (R.1=(.mk ⟨op,tb,nm,ix,vk,vi,vt⟩ ks)):=by
       rw[HM.out,hb1,hb2,hb3,hb4,hb5]
       exact HV1.out
      have HRs:Hid (R.2=(needP yRp (rec s.next).2)):=by
       rw[HM.out,hb1,hb2,hb3,hb4,hb5]
       rfl
      obtain⟨z0,z1,z2,z3,z4,z5,z6,z7,-⟩:=cls HR8.out
      obtain⟨y0,y1,y2,y3,y4,y5,y6,y7,-⟩:=frz HR8.out
      have hz:=sts_blk HR8.out (eC op tb nm ix vk vi vt A1 k1 c1) rfl
      have HGr:=hid (sts_grown g0 (eC op tb nm ix vk vi vt A1 k1 c1) w8 0)
      simp only[sts]at hz
      have HZ:=hid hz
      clear hz
      go_wp2_with fail
      obtain⟨q0,q1,q2,q3,q4,q5,q6,q7,-⟩:=cls HZ.out
      exact bodyPost_ret (v:= .agg #[.int .i64 op,.string tb,.string nm,.int .i64 ix,.int .i64 vk,.int .i64 vi,.string vt,.slice A1 k1 c1]) (by simp[results,Tryz.results313,go_sem,q0,q1,q2,q3,q4,q5,q6,q7]) rfl ⟨_,rfl,by rw[HRs.out];exact HS8.out.grown HGr.out (fun q hq=>by have:=HG.out;have:=Option.some.inj hq;omega),HC8.out.own HGr.out (fun q hq=>by have:=Option.some.inj hq;rw[HN0.out];omega),by rw[HRv.out,HN0.out];exact fin_ex HXX.out HGr.out (Nat.lt_succ_self _)⟩
    ·have e:(accP kLENGTH s).2=s.next:=by simp[accP,hb4]
     rw[e]at HS4
     clear e
     go_wp2_with fail
     refine(need_any (HS4.out.ext ((Ext.refl w4).alloc (.cells #[.string yLp] 9))) hL yLp w4.heap.size (by simp[World.cell?_alloc_new])).mono ?_
     rintro _ w5 ⟨v,rfl,h1,h2,_⟩
     replace h2:Chg P w4 w5:=(Chg.of ((Ext.refl w4).alloc (.cells #[.string yLp] 9))).trans h2
     have HS5:=hid h1
     have HR5:=hid (h2.blk HR4.out (by have:=HG.out;omega))
     have HC5:=hid (HC4.out.trans h2)
     clear h1 h2
     clear HR4 HC4 HS4
     go_wp2_with fail
     refine(hr _ _ HS5.out (by have:=need_len yLp s.next;have:=isS_len hb4;omega)).mono ?_
     rintro _ w6 ⟨v,rfl,h1,h2,A1,k1,c1,rfl,h3⟩
     have HS6:=hid h1
     have HR6:=hid (h2.blk HR5.out (by have:=HG.out;omega))
     have HC6:=hid (HC5.out.trans h2)
     obtain⟨e1,he1⟩:∃e,(rec (needP yLp s.next)).1=e:=⟨_,rfl⟩
     have HV1:=hid he1
     rw[he1]at h3 ⊢
     clear he1
     obtain⟨⟨op,tb,nm,ix,vk,vi,vt⟩,ks⟩:=e1
     unfold Nd.val
     simp only[Ex.d]
     have HX1_6:Hid (Stb (g0+1≤·) w6 fun w'=>ExV w' (.mk ⟨op,tb,nm,ix,vk,vi,vt⟩ ks) A1 k1 c1):=h3.weak fun q _ hq=>Nat.le_trans HR5.out.lt hq
     clear h1 h2 h3
     clear HR5 HC5 HS5
     go_wp2_with fail
     refine(op_any _ _ _ _ _).mono ?_
     rintro _ w7 ⟨rfl,hx⟩
     have hx2:Ext w6 w7:=((Ext.refl w6).alloc (.cells #[.int .i64 op,.string tb,.string nm,.int .i64 ix,.int .i64 vk,.int .i64 vi,.string vt,.slice A1 k1 c1] 37)).trans hx
     have HR7:=hid (HR6.out.ext hx2)
     have HC7:=hid (HC6.out.ext hx2)
     have HS7:=hid (HS6.out.ext hx2)
     have HX1_7:=hid (Stb.ext HX1_6.out hx2)
     have HO_7:=hid ((exG_op1 (n:=g0+1) (T:=37) (o:=9) (by unfold I64;omega) HR6.out.lt HX1_6.out).ext hx)
     clear hx hx2
     clear HR6 HC6 HS6 HX1_6
     have HOV:Hid (ExG (g0+1) w7 (opE 9 [(.mk ⟨op,tb,nm,ix,vk,vi,vt⟩ ks)]) (.agg #[.int .i64 9,.string ⟨#[]⟩,.string ⟨#[]⟩,.int .i64 0,.int .i64 0,.int .i64 0,.string ⟨#[]⟩,.slice (some ⟨w6.heap.size,0,none⟩) 1 1])):=HO_7.out
     obtain⟨A9,k9,c9,hv9,h9⟩:=HOV.out
     have e9:=hv9
     unfold Nd.val at e9
     simp only[opE,Ex.d,Value.agg.injEq,Array.mk.injEq,List.cons.injEq,Value.slice.injEq,true_and,and_true]at e9
     obtain⟨e90,e91,e92⟩:=e9
     subst e90 e91 e92
     have HXO_7:=hid h9
     clear h9 hv9 HOV
     go_upto_region 10 with fail
     have hx:=(Ext.refl w7).alloc (.cells #[.int .i64 9,.string ⟨#[]⟩,.string ⟨#[]⟩,.int .i64 0,.int .i64 0,.int .i64 0,.string ⟨#[]⟩,.slice (some ⟨w6.heap.size,0,none⟩) 1 1] 37)
     have HR8:=hid (HR7.out.ext hx)
     have HC8:=hid (HC7.out.ext hx)
     have HS8:=hid (HS7.out.ext hx)
     have HXO_8:=hid (Stb.ext HXO_7.out hx)
     have HBv_8:=hid (Blk.of_new w7 37 (eC 9 ⟨#[]⟩ ⟨#[]⟩ 0 0 0 ⟨#[]⟩ (some ⟨w6.heap.size,0,none⟩) 1 1))
     have HGv:Hid (g0<w7.heap.size):=HR7.out.lt
     clear hx
     clear HR7 HC7 HS7 HXO_7
     generalize w7.alloc (.cells #[.int .i64 9,.string ⟨#[]⟩,.string ⟨#[]⟩,.int .i64 0,.int .i64 0,.int .i64 0,.string ⟨#[]⟩,.slice (some ⟨w6.heap.size,0,none⟩) 1 1] 37)=w8 at*
     generalize w7.heap.size=gv at*
     go_wp2_with fail
     refine(need_any (HS8.out.ext ((Ext.refl w8).alloc (.cells #[.string yRp] 9))) hL yRp w8.heap.size (by simp[World.cell?_alloc_new])).mono ?_
     rintro _ w9 ⟨v,rfl,h1,h2,_⟩
     replace h2:Chg P w8 w9:=(Chg.of ((Ext.refl w8).alloc (.cells #[.string yRp] 9))).trans h2
     have HS9:=hid h1
     have HR9:=hid (h2.blk HR8.out (by have:=HG.out;omega))
     have HC9:=hid (HC8.out.trans h2)
     have HXO_9:=hid (Stb.chg HXO_8.out h2 (by have:=HG.out;omega))
     have HBv_9:=hid (h2.blk HBv_8.out (by have:=HG.out;have:=HGv.out;omega))
     clear h1 h2
     clear HR8 HC8 HS8 HXO_8 HBv_8
     obtain⟨b0,b1,b2,b3,b4,b5,b6,b7,-⟩:=cls HBv_9.out
     have HXX:Hid (ExG (g0+1) w9 (opE 9 [(.mk ⟨op,tb,nm,ix,vk,vi,vt⟩ ks)]) (.agg #[.int .i64 9,.string ⟨#[]⟩,.string ⟨#[]⟩,.int .i64 0,.int .i64 0,.int .i64 0,.string ⟨#[]⟩,.slice (some ⟨w6.heap.size,0,none⟩) 1 1])):=⟨_,_,_,rfl,HXO_9.out⟩
     have HRv:Hid (R.1=(opE 9 [(.mk ⟨op,tb,nm,ix,vk,vi,vt⟩ ks)])):=by
      rw[HM.out,hb1,hb2,hb3,hb4]
      exact congrArg (fun x=>opE 9 [x]) HV1.out
     have HRs:Hid (R.2=(needP yRp (rec (needP yLp s.next)).2)):=by
      rw[HM.out,hb1,hb2,hb3,hb4]
      rfl
     obtain⟨z0,z1,z2,z3,z4,z5,z6,z7,-⟩:=cls HR9.out
     obtain⟨y0,y1,y2,y3,y4,y5,y6,y7,-⟩:=frz HR9.out
     have hz:=sts_blk HR9.out (eC 9 ⟨#[]⟩ ⟨#[]⟩ 0 0 0 ⟨#[]⟩ (some ⟨w6.heap.size,0,none⟩) 1 1) rfl
     have HGr:=hid (sts_grown g0 (eC 9 ⟨#[]⟩ ⟨#[]⟩ 0 0 0 ⟨#[]⟩ (some ⟨w6.heap.size,0,none⟩) 1 1) w9 0)
     simp only[sts]at hz
     have HZ:=hid hz
     clear hz
     go_wp2_with fail
     obtain⟨q0,q1,q2,q3,q4,q5,q6,q7,-⟩:=cls HZ.out
     exact bodyPost_ret (v:= .agg #[.int .i64 9,.string ⟨#[]⟩,.string ⟨#[]⟩,.int .i64 0,.int .i64 0,.int .i64 0,.string ⟨#[]⟩,.slice (some ⟨w6.heap.size,0,none⟩) 1 1]) (by simp[results,Tryz.results313,go_sem,q0,q1,q2,q3,q4,q5,q6,q7]) rfl ⟨_,rfl,by rw[HRs.out];exact HS9.out.grown HGr.out (fun q hq=>by have:=HG.out;have:=Option.some.inj hq;omega),HC9.out.own HGr.out (fun q hq=>by have:=Option.some.inj hq;rw[HN0.out];omega),by rw[HRv.out,HN0.out];exact fin_ex HXX.out HGr.out (Nat.lt_succ_self _)⟩
   ·have e:(accP kNULL s).2=s.next:=by simp[accP,hb3]
    rw[e]at HS3
    clear e
    go_wp2_with fail
    refine(lit_val 0 0 ⟨#[]⟩ _).mono ?_
    rintro _ w4 ⟨rfl,hx⟩
    have hx2:=hx
    have HR4:=hid (HR3.out.ext hx2)
    have HC4:=hid (HC3.out.ext hx2)
    have HS4:=hid (HS3.out.ext hx2)
    clear hx hx2
    clear HR3 HC3 HS3
    have HXX:Hid (ExG (g0+1) w4 (litE 0 0 ⟨#[]⟩) (.agg #[.int .i64 1,.string ⟨#[]⟩,.string ⟨#[]⟩,.int .i64 0,.int .i64 0,.int .i64 0,.string ⟨#[]⟩,.slice none 0 0])):=exG_lit _ _ i64_0 i64_0 (Nat.zero_le _)
    have HRv:Hid (R.1=(litE 0 0 ⟨#[]⟩)):=by
     rw[HM.out,hb1,hb2,hb3]
     rfl
    have HRs:Hid (R.2=s.next):=by
     rw[HM.out,hb1,hb2,hb3]
     rfl
    obtain⟨z0,z1,z2,z3,z4,z5,z6,z7,-⟩:=cls HR4.out
    obtain⟨y0,y1,y2,y3,y4,y5,y6,y7,-⟩:=frz HR4.out
    have hz:=sts_blk HR4.out (eC 1 ⟨#[]⟩ ⟨#[]⟩ 0 0 0 ⟨#[]⟩ none 0 0) rfl
    have HGr:=hid (sts_grown g0 (eC 1 ⟨#[]⟩ ⟨#[]⟩ 0 0 0 ⟨#[]⟩ none 0 0) w4 0)
    simp only[sts]at hz
    have HZ:=hid hz
    clear hz
    go_wp2_with fail
    obtain⟨q0,q1,q2,q3,q4,q5,q6,q7,-⟩:=cls HZ.out
    exact bodyPost_ret (v:= .agg #[.int .i64 1,.string ⟨#[]⟩,.string ⟨#[]⟩,.int .i64 0,.int .i64 0,.int .i64 0,.string ⟨#[]⟩,.slice none 0 0]) (by simp[results,Tryz.results313,go_sem,q0,q1,q2,q3,q4,q5,q6,q7]) rfl ⟨_,rfl,by rw[HRs.out];exact HS4.out.grown HGr.out (fun q hq=>by have:=HG.out;have:=Option.some.inj hq;omega),HC4.out.own HGr.out (fun q hq=>by have:=Option.some.inj hq;rw[HN0.out];omega),by rw[HRv.out,HN0.out];exact fin_ex HXX.out HGr.out (Nat.lt_succ_self _)⟩
  ·skip
   go_wp2_with fail
   refine(take_any HS2.out hL 4 (by decide)).mono ?_
   rintro _ w3 ⟨v,rfl,h1,h2,rfl⟩
   have HS3:=hid h1
   have HR3:=hid (h2.blk HR2.out (by have:=HG.out;omega))
   have HC3:=hid (HC2.out.trans h2)
   clear h1 h2
   clear HR2 HC2 HS2
   go_wp2_with fail
   refine(lit_val 2 0 (takP 4 s).1 _).mono ?_
   rintro _ w4 ⟨rfl,hx⟩
   have hx2:=hx
   have HR4:=hid (HR3.out.ext hx2)
   have HC4:=hid (HC3.out.ext hx2)
   have HS4:=hid (HS3.out.ext hx2)
   clear hx hx2
   clear HR3 HC3 HS3
   have HXX:Hid (ExG (g0+1) w4 (litE 2 0 (takP 4 s).1) (.agg #[.int .i64 1,.string ⟨#[]⟩,.string ⟨#[]⟩,.int .i64 0,.int .i64 2,.int .i64 0,.string (takP 4 s).1,.slice none 0 0])):=exG_lit _ _ i64_2 i64_0 (by have:=HTl.out;omega)
   have HRv:Hid (R.1=(litE 2 0 (takP 4 s).1)):=by
    rw[HM.out,hb1,hb2]
    rfl
   have HRs:Hid (R.2=(takP 4 s).2):=by
    rw[HM.out,hb1,hb2]
    rfl
   obtain⟨z0,z1,z2,z3,z4,z5,z6,z7,-⟩:=cls HR4.out
   obtain⟨y0,y1,y2,y3,y4,y5,y6,y7,-⟩:=frz HR4.out
   have hz:=sts_blk HR4.out [.int .i64 1,.string ⟨#[]⟩,.string ⟨#[]⟩,.int .i64 0,.int .i64 2,.int .i64 0,.string (takP 4 s).1,.slice none 0 0] rfl
   have HGr:=hid (sts_grown g0 [.int .i64 1,.string ⟨#[]⟩,.string ⟨#[]⟩,.int .i64 0,.int .i64 2,.int .i64 0,.string (takP 4 s).1,.slice none 0 0] w4 0)
   simp only[sts]at hz
   have HZ:=hid hz
   clear hz
   go_wp2_with fail
   obtain⟨q0,q1,q2,q3,q4,q5,q6,q7,-⟩:=cls HZ.out
   exact bodyPost_ret (v:= .agg #[.int .i64 1,.string ⟨#[]⟩,.string ⟨#[]⟩,.int .i64 0,.int .i64 2,.int .i64 0,.string (takP 4 s).1,.slice none 0 0]) (by simp[results,Tryz.results313,go_sem,q0,q1,q2,q3,q4,q5,q6,q7]) rfl ⟨_,rfl,by rw[HRs.out];exact HS4.out.grown HGr.out (fun q hq=>by have:=HG.out;have:=Option.some.inj hq;omega),HC4.out.own HGr.out (fun q hq=>by have:=Option.some.inj hq;rw[HN0.out];omega),by rw[HRv.out,HN0.out];exact fin_ex HXX.out HGr.out (Nat.lt_succ_self _)⟩
 ·skip
  go_wp2_with fail
  refine(number_tok HS1.out hL hE).mono ?_
  rintro _ w2 ⟨v,rfl,h1,h2,rfl⟩
  have HS2:=hid h1
  have HR2:=hid (h2.blk HR1.out (by have:=HG.out;omega))
  have HC2:=hid (HC1.out.trans h2)
  clear h1 h2
  clear HR1 HC1 HS1
  go_wp2_with fail
  refine(lit_val 1 (numP s).1 ⟨#[]⟩ _).mono ?_
  rintro _ w3 ⟨rfl,hx⟩
  have hx2:=hx
  have HR3:=hid (HR2.out.ext hx2)
  have HC3:=hid (HC2.out.ext hx2)
  have HS3:=hid (HS2.out.ext hx2)
  clear hx hx2
  clear HR2 HC2 HS2
  have HXX:Hid (ExG (g0+1) w3 (litE 1 (numP s).1 ⟨#[]⟩) (.agg #[.int .i64 1,.string ⟨#[]⟩,.string ⟨#[]⟩,.int .i64 0,.int .i64 1,.int .i64 (numP s).1,.string ⟨#[]⟩,.slice none 0 0])):=exG_lit _ _ i64_1 (by have:=HNl.out;unfold I64;omega) (Nat.zero_le _)
  have HRv:Hid (R.1=(litE 1 (numP s).1 ⟨#[]⟩)):=by
   rw[HM.out,hb1]
   rfl
  have HRs:Hid (R.2=(numP s).2):=by
   rw[HM.out,hb1]
   rfl
  obtain⟨z0,z1,z2,z3,z4,z5,z6,z7,-⟩:=cls HR3.out
  obtain⟨y0,y1,y2,y3,y4,y5,y6,y7,-⟩:=frz HR3.out
  have hz:=sts_blk HR3.out [.int .i64 1,.string ⟨#[]⟩,.string ⟨#[]⟩,.int .i64 0,.int .i64 1,.int .i64 (numP s).1,.string ⟨#[]⟩,.slice none 0 0] rfl
  have HGr:=hid (sts_grown g0 [.int .i64 1,.string ⟨#[]⟩,.string ⟨#[]⟩,.int .i64 0,.int .i64 1,.int .i64 (numP s).1,.string ⟨#[]⟩,.slice none 0 0] w3 0)
  simp only[sts]at hz
  have HZ:=hid hz
  clear hz
  go_wp2_with fail
  obtain⟨q0,q1,q2,q3,q4,q5,q6,q7,-⟩:=cls HZ.out
  exact bodyPost_ret (v:= .agg #[.int .i64 1,.string ⟨#[]⟩,.string ⟨#[]⟩,.int .i64 0,.int .i64 1,.int .i64 (numP s).1,.string ⟨#[]⟩,.slice none 0 0]) (by simp[results,Tryz.results313,go_sem,q0,q1,q2,q3,q4,q5,q6,q7]) rfl ⟨_,rfl,by rw[HRs.out];exact HS3.out.grown HGr.out (fun q hq=>by have:=HG.out;have:=Option.some.inj hq;omega),HC3.out.own HGr.out (fun q hq=>by have:=Option.some.inj hq;rw[HN0.out];omega),by rw[HRv.out,HN0.out];exact fin_ex HXX.out HGr.out (Nat.lt_succ_self _)⟩
theorem prim_rd {n:Nat} {rec:M Ex} (hE:Er w0) (hL:TkL L) (hr:Rdr 68 P A c L w0 n 39 rec):Rdr 68 P A c L w0 (n+1) 313 (primP rec):=fun W st hp h=>prim_rd1 hE hr h hp hL
end
end
end Go.Proofs.YtjigcpfjhfoheaaGreatDoor
