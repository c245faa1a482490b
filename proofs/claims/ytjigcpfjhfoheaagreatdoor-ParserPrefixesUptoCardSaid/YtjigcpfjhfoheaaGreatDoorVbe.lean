/- Walks: lists; Walks: unary, product, sum, and, expr, not; Walk: primary; Walk: a test; Expressions: the parser reads them as exprP does. -/
import Derived.Test.YtjigcpfjhfoheaaGreatDoorVbd
namespace Go.Proofs.YtjigcpfjhfoheaaGreatDoor
open Go.RowKit List Go.Proofs.Tryz
set_option maxHeartbeats 4000000
set_option maxRecDepth 100000
set_option linter.unusedVariables false
set_option linter.unusedSimpArgs false
section
open Lx (Tk)
def Phiex (a:Ex) (cs:LV) (w:World):Prop:=∃B k c,cs=a.d.cells B k c∧ExV w a B k c
def nS (a:BA) (cs:LV) (w:World):Prop:=cs= [.string a]∧a.size≤9223372036854775807
def gW (a:List Ex) (cs:LV) (w:World):Prop:=∃B k,cs= [.slice B a.length k]∧a.length≤9223372036854775807∧KidsAt w B a
def gX (a:Asg) (cs:LV) (w:World):Prop:=∃B k c,cs= .string a.cl:: i4 a.ix::a.ex.d.cells B k c∧(a.cl.size≤9223372036854775807∧I64 a.ix)∧ExV w a.ex B k c
def bA (a:Itm) (cs:LV) (w:World):Prop:=∃B k c,cs= i4 a.ag::a.ex.d.cells B k c∧I64 a.ag∧ExV w a.ex B k c
def fv (a:Ord') (cs:LV) (w:World):Prop:=cs= [i4 a.it,.bool a.ds]∧I64 a.it
theorem elg_ex {n:Nat} {w:World} {a:Ex} {v:Value} (h:ExG n w a v):ElG Phiex 8 n w a v:=by
 obtain⟨B,k,c,rfl,h⟩:=h
 exact⟨a.d.cells B k c,rfl,⟨rfl,by simp[Nd.cells,Value.oneCell']⟩,h.imp fun u h=>⟨B,k,c,rfl,h⟩⟩
section
variable {P c:Nat} {A:OA} {L:List Tk} {w0 w:World} {s:Ps}
theorem list_ex (F:FuncId) (Z:jV F) (el:M Ex) (a:Fwd el) (J:PsAt 68 P A c L w0 w s) (Q:TkL L)
  (O:∀(W:World) (st:Ps),PsAt 68 P A c L w0 W st→st.r.length≤s.r.length→Cl F #[.pointer (some ⟨P,0,none⟩)] W (Ran 68 P A c L w0 W (el st).2 fun v Y=>ElG Phiex 8 W.heap.size Y (el st).1 v)):
  Cl 101 #[.pointer (some ⟨P,0,none⟩),.func (Fn.func F) #[.pointer (some ⟨P,0,none⟩)] #[]] w
   (Ran 68 P A c L w0 w (listP el s).2 fun v w'=> ∃B k,v= .slice B (listP el s).1.length k∧(listP el s).1.length≤k∧Stb (w.heap.size≤·) w' (fun u=>Lst Phiex 8 u B (listP el s).1)):=by
 unfold jV at Z
 have E:=En.start J
 have G:=a s
 have ad:=J.le
 have ac:=Q.len
 have K:Hid (listP el s=listGo el (s.r.length+1) [(el s).1] (el s).2):=rfl
 obtain⟨R,U⟩:∃R,listP el s=R:=⟨_,rfl⟩
 rw[U]at K ⊢
 clear U J
 go_enter func101,ntmps101
 go_upto_region 2 with (first|(refine E.rdg (O _ _ E.ps (Nat.le_refl _)) fun v cs u o b C E=>?_)|(refine bsG ap_ex rfl rfl _ o b ?_))
 replace E:=hid ((E.row1 (e:=37) b).imp fun u h=>Els.one b h.2)
 clear o C G
 generalize hw:World.alloc _ _=w2 at*
 clear hw
 go_loopw [5,10] (fun vv _ wr=> ∃(m:Nat) (st:Ps) (l:List Ex) (t:LV),st.r.length<m∧l.length+st.r.length≤s.r.length+1∧R=listGo el m l st∧En 68 P A c L w0 w wr st [ow w.heap.size 37 8 vv l.length t] (Els Phiex 8 l t)) (fun _ _ wr=>20001-posOf P wr)
 case atStart=>exact⟨_,_,_,cs,by have:=a s;omega,by have:=a s;show 1+_≤_;omega,K,E⟩
 case round=>
  clear E b
  obtain⟨m,st,l,t,hm,ag,D,E⟩:=hrel
  obtain⟨m,rfl⟩:∃x,m=x+1:=⟨m-1,by omega⟩
  rw[listGo]at D
  have n:=hid D
  have y:=hid E.ps.posOf
  have X:=E.ps.le
  clear D
  go_wp2_with (first|(refine E.tk Q yCm rfl (fun g u E=>?_) (fun g u E=>?_))|(refine E.rdg (O _ _ E.ps (by have:=au g;omega)) fun v cs u o b C E=>?_)|(refine bsG ap_ex rfl rfl _ o b ?_)|(at_builtin;refine E.ap (el st.next).1 ap_ex (j:=0) rfl rfl rfl rfl rfl rfl b C (by omega) fun l2 A2 c2 u I E=>?_))
  ·rw[g]at n
   have an:=au g
   have V:=a st.next
   have z:=E.ps.posOf
   obtain rfl:=I.out
   exact⟨⟨m,_,_,t++cs,by omega,by simp;omega,n,E.imp fun u h=>Els.snoc h.1 b h.2⟩,by rw[z,y.out];omega⟩
  ·rw[g]at n
   have f:R=(l,st):=n.out
   obtain⟨B,k,p,H⟩:∃B k,u5= .slice B l.length k∧l.length≤k:=by
    obtain⟨B,k,p,H,_⟩:=Els.lst E.stb.now (E.own (j:=0) rfl)
    exact⟨B,k,p,H⟩
   go_ret
   exact⟨_,rfl,by rw[f];exact E.ps,E.chg,by
    rw[f]
    exact⟨B,k,p,H,E.all.imp fun u h=>by
     obtain⟨B',k',i,_,I⟩:=Els.lst h.1 (h.2 _ (mem_cons_self ..))
     rw[p]at i
     injection i with e
     rw[e]
     exact I⟩⟩
theorem list_str (F:FuncId) (Z:jV F) (el:M BA) (a:Fwd el) (J:PsAt 68 P A c L w0 w s) (Q:TkL L)
  (O:∀(W:World) (st:Ps),PsAt 68 P A c L w0 W st→st.r.length≤s.r.length→Cl F #[.pointer (some ⟨P,0,none⟩)] W (Ran 68 P A c L w0 W (el st).2 fun v Y=>ElG nS 1 W.heap.size Y (el st).1 v)):
  Cl 232 #[.pointer (some ⟨P,0,none⟩),.func (Fn.func F) #[.pointer (some ⟨P,0,none⟩)] #[]] w
   (Ran 68 P A c L w0 w (listP el s).2 fun v w'=> ∃B k,v= .slice B (listP el s).1.length k∧(listP el s).1.length≤k∧Stb (w.heap.size≤·) w' (fun u=>Lst nS 1 u B (listP el s).1)):=by
 unfold jV at Z
 have E:=En.start J
 have G:=a s
 have ad:=J.le
 have ac:=Q.len
 have K:Hid (listP el s=listGo el (s.r.length+1) [(el s).1] (el s).2):=rfl
 obtain⟨R,U⟩:∃R,listP el s=R:=⟨_,rfl⟩
 rw[U]at K ⊢
 clear U J
 go_enter func232,ntmps232
 go_upto_region 2 with (first|(refine E.rdg (O _ _ E.ps (Nat.le_refl _)) fun v cs u o b C E=>?_)|(refine bsG ap_str rfl rfl _ o b ?_))
 replace E:=hid ((E.row1 (e:=9) b).imp fun u h=>Els.one b h.2)
 clear o C G
 generalize hw:World.alloc _ _=w2 at*
 clear hw
 go_loopw [5,10] (fun vv _ wr=> ∃(m:Nat) (st:Ps) (l:List BA) (t:LV),st.r.length<m∧l.length+st.r.length≤s.r.length+1∧R=listGo el m l st∧En 68 P A c L w0 w wr st [ow w.heap.size 9 1 vv l.length t] (Els nS 1 l t)) (fun _ _ wr=>20001-posOf P wr)
 case atStart=>exact⟨_,_,_,cs,by have:=a s;omega,by have:=a s;show 1+_≤_;omega,K,E⟩
 case round=>
  clear E b
  obtain⟨m,st,l,t,hm,ag,D,E⟩:=hrel
  obtain⟨m,rfl⟩:∃x,m=x+1:=⟨m-1,by omega⟩
  rw[listGo]at D
  have n:=hid D
  have y:=hid E.ps.posOf
  have X:=E.ps.le
  clear D
  go_wp2_with (first|(refine E.tk Q yCm rfl (fun g u E=>?_) (fun g u E=>?_))|(refine E.rdg (O _ _ E.ps (by have:=au g;omega)) fun v cs u o b C E=>?_)|(refine bsG ap_str rfl rfl _ o b ?_)|(at_builtin;refine E.ap (el st.next).1 ap_str (j:=0) rfl rfl rfl rfl rfl rfl b C (by omega) fun l2 A2 c2 u I E=>?_))
  ·rw[g]at n
   have an:=au g
   have V:=a st.next
   have z:=E.ps.posOf
   obtain rfl:=I.out
   exact⟨⟨m,_,_,t++cs,by omega,by simp;omega,n,E.imp fun u h=>Els.snoc h.1 b h.2⟩,by rw[z,y.out];omega⟩
  ·rw[g]at n
   have f:R=(l,st):=n.out
   obtain⟨B,k,p,H⟩:∃B k,u5= .slice B l.length k∧l.length≤k:=by
    obtain⟨B,k,p,H,_⟩:=Els.lst E.stb.now (E.own (j:=0) rfl)
    exact⟨B,k,p,H⟩
   go_ret
   exact⟨_,rfl,by rw[f];exact E.ps,E.chg,by
    rw[f]
    exact⟨B,k,p,H,E.all.imp fun u h=>by
     obtain⟨B',k',i,_,I⟩:=Els.lst h.1 (h.2 _ (mem_cons_self ..))
     rw[p]at i
     injection i with e
     rw[e]
     exact I⟩⟩
theorem list_row (F:FuncId) (Z:jV F) (el:M (List Ex)) (a:Fwd el) (J:PsAt 68 P A c L w0 w s) (Q:TkL L)
  (O:∀(W:World) (st:Ps),PsAt 68 P A c L w0 W st→st.r.length≤s.r.length→Cl F #[.pointer (some ⟨P,0,none⟩)] W (Ran 68 P A c L w0 W (el st).2 fun v Y=>ElG gW 1 W.heap.size Y (el st).1 v)):
  Cl 56 #[.pointer (some ⟨P,0,none⟩),.func (Fn.func F) #[.pointer (some ⟨P,0,none⟩)] #[]] w
   (Ran 68 P A c L w0 w (listP el s).2 fun v w'=> ∃B k,v= .slice B (listP el s).1.length k∧(listP el s).1.length≤k∧Stb (w.heap.size≤·) w' (fun u=>Lst gW 1 u B (listP el s).1)):=by
 unfold jV at Z
 have E:=En.start J
 have G:=a s
 have ad:=J.le
 have ac:=Q.len
 have K:Hid (listP el s=listGo el (s.r.length+1) [(el s).1] (el s).2):=rfl
 obtain⟨R,U⟩:∃R,listP el s=R:=⟨_,rfl⟩
 rw[U]at K ⊢
 clear U J
 go_enter func56,ntmps56
 go_upto_region 2 with (first|(refine E.rdg (O _ _ E.ps (Nat.le_refl _)) fun v cs u o b C E=>?_)|(refine bsG ap_row rfl rfl _ o b ?_))
 replace E:=hid ((E.row1 (e:=27) b).imp fun u h=>Els.one b h.2)
 clear o C G
 generalize hw:World.alloc _ _=w2 at*
 clear hw
 go_loopw [5,10] (fun vv _ wr=> ∃(m:Nat) (st:Ps) (l:List (List Ex)) (t:LV),st.r.length<m∧l.length+st.r.length≤s.r.length+1∧R=listGo el m l st∧En 68 P A c L w0 w wr st [ow w.heap.size 27 1 vv l.length t] (Els gW 1 l t)) (fun _ _ wr=>20001-posOf P wr)
 case atStart=>exact⟨_,_,_,cs,by have:=a s;omega,by have:=a s;show 1+_≤_;omega,K,E⟩
 case round=>
  clear E b
  obtain⟨m,st,l,t,hm,ag,D,E⟩:=hrel
  obtain⟨m,rfl⟩:∃x,m=x+1:=⟨m-1,by omega⟩
  rw[listGo]at D
  have n:=hid D
  have y:=hid E.ps.posOf
  have X:=E.ps.le
  clear D
  go_wp2_with (first|(refine E.tk Q yCm rfl (fun g u E=>?_) (fun g u E=>?_))|(refine E.rdg (O _ _ E.ps (by have:=au g;omega)) fun v cs u o b C E=>?_)|(refine bsG ap_row rfl rfl _ o b ?_)|(at_builtin;refine E.ap (el st.next).1 ap_row (j:=0) rfl rfl rfl rfl rfl rfl b C (by omega) fun l2 A2 c2 u I E=>?_))
  ·rw[g]at n
   have an:=au g
   have V:=a st.next
   have z:=E.ps.posOf
   obtain rfl:=I.out
   exact⟨⟨m,_,_,t++cs,by omega,by simp;omega,n,E.imp fun u h=>Els.snoc h.1 b h.2⟩,by rw[z,y.out];omega⟩
  ·rw[g]at n
   have f:R=(l,st):=n.out
   obtain⟨B,k,p,H⟩:∃B k,u5= .slice B l.length k∧l.length≤k:=by
    obtain⟨B,k,p,H,_⟩:=Els.lst E.stb.now (E.own (j:=0) rfl)
    exact⟨B,k,p,H⟩
   go_ret
   exact⟨_,rfl,by rw[f];exact E.ps,E.chg,by
    rw[f]
    exact⟨B,k,p,H,E.all.imp fun u h=>by
     obtain⟨B',k',i,_,I⟩:=Els.lst h.1 (h.2 _ (mem_cons_self ..))
     rw[p]at i
     injection i with e
     rw[e]
     exact I⟩⟩
theorem list_asg (F:FuncId) (Z:jV F) (el:M Asg) (a:Fwd el) (J:PsAt 68 P A c L w0 w s) (Q:TkL L)
  (O:∀(W:World) (st:Ps),PsAt 68 P A c L w0 W st→st.r.length≤s.r.length→Cl F #[.pointer (some ⟨P,0,none⟩)] W (Ran 68 P A c L w0 W (el st).2 fun v Y=>ElG gX 10 W.heap.size Y (el st).1 v)):
  Cl 58 #[.pointer (some ⟨P,0,none⟩),.func (Fn.func F) #[.pointer (some ⟨P,0,none⟩)] #[]] w
   (Ran 68 P A c L w0 w (listP el s).2 fun v w'=> ∃B k,v= .slice B (listP el s).1.length k∧(listP el s).1.length≤k∧Stb (w.heap.size≤·) w' (fun u=>Lst gX 10 u B (listP el s).1)):=by
 unfold jV at Z
 have E:=En.start J
 have G:=a s
 have ad:=J.le
 have ac:=Q.len
 have K:Hid (listP el s=listGo el (s.r.length+1) [(el s).1] (el s).2):=rfl
 obtain⟨R,U⟩:∃R,listP el s=R:=⟨_,rfl⟩
 rw[U]at K ⊢
 clear U J
 go_enter func58,ntmps58
 go_upto_region 2 with (first|(refine E.rdg (O _ _ E.ps (Nat.le_refl _)) fun v cs u o b C E=>?_)|(refine bsG ap_asg rfl rfl _ o b ?_))
 replace E:=hid ((E.row1 (e:=82) b).imp fun u h=>Els.one b h.2)
 clear o C G
 generalize hw:World.alloc _ _=w2 at*
 clear hw
 go_loopw [5,10] (fun vv _ wr=> ∃(m:Nat) (st:Ps) (l:List Asg) (t:LV),st.r.length<m∧l.length+st.r.length≤s.r.length+1∧R=listGo el m l st∧En 68 P A c L w0 w wr st [ow w.heap.size 82 10 vv l.length t] (Els gX 10 l t)) (fun _ _ wr=>20001-posOf P wr)
 case atStart=>exact⟨_,_,_,cs,by have:=a s;omega,by have:=a s;show 1+_≤_;omega,K,E⟩
 case round=>
  clear E b
  obtain⟨m,st,l,t,hm,ag,D,E⟩:=hrel
  obtain⟨m,rfl⟩:∃x,m=x+1:=⟨m-1,by omega⟩
  rw[listGo]at D
  have n:=hid D
  have y:=hid E.ps.posOf
  have X:=E.ps.le
  clear D
  go_wp2_with (first|(refine E.tk Q yCm rfl (fun g u E=>?_) (fun g u E=>?_))|(refine E.rdg (O _ _ E.ps (by have:=au g;omega)) fun v cs u o b C E=>?_)|(refine bsG ap_asg rfl rfl _ o b ?_)|(at_builtin;refine E.ap (el st.next).1 ap_asg (j:=0) rfl rfl rfl rfl rfl rfl b C (by omega) fun l2 A2 c2 u I E=>?_))
  ·rw[g]at n
   have an:=au g
   have V:=a st.next
   have z:=E.ps.posOf
   obtain rfl:=I.out
   exact⟨⟨m,_,_,t++cs,by omega,by simp;omega,n,E.imp fun u h=>Els.snoc h.1 b h.2⟩,by rw[z,y.out];omega⟩
  ·rw[g]at n
   have f:R=(l,st):=n.out
   obtain⟨B,k,p,H⟩:∃B k,u5= .slice B l.length k∧l.length≤k:=by
    obtain⟨B,k,p,H,_⟩:=Els.lst E.stb.now (E.own (j:=0) rfl)
    exact⟨B,k,p,H⟩
   go_ret
   exact⟨_,rfl,by rw[f];exact E.ps,E.chg,by
    rw[f]
    exact⟨B,k,p,H,E.all.imp fun u h=>by
     obtain⟨B',k',i,_,I⟩:=Els.lst h.1 (h.2 _ (mem_cons_self ..))
     rw[p]at i
     injection i with e
     rw[e]
     exact I⟩⟩
theorem list_itm (F:FuncId) (Z:jV F) (el:M Itm) (a:Fwd el) (J:PsAt 68 P A c L w0 w s) (Q:TkL L)
  (O:∀(W:World) (st:Ps),PsAt 68 P A c L w0 W st→st.r.length≤s.r.length→Cl F #[.pointer (some ⟨P,0,none⟩)] W (Ran 68 P A c L w0 W (el st).2 fun v Y=>ElG bA 9 W.heap.size Y (el st).1 v)):
  Cl 102 #[.pointer (some ⟨P,0,none⟩),.func (Fn.func F) #[.pointer (some ⟨P,0,none⟩)] #[]] w
   (Ran 68 P A c L w0 w (listP el s).2 fun v w'=> ∃B k,v= .slice B (listP el s).1.length k∧(listP el s).1.length≤k∧Stb (w.heap.size≤·) w' (fun u=>Lst bA 9 u B (listP el s).1)):=by
 unfold jV at Z
 have E:=En.start J
 have G:=a s
 have ad:=J.le
 have ac:=Q.len
 have K:Hid (listP el s=listGo el (s.r.length+1) [(el s).1] (el s).2):=rfl
 obtain⟨R,U⟩:∃R,listP el s=R:=⟨_,rfl⟩
 rw[U]at K ⊢
 clear U J
 go_enter func102,ntmps102
 go_upto_region 2 with (first|(refine E.rdg (O _ _ E.ps (Nat.le_refl _)) fun v cs u o b C E=>?_)|(refine bsG ap_itm rfl rfl _ o b ?_))
 replace E:=hid ((E.row1 (e:=84) b).imp fun u h=>Els.one b h.2)
 clear o C G
 generalize hw:World.alloc _ _=w2 at*
 clear hw
 go_loopw [5,10] (fun vv _ wr=> ∃(m:Nat) (st:Ps) (l:List Itm) (t:LV),st.r.length<m∧l.length+st.r.length≤s.r.length+1∧R=listGo el m l st∧En 68 P A c L w0 w wr st [ow w.heap.size 84 9 vv l.length t] (Els bA 9 l t)) (fun _ _ wr=>20001-posOf P wr)
 case atStart=>exact⟨_,_,_,cs,by have:=a s;omega,by have:=a s;show 1+_≤_;omega,K,E⟩
 case round=>
  clear E b
  obtain⟨m,st,l,t,hm,ag,D,E⟩:=hrel
  obtain⟨m,rfl⟩:∃x,m=x+1:=⟨m-1,by omega⟩
  rw[listGo]at D
  have n:=hid D
  have y:=hid E.ps.posOf
  have X:=E.ps.le
  clear D
  go_wp2_with (first|(refine E.tk Q yCm rfl (fun g u E=>?_) (fun g u E=>?_))|(refine E.rdg (O _ _ E.ps (by have:=au g;omega)) fun v cs u o b C E=>?_)|(refine bsG ap_itm rfl rfl _ o b ?_)|(at_builtin;refine E.ap (el st.next).1 ap_itm (j:=0) rfl rfl rfl rfl rfl rfl b C (by omega) fun l2 A2 c2 u I E=>?_))
  ·rw[g]at n
   have an:=au g
   have V:=a st.next
   have z:=E.ps.posOf
   obtain rfl:=I.out
   exact⟨⟨m,_,_,t++cs,by omega,by simp;omega,n,E.imp fun u h=>Els.snoc h.1 b h.2⟩,by rw[z,y.out];omega⟩
  ·rw[g]at n
   have f:R=(l,st):=n.out
   obtain⟨B,k,p,H⟩:∃B k,u5= .slice B l.length k∧l.length≤k:=by
    obtain⟨B,k,p,H,_⟩:=Els.lst E.stb.now (E.own (j:=0) rfl)
    exact⟨B,k,p,H⟩
   go_ret
   exact⟨_,rfl,by rw[f];exact E.ps,E.chg,by
    rw[f]
    exact⟨B,k,p,H,E.all.imp fun u h=>by
     obtain⟨B',k',i,_,I⟩:=Els.lst h.1 (h.2 _ (mem_cons_self ..))
     rw[p]at i
     injection i with e
     rw[e]
     exact I⟩⟩
theorem list_ord (F:FuncId) (Z:jV F) (el:M Ord') (a:Fwd el) (J:PsAt 68 P A c L w0 w s) (Q:TkL L)
  (O:∀(W:World) (st:Ps),PsAt 68 P A c L w0 W st→st.r.length≤s.r.length→Cl F #[.pointer (some ⟨P,0,none⟩)] W (Ran 68 P A c L w0 W (el st).2 fun v Y=>ElG fv 2 W.heap.size Y (el st).1 v)):
  Cl 107 #[.pointer (some ⟨P,0,none⟩),.func (Fn.func F) #[.pointer (some ⟨P,0,none⟩)] #[]] w
   (Ran 68 P A c L w0 w (listP el s).2 fun v w'=> ∃B k,v= .slice B (listP el s).1.length k∧(listP el s).1.length≤k∧Stb (w.heap.size≤·) w' (fun u=>Lst fv 2 u B (listP el s).1)):=by
 unfold jV at Z
 have E:=En.start J
 have G:=a s
 have ad:=J.le
 have ac:=Q.len
 have K:Hid (listP el s=listGo el (s.r.length+1) [(el s).1] (el s).2):=rfl
 obtain⟨R,U⟩:∃R,listP el s=R:=⟨_,rfl⟩
 rw[U]at K ⊢
 clear U J
 go_enter func107,ntmps107
 go_upto_region 2 with (first|(refine E.rdg (O _ _ E.ps (Nat.le_refl _)) fun v cs u o b C E=>?_)|(refine bsG ap_ord rfl rfl _ o b ?_))
 replace E:=hid ((E.row1 (e:=88) b).imp fun u h=>Els.one b h.2)
 clear o C G
 generalize hw:World.alloc _ _=w2 at*
 clear hw
 go_loopw [5,10] (fun vv _ wr=> ∃(m:Nat) (st:Ps) (l:List Ord') (t:LV),st.r.length<m∧l.length+st.r.length≤s.r.length+1∧R=listGo el m l st∧En 68 P A c L w0 w wr st [ow w.heap.size 88 2 vv l.length t] (Els fv 2 l t)) (fun _ _ wr=>20001-posOf P wr)
 case atStart=>exact⟨_,_,_,cs,by have:=a s;omega,by have:=a s;show 1+_≤_;omega,K,E⟩
 case round=>
  clear E b
  obtain⟨m,st,l,t,hm,ag,D,E⟩:=hrel
  obtain⟨m,rfl⟩:∃x,m=x+1:=⟨m-1,by omega⟩
  rw[listGo]at D
  have n:=hid D
  have y:=hid E.ps.posOf
  have X:=E.ps.le
  clear D
  go_wp2_with (first|(refine E.tk Q yCm rfl (fun g u E=>?_) (fun g u E=>?_))|(refine E.rdg (O _ _ E.ps (by have:=au g;omega)) fun v cs u o b C E=>?_)|(refine bsG ap_ord rfl rfl _ o b ?_)|(at_builtin;refine E.ap (el st.next).1 ap_ord (j:=0) rfl rfl rfl rfl rfl rfl b C (by omega) fun l2 A2 c2 u I E=>?_))
  ·rw[g]at n
   have an:=au g
   have V:=a st.next
   have z:=E.ps.posOf
   obtain rfl:=I.out
   exact⟨⟨m,_,_,t++cs,by omega,by simp;omega,n,E.imp fun u h=>Els.snoc h.1 b h.2⟩,by rw[z,y.out];omega⟩
  ·rw[g]at n
   have f:R=(l,st):=n.out
   obtain⟨B,k,p,H⟩:∃B k,u5= .slice B l.length k∧l.length≤k:=by
    obtain⟨B,k,p,H,_⟩:=Els.lst E.stb.now (E.own (j:=0) rfl)
    exact⟨B,k,p,H⟩
   go_ret
   exact⟨_,rfl,by rw[f];exact E.ps,E.chg,by
    rw[f]
    exact⟨B,k,p,H,E.all.imp fun u h=>by
     obtain⟨B',k',i,_,I⟩:=Els.lst h.1 (h.2 _ (mem_cons_self ..))
     rw[p]at i
     injection i with e
     rw[e]
     exact I⟩⟩
end
end
section
open Lx (Tk)
section
variable {P c:Nat} {A:OA} {L:List Tk} {w0 w:World} {s:Ps}
theorem En.chn {f:World} {V:List Vb} {Φ:World→Prop} {Q:Ending→World→Prop} {F:FuncId} {n:Nat} {el:M Ex} {ops:List (BA×Int)} (E:En 68 P A c L w0 f w s V Φ) (g:jV F) (b:Fwd el) (j:ops.length≤100) (a:∀x∈ops,I64 x.2) (i:TkL L) (l:Rdr 68 P A c L w0 n F el) (m:s.r.length<n)
  (k:∀B k c' w',En 68 P A c L w0 f w' (chainP el ops s).2 V (fun u=>Φ u∧ExV u (chainP el ops s).1 B k c')→Q (.returned (.agg ((chainP el ops s).1.d.cells B k c').toArray)) w'):
  Cl 77 #[.pointer (some ⟨P,0,none⟩),.func (Fn.func F) #[.pointer (some ⟨P,0,none⟩)] #[],.slice (some ⟨w.heap.size,0,none⟩) ops.length ops.length] (w.alloc (.cells (symCs ops).toArray 120)) Q:=by
 have e:=E.ext (x10 w (.cells (symCs ops).toArray 120))
 exact e.rdx (chain_any F g el b ops j a w.heap.size (Blk.of_new w 120 (symCs ops)) (by have:=E.ps.lt;omega) e.ps i fun W st h hs=>l W st h (by omega)) k
theorem unary_rd {n:Nat} {p:M Ex} (b:Rdr 68 P A c L w0 n 313 p) (i:s.r.length<n) (f:PsAt 68 P A c L w0 w s) (e:TkL L):
  Cl 297 #[.pointer (some ⟨P,0,none⟩)] w (Ran 68 P A c L w0 w (unaP p s).2 fun v w'=>ExG w.heap.size w' (unaP p s).1 v):=by
 have E:=En.start f
 go_enter func297,ntmps297
 go_wp2_with (first|(refine E.al rfl _ rfl rfl (cs:=zE) (t:=37) (by kernel_rfl) fun g w E=>?_)|(refine E.tk e dJ rfl (fun h w E=>?_) (fun h w E=>?_))|(refine E.rd (F:=313) b (by have:=au h;omega) fun y s B k c w a E=>?_)|(refine E.rd (F:=313) b (by omega) fun y s B k c w a E=>?_)|(refine bs1 rfl rfl _ _ _ _ rfl ?_)|(refine E.o1 rfl rfl (fun u h=>h.2) (by unfold I64;omega) fun D w E=>?_)|(refine E.sv (j:=0) rfl rfl rfl rfl rfl rfl rfl rfl (by kernel_rfl) fun w E=>?_))
 ·rw[unaP,if_pos h,a]
  exact E.fin (j:=0) rfl rfl rfl rfl fun u h=>h.2
 ·rw[unaP,if_neg (by rw[h];simp),a]
  exact E.fin (j:=0) rfl rfl rfl rfl fun u h=>h.2
theorem wY {n:Nat} {p:M Ex} (a:Fwd p) (i:Rdr 68 P A c L w0 n 297 (unaP p)) (e:s.r.length<n) (f:PsAt 68 P A c L w0 w s) (b:TkL L):
  Cl 278 #[.pointer (some ⟨P,0,none⟩)] w (Ran 68 P A c L w0 w (nr p s).2 fun v w'=>ExG w.heap.size w' (nr p s).1 v):=by
 have E:=En.start f
 go_enter func278,ntmps278
 go_wp2_with (first|(refine E.al rfl _ rfl rfl (cs:=zE) (t:=37) (by kernel_rfl) fun g w E=>?_)|(refine E.chn (F:=297) (ops:=opsPro) (fun _ _=>by kernel_rfl) (fU a) (by decide) (by unfold I64;decide) b i e fun B k c w E=>?_)|(refine E.sv (j:=0) rfl rfl rfl rfl rfl rfl rfl rfl (by kernel_rfl) fun w E=>?_))
 exact E.fin (j:=0) rfl rfl rfl rfl fun u h=>h.2
theorem sum_rd {n:Nat} {p:M Ex} (a:Fwd p) (i:Rdr 68 P A c L w0 n 278 (nr p)) (e:s.r.length<n) (f:PsAt 68 P A c L w0 w s) (b:TkL L):
  Cl 258 #[.pointer (some ⟨P,0,none⟩)] w (Ran 68 P A c L w0 w (sumP p s).2 fun v w'=>ExG w.heap.size w' (sumP p s).1 v):=by
 have E:=En.start f
 go_enter func258,ntmps258
 go_wp2_with (first|(refine E.al rfl _ rfl rfl (cs:=zE) (t:=37) (by kernel_rfl) fun g w E=>?_)|(refine E.chn (F:=278) (ops:=opsSum) (fun _ _=>by kernel_rfl) (ey (fU a) _) (by decide) (by unfold I64;decide) b i e fun B k c w E=>?_)|(refine E.sv (j:=0) rfl rfl rfl rfl rfl rfl rfl rfl (by kernel_rfl) fun w E=>?_))
 exact E.fin (j:=0) rfl rfl rfl rfl fun u h=>h.2
theorem and_rd {n:Nat} {p:M Ex} (a:Fwd p) (i:Rdr 68 P A c L w0 n 152 (notP p)) (e:s.r.length<n) (f:PsAt 68 P A c L w0 w s) (b:TkL L):
  Cl 78 #[.pointer (some ⟨P,0,none⟩)] w (Ran 68 P A c L w0 w (andP p s).2 fun v w'=>ExG w.heap.size w' (andP p s).1 v):=by
 have E:=En.start f
 go_enter func78,ntmps78
 go_wp2_with (first|(refine E.al rfl _ rfl rfl (cs:=zE) (t:=37) (by kernel_rfl) fun g w E=>?_)|(refine E.chn (F:=152) (ops:=opsAnd) (fun _ _=>by kernel_rfl) (fun s=>iI a _ s) (by decide) (by unfold I64;decide) b i e fun B k c w E=>?_)|(refine E.sv (j:=0) rfl rfl rfl rfl rfl rfl rfl rfl (by kernel_rfl) fun w E=>?_))
 exact E.fin (j:=0) rfl rfl rfl rfl fun u h=>h.2
theorem expr_rd {n:Nat} {p:M Ex} (a:Fwd p) (i:Rdr 68 P A c L w0 n 78 (andP p)) (e:s.r.length<n) (f:PsAt 68 P A c L w0 w s) (b:TkL L):
  Cl 39 #[.pointer (some ⟨P,0,none⟩)] w (Ran 68 P A c L w0 w (orP p s).2 fun v w'=>ExG w.heap.size w' (orP p s).1 v):=by
 have E:=En.start f
 go_enter func39,ntmps39
 go_wp2_with (first|(refine E.al rfl _ rfl rfl (cs:=zE) (t:=37) (by kernel_rfl) fun g w E=>?_)|(refine E.chn (F:=78) (ops:=opsOr) (fun _ _=>by kernel_rfl) (mf a) (by decide) (by unfold I64;decide) b i e fun B k c w E=>?_)|(refine E.sv (j:=0) rfl rfl rfl rfl rfl rfl rfl rfl (by kernel_rfl) fun w E=>?_))
 exact E.fin (j:=0) rfl rfl rfl rfl fun u h=>h.2
theorem not_eq (p:M Ex) (s:Ps):notP p s=if isS kNOT s=true then (opE 20 [(notP p s.next).1],(notP p s.next).2)else testP p s:=by
 unfold notP
 cases hs:isS kNOT s
 ·cases s.r.length with
  |zero=>rfl
  |succ k=>rw[notGo,hs];rfl
 ·have a:=au hs
  rw[←a,notGo,hs]
theorem not_rd1 {n N:Nat} {p:M Ex} (i:Rdr 68 P A c L w0 N 220 (testP p)) (f:Rdr 68 P A c L w0 n 152 (notP p)) (m:s.r.length<n+1) (l:s.r.length<N) (e:PsAt 68 P A c L w0 w s) (b:TkL L):
  Cl 152 #[.pointer (some ⟨P,0,none⟩)] w (Ran 68 P A c L w0 w (notP p s).2 fun v w'=>ExG w.heap.size w' (notP p s).1 v):=by
 have E:=En.start e
 go_enter func152,ntmps152
 go_wp2_with (first|(refine E.al rfl _ rfl rfl (cs:=zE) (t:=37) (by kernel_rfl) fun g w E=>?_)|(refine E.tk b kNOT rfl (fun h w E=>?_) (fun h w E=>?_))|(refine E.rd (F:=152) f (by have:=au h;omega) fun y s B k c w a E=>?_)|(refine E.rd (F:=220) i (by omega) fun y s B k c w a E=>?_)|(refine bs1 rfl rfl _ _ _ _ rfl ?_)|(refine E.o1 rfl rfl (fun u h=>h.2) (by unfold I64;omega) fun D w E=>?_)|(refine E.sv (j:=0) rfl rfl rfl rfl rfl rfl rfl rfl (by kernel_rfl) fun w E=>?_))
 ·rw[not_eq,if_pos h,a]
  exact E.fin (j:=0) rfl rfl rfl rfl fun u h=>h.2
 ·rw[not_eq,if_neg (by rw[h];simp),a]
  exact E.fin (j:=0) rfl rfl rfl rfl fun u h=>h.2
theorem not_rd {N:Nat} {p:M Ex} (b:Rdr 68 P A c L w0 N 220 (testP p)) (a:TkL L):∀n,n≤N→Rdr 68 P A c L w0 n 152 (notP p)
 |0,_=>fun _ _ _ h=>absurd h (Nat.not_lt_zero _)
 |n+1,hn=>fun W st e h=>not_rd1 b (not_rd b a n (by omega)) h (by omega) e a
end
end
section
open Lx (Tk)
section
variable {P c:Nat} {A:OA} {L:List Tk} {w0 w:World} {s:Ps}
theorem prim_rd1 {n:Nat} {e:M Ex} (F:Er w0) (G:Rdr 68 P A c L w0 n 39 e) (H:s.r.length<n+1) (p:PsAt 68 P A c L w0 w s) (a:TkL L):
  Cl 313 #[.pointer (some ⟨P,0,none⟩)] w (Ran 68 P A c L w0 w (aG e s).2 fun v w'=>ExG w.heap.size w' (aG e s).1 v):=by
 have E:=En.start p
 have o:=hid (p.num_le a)
 have x:=hid (p.tak_size a 4)
 go_enter func313,ntmps313
 go_wp2_with (first|(refine E.al rfl _ rfl rfl (cs:=zE) (t:=37) (by kernel_rfl) fun g w E=>?_)|(go_at_call 43;refine E.hs a 3 rfl (fun b w E=>?_) (fun b w E=>?_))|(go_at_call 43;refine E.hs a 4 rfl (fun f w E=>?_) (fun f w E=>?_))|(go_at_call 53;refine E.tk a kNULL rfl (fun i w E=>?_) (fun i w E=>?_))|(go_at_call 53;refine E.tk a iZ rfl (fun l w E=>?_) (fun l w E=>?_))|(go_at_call 53;refine E.tk a yLp rfl (fun m w E=>?_) (fun m w E=>?_))|(go_at_call 178;refine E.run (fu E.ps a F) fun v w z E=>?_;subst z)|(go_at_call 100;refine E.run (mr E.ps a 4 (by decide)) fun v w z E=>?_;subst z)|(go_at_call 260;refine E.lit (by unfold I64;omega) (by unfold I64;first|omega|(have:=o.out;omega)) (by first|exact Nat.zero_le _|(have:=x.out;omega)) fun w E=>?_)|(go_at_call 44;refine E.nd a yLp rfl rfl fun v w E=>?_)|(go_at_call 44;refine E.nd a yRp rfl rfl fun v w E=>?_)|(go_at_call 39;refine E.rd G (by first|(have:=au l;have:=aA yLp s.next;omega)|(have:=au m;omega)) fun y s B k c w C E=>?_)|(go_at_call 106;refine E.rdx (pT E.ps a) fun B k c w E=>?_)|(refine bs1 rfl rfl _ _ _ _ rfl ?_)|(go_at_call 105;refine E.o1 rfl rfl (fun u h=>h.2) (by unfold I64;omega) fun D w E=>?_)|(refine ldE rfl rfl _ rfl (E.get (j:=0) rfl) rfl ?_)|(refine E.sv (j:=0) rfl rfl rfl rfl rfl rfl rfl rfl (by kernel_rfl) fun w E=>?_)|(refine E.sv (j:=1) rfl rfl rfl rfl rfl rfl rfl rfl (by kernel_rfl) fun w E=>?_))
 ·exact E.done (by unfold aG;rw[if_pos b]) (j:=0) rfl rfl rfl rfl fun u h=>h.2
 ·exact E.done (by unfold aG;rw[if_neg (by rw[b];simp),if_pos f]) (j:=0) rfl rfl rfl rfl fun u h=>h.2
 ·exact E.done (by unfold aG;rw[if_neg (by rw[b];simp),if_neg (by rw[f];simp),if_pos i]) (j:=0) rfl rfl rfl rfl fun u h=>h.2
 ·exact E.done (by unfold aG;rw[if_neg (by rw[b];simp),if_neg (by rw[f];simp),if_neg (by rw[i];simp),if_pos l,C]) (j:=1) rfl rfl rfl rfl fun u h=>h.2
 ·exact E.done (by unfold aG;rw[if_neg (by rw[b];simp),if_neg (by rw[f];simp),if_neg (by rw[i];simp),if_neg (by rw[l];simp),if_pos m,C]) (j:=1) rfl rfl rfl rfl fun u h=>h.2
 ·exact E.done (by unfold aG;rw[if_neg (by rw[b];simp),if_neg (by rw[f];simp),if_neg (by rw[i];simp),if_neg (by rw[l];simp),if_neg (by rw[m];simp)]) (j:=0) rfl rfl rfl rfl fun u h=>h.2
theorem prim_rd {n:Nat} {a:M Ex} (b:Er w0) (e:TkL L) (g:Rdr 68 P A c L w0 n 39 a):Rdr 68 P A c L w0 (n+1) 313 (aG a):=fun W st f h=>prim_rd1 b g h f e
end
end
section
open Lx (Tk)
theorem cmps_any (W:World):Cl 259 #[] W fun e w'=> ∃g,e= .returned (.slice (some ⟨g,0,none⟩) 6 6)∧W.heap.size≤g∧Blk w' g 120 (symCs opsCmp)∧Ext W w':=by
 go_enter func259,ntmps259
 go_wp2_with fail
 go_ret
 exact⟨W.heap.size,rfl,Nat.le_refl _,Blk.of_new W 120 (symCs opsCmp),x10 W _⟩
section
variable {P c:Nat} {A:OA} {L:List Tk} {w0 w:World} {s:Ps}
theorem PsAt.same {T:Nat} (h:PsAt T P A c L w0 w s):PsAt T P A c L w0 (w.setCell ⟨P,2,none⟩ (.bool s.bad)) s:=
 ⟨h.base.setCell h.low _,h.low,h.blk.set 2 (.bool s.bad),h.suf,h.ne,fun i a o=>by
  obtain⟨g,f,j,k,l,m,n⟩:=h.tks i a o
  have e:=(Chg.refl P w).set 2 (.bool s.bad)
  have b:g≠P:=by omega
  exact⟨g,f,j,k,e.keep l b,e.keep m b,e.keep n b⟩⟩
theorem En.cmps {a:World} {V:List Vb} {Φ:World→Prop} {Q:Ending→World→Prop} (E:En 68 P A c L w0 a w s V Φ) (k:∀g w',En 68 P A c L w0 a w' s (bk g 120 (symCs opsCmp)::V) Φ→Q (.returned (.slice (some ⟨g,0,none⟩) 6 6)) w'):Cl 259 #[] w Q:=
 (cmps_any w).mono fun e w' ⟨g,h,f,b,i⟩=>by rw[h];exact k g w' (E.addb i b f)
theorem test_rd1 {n:Nat} {p:M Ex} (bv:Fwd p) (hr:Rdr 68 P A c L w0 n 258 (sumP p)) (hn:s.r.length<n) (hp:PsAt 68 P A c L w0 w s) (K:TkL L):
  Cl 220 #[.pointer (some ⟨P,0,none⟩)] w (Ran 68 P A c L w0 w (testP p s).2 fun v w'=>ExG w.heap.size w' (testP p s).1 v):=by
 have HM:Hid (testP p s=tailP (sumP p) (sumP p s).1 (sumP p s).2):=rfl
 obtain⟨R,hR⟩:∃R,testP p s=R:=⟨_,rfl⟩
 rw[hR]at HM ⊢
 have E:=En.start hp
 have Q:=ii bv s
 clear hR hp
 go_enter func220,ntmps220
 go_upto_region 1 with (refine E.al rfl _ rfl rfl (cs:=zE) (t:=37) (by kernel_rfl) fun g0 u E=>?_)
 go_upto_region 2 with (first|(refine E.al rfl _ rfl rfl (cs:=zE) (t:=37) (by kernel_rfl) fun g1 u E=>?_)|(go_at_call 258;refine E.rd hr (hn) fun a e Z k1 c1 u b E=>?_;rw[b]at HM Q)|(refine E.sv (j:=0) rfl rfl rfl rfl rfl rfl rfl rfl (by kernel_rfl) fun u E=>?_))
 replace E:=hid (E.imp fun u h=>h.2)
 replace Q:=hid Q
 go_wp2_with (go_at_call 259;refine E.cmps fun gs u E=>?_)
 replace E:=hid E
 replace E:Hid (En 68 P A c L w0 w _ e [bk gs 120 (symCs opsCmp),bk g1 37 (a.d.cells Z k1 c1),bk g0 37 zE] (fun u=>ExV u a Z k1 c1)):=E
 go_wp2_with fail
 go_loopw [5,13] (fun _ iv wr=> ∃k:Nat,k≤6∧iv= i4 k∧firstP opsCmp e=firstP (opsCmp.drop k) e∧En 68 P A c L w0 w wr e [bk gs 120 (symCs opsCmp),bk g1 37 (a.d.cells Z k1 c1),bk g0 37 zE] (fun u=>ExV u a Z k1 c1)) (fun _ iv _=>6- (intOf iv).toNat)
 case atStart=>exact⟨0,by omega,rfl,rfl,E⟩
 case round=>
  clear E
  obtain⟨k,hk,rfl,G,E⟩:=hrel
  replace E:=hid E
  generalize wr=df at*
  by_cases cp:k<6
  ·obtain⟨⟨t,q⟩,l⟩:∃x,opsCmp[k]? =some x:=⟨_,getElem?_eq_getElem (by show k<6;exact cp)⟩
   have ci:opsCmp.drop k=(t,q)::opsCmp.drop (k+1):=by
    obtain⟨I,J⟩:=List.getElem?_eq_some_iff.1 l
    rw[drop_eq_getElem_cons I,J]
   rw[ci,firstP]at G
   have HO:Hid (I64 q):=by
    have c5:∀x∈opsCmp,I64 x.2:=by unfold I64;decide
    exact c5 _ (mem_of_getElem? l)
   obtain⟨e0,e1⟩:=kM opsCmp k (t,q) l
   have s0:=(E.get (j:=0) rfl).cell_some e0
   have c9:=(E.get (j:=0) rfl).cell_some e1
   have i0:(0:Int)≤(k:Int):=by omega
   have i1:(k:Int)<6:=by omega
   clear ci l e0 e1
   replace G:=hid G
   go_upto_region 5 with fail
   generalize hw:World.alloc _ _=dw
   replace E:=hid (dq (cs:= [.string t,i4 q]) E hw)
   obtain⟨gy,cl⟩:∃x,df.heap.size=x:=⟨_,rfl⟩
   rw[cl]at E ⊢
   clear hw cl s0 c9
   obtain⟨t0,t1,_⟩:_∧_∧True:=⟨(E.get (j:=0) rfl).cell_some (i:=0) rfl,(E.get (j:=0) rfl).cell_some (i:=1) rfl,trivial⟩
   go_wp2_with (go_at_call 53;refine E.tk K t rfl (fun hb u E=>?_) (fun hb u E=>?_))
   ·have ck:firstP opsCmp e=(some q,e.next):=by rw[G.out,if_pos hb]
    have C:=au hb
    replace E:=hid E
    obtain⟨H,F,f,hc⟩:=hr.at_ (E.ext (Ext.refl u).drew).ps (by have:=Q.out;omega)
    obtain rfl:R=(opE q [a,H],F):=by
     rw[HM.out,tailP,ck]
     simp only
     rw[f]
    replace hc:=hid hc
    clear t0 f ck G HM
    replace t1:=(E.get (j:=0) rfl).cell_some (i:=1) rfl
    obtain⟨b0,b1,b2,b3,b4,b5,b6,b7⟩:=aL (E.get (j:=2) rfl)
    replace E:=hid (E.ext (Ext.refl u).drew)
    go_region_law (first
     |(go_simp;go_at_call 105;(with_reducible refine(gR q _ _ _ _).mono ?_);rintro _ u4 ⟨rfl,l⟩;replace E:=hid (E.op2 (o:=q) (fun u h=>h.1) (fun u h=>h.2) (HO) l);obtain⟨z0,z1,z2,z3,z4,z5,z6,z7⟩:=aL (E.get (j:=3) rfl);obtain⟨ax,aS,a8,a9,ba,bd,be,bf⟩:=jU (E.get (j:=3) rfl))
     |(go_simp;go_at_call 258;(with_reducible refine hc.out.mono ?_);rintro _ u3 ⟨B2,k2,c2,rfl,I,J,h3⟩;replace E:=hid (E.calls I J h3);clear I J h3;have d9:=(E.get (j:=0) rfl).cell_some (i:=1) rfl;have e9:=(x10 u3 (.cells #[i4 a.d.op,.string a.d.tb,.string a.d.nm,i4 a.d.ix,i4 a.d.vk,i4 a.d.vi,.string a.d.vt,.slice Z k1 c1,i4 H.d.op,.string H.d.tb,.string H.d.nm,i4 H.d.ix,i4 H.d.vk,i4 H.d.vi,.string H.d.vt,.slice B2 k2 c2] 37)).keep d9;obtain⟨d0,d1,d2,d3,d4,d5,d6,d7⟩:=aL (E.get (j:=2) rfl)))
    all_goals
     replace E:=hid (E.stc (j:=3) rfl ((opE q [a,H]).d.cells (some ⟨u3.heap.size,0,none⟩) 2 2) rfl)
     simp only[opE,Ex.d,Nd.cells,sts]at E
     go_wp2_with fail
     exact En.done (X:=(opE q [a,H],F)) (y:=opE q [a,H]) (B:=some ⟨u3.heap.size,0,none⟩) (n:=2) (c':=2) rfl E (j:=3) rfl rfl rfl rfl fun u h=>h
   ·have O:firstP opsCmp e=firstP (opsCmp.drop (k+1)) e:=by rw[G.out,if_neg (by rw[hb];simp)]
    exact⟨⟨k+1,by omega,by go_num,O,E.pop⟩,by simp[intOf];omega⟩
  ·obtain rfl:k=6:=by omega
   have cj:firstP opsCmp e=(none,e):=G
   have U:R=if isS kIS e=true then (fK (isS kNOT e.next) (opE 17 [a]),needP kNULL (optP kNOT e.next))else if isS oo (optP kNOT e)=true then (fK (isS kNOT e) (opE 16 [a,dF 2 0 (takP 4 (optP kNOT e).next).1]),(takP 4 (optP kNOT e).next).2)else if isS gB (optP kNOT e)=true then (fK (isS kNOT e) (opE 18 [opE 15 [a,(sumP p (optP kNOT e).next).1],opE 13 [a,(sumP p (needP kAND (sumP p (optP kNOT e).next).2)).1]]),(sumP p (needP kAND (sumP p (optP kNOT e).next).2)).2)else if isS kIN (optP kNOT e)=true then (fK (isS kNOT e) (inP (sumP p) a (needP yLp (optP kNOT e).next)).1,needP yRp (inP (sumP p) a (needP yLp (optP kNOT e).next)).2)else (a,if isS kNOT e=true then (optP kNOT e).fail else e):=by rw[HM.out,tailP,cj]
   clear HM G cj cp hk
   replace U:=hid U
   go_upto_region 10 with (refine E.al rfl _ rfl rfl (cs:=zE) (t:=37) (by kernel_rfl) fun ge u E=>?_)
   go_upto_if 30 with (go_at_call 53;refine E.tkb K kIS rfl fun u E=>?_)
   replace E:=hid E
   go_cut [6] from 9 (fun nv wx=> ∃(ng:Bool) (y:Ex) (B:OA) (k c':Nat) (st:Ps),nv= .bool ng∧R=(fK ng y,st)∧En 68 P A c L w0 w wx st [bk ge 37 (y.d.cells B k c'),bk gs 120 (symCs opsCmp),bk g1 37 (a.d.cells Z k1 c1),bk g0 37 zE] (fun u=>ExV u y B k c'))
   case first=>
    cases bn:isS kIS e
    rotate_left
    ·replace E:=E.out
     rw[show optP kIS e=e.next by simp[optP,bn]]at E
     have b:=U.out
     rw[if_pos bn]at b
     replace b:=hid b
     go_wp2_with (first|(go_at_call 53;refine E.tkb K kNOT rfl fun u E=>?_)|(go_at_call 44;refine E.nd K kNULL rfl rfl fun v u E=>?_)|(refine ldE rfl rfl _ rfl (E.get (j:=2) rfl) rfl ?_)|(refine bs1 rfl rfl _ _ _ _ rfl ?_)|(go_at_call 105;refine E.o1 rfl rfl (fun u h=>h) (by unfold I64;omega) fun D u E=>?_)|(refine E.sv (j:=0) rfl rfl rfl rfl rfl rfl rfl rfl (by kernel_rfl) fun u E=>?_))
     go_meet
     exact⟨_,opE 17 [a],_,_,_,_,rfl,b,E.imp fun u h=>h.2⟩
    replace E:=E.out
    rw[show optP kIS e=e by simp[optP,bn]]at E
    have f:=U.out
    rw[if_neg (by rw[bn];simp)]at f
    clear U
    go_upto_region 17 with (go_at_call 53;refine E.tkb K kNOT rfl fun u E=>?_)
    obtain⟨N,hN⟩:∃x,isS kNOT e=x:=⟨_,rfl⟩
    have ag:optP kNOT e=if N then e.next else e:=by rw[←hN];rfl
    have Y:=opt_len kNOT e
    obtain⟨F,cv⟩:∃x,optP kNOT e=x:=⟨_,rfl⟩
    rw[cv]at f E ag Y
    rw[hN]at f ⊢
    replace U:=hid f
    replace Y:=hid Y
    replace ag:=hid ag
    have HN:=hid hN
    clear f cv hN
    replace E:=hid E
    go_wp2_with (go_at_call 53;refine E.tk K oo rfl (fun bw u E=>?_) (fun bw u E=>?_))
    ·have b:=U.out
     rw[if_pos bw]at b
     obtain⟨T,hT⟩:∃x,(takP 4 F.next).1=x:=⟨_,rfl⟩
     obtain⟨s3,cw⟩:∃x,(takP 4 F.next).2=x:=⟨_,rfl⟩
     have cc:Hid (Cl 100 #[.pointer (some ⟨P,0,none⟩),i4 4] u.drew (Ran 68 P A c L w0 u.drew (takP 4 F.next).2 fun v _=>v= .string (takP 4 F.next).1)):=mr (E.ps.ext (Ext.refl u).drew) K 4 (by decide)
     have hz:=hid (E.ps.tak_size K 4)
     rw[hT,cw]at cc b
     rw[hT]at hz
     replace b:=hid b
     clear hT cw
     replace E:=hid E
     obtain⟨b0,b1,b2,b3,b4,b5,b6,b7⟩:=aL (E.get (j:=2) rfl)
     replace E:=hid (E.ext (Ext.refl u).drew)
     go_upto_region 18 with fail
     go_region_law (first
      |(go_simp;go_at_call 105;(with_reducible refine(gR 16 _ _ _ _).mono ?_);rintro _ u5 ⟨rfl,l⟩;replace E:=hid (E.op2 (o:=16) (fun u h=>h) (fun u h=>th (k:=2) (i:=0) (t:=T) lb cy (by have:=hz.out;omega)) (by unfold I64;omega) l);obtain⟨z0,z1,z2,z3,z4,z5,z6,z7⟩:=aL (E.get (j:=0) rfl);obtain⟨ax,aS,a8,a9,ba,bd,be,bf⟩:=jU (E.get (j:=0) rfl))
      |(go_simp;go_at_call 260;(with_reducible refine(lit_val _ _ _ _).mono ?_);rintro _ u4 ⟨rfl,l⟩;replace E:=hid (E.ext l);obtain⟨f0,f1,f2,f3,f4,f5,f6,f7⟩:=aL (E.get (j:=2) rfl))
      |(go_simp;go_at_call 100;(with_reducible refine cc.out.mono ?_);rintro _ u3 ⟨v,rfl,I,J,rfl⟩;replace E:=hid (E.call I J);clear I J;obtain⟨d0,d1,d2,d3,d4,d5,d6,d7⟩:=aL (E.get (j:=2) rfl)))
     all_goals
      replace E:=hid (E.stc (j:=0) rfl ((opE 16 [a,dF 2 0 T]).d.cells (some ⟨u4.heap.size,0,none⟩) 2 2) rfl)
      simp only[opE,Ex.d,Nd.cells,sts]at E
      go_wp2_with fail
      go_meet
      exact⟨N,opE 16 [a,dF 2 0 T],some ⟨u4.heap.size,0,none⟩,2,2,s3,rfl,b,E⟩
    have f:=U.out
    rw[if_neg (by rw[bw];simp)]at f
    replace U:=hid f
    clear f
    replace E:=hid E
    go_wp2_with (go_at_call 53;refine E.tk K gB rfl (fun bm u E=>?_) (fun bm u E=>?_))
    ·have b:=U.out
     rw[if_pos bm]at b
     have C:=au bm
     have O:=ii bv F.next
     go_upto_region 21 with (first|(go_at_call 258;refine E.rd hr (by have:=Q.out;have:=Y.out;omega) fun y4 s4 B4 k4 c4 u c8 E=>?_;rw[c8]at b O)|(refine E.al rfl _ rfl rfl (cs:=zE) (t:=37) (by kernel_rfl) fun g8 u E=>?_)|(refine E.sv (j:=0) rfl rfl rfl rfl rfl rfl rfl rfl (by kernel_rfl) fun u E=>?_))
     go_upto_region 22 with (go_at_call 44;refine E.nd K kAND rfl rfl fun v u E=>?_)
     have b9:=aA kAND s4
     obtain⟨⟨y3,s3⟩,ct⟩:∃x,sumP p (needP kAND s4)=x:=⟨_,rfl⟩
     rw[ct]at b
     replace b:=hid b
     replace E:=hid E
     obtain⟨b0,b1,b2,b3,b4,b5,b6,b7⟩:=aL (E.get (j:=3) rfl)
     obtain⟨q0,q1,q2,q3,q4,q5,q6,q7⟩:=aL (E.get (j:=0) rfl)
     obtain⟨a0,a1,a2,a3,a4,a5,a6,a7⟩:=aL ((E.ext (x10 u (.cells #[i4 a.d.op,.string a.d.tb,.string a.d.nm,i4 a.d.ix,i4 a.d.vk,i4 a.d.vi,.string a.d.vt,.slice Z k1 c1,i4 y4.d.op,.string y4.d.tb,.string y4.d.nm,i4 y4.d.ix,i4 y4.d.vk,i4 y4.d.vi,.string y4.d.vt,.slice B4 k4 c4] 37))).get (j:=3) rfl)
     replace E:=hid (E.ext (Ext.refl u).drew)
     go_region_law (first
      |(go_simp;go_at_call 105;(with_reducible refine(gR 15 _ _ _ _).mono ?_);rintro _ u5 ⟨rfl,l⟩;replace E:=hid (E.op2' (o:=15) (fun u h=>h.1) (fun u h=>h.2) (by unfold I64;omega) l);obtain⟨d0,d1,d2,d3,d4,d5,d6,d7⟩:=aL (E.get (j:=3) rfl))
      |(go_simp;go_at_call 105;(with_reducible refine(gR 13 _ _ _ _).mono ?_);rintro _ u7 ⟨rfl,l⟩;replace E:=hid (E.op2' (o:=13) (fun u h=>h.1.1.1) (fun u h=>h.2) (by unfold I64;omega) l);skip)
      |(go_simp;go_at_call 105;(with_reducible refine(gR 18 _ _ _ _).mono ?_);rintro _ u8 ⟨rfl,l⟩;replace E:=hid (E.op2' (o:=18) (fun u h=>h.1.1.2) (fun u h=>h.2) (by unfold I64;omega) l);obtain⟨z0,z1,z2,z3,z4,z5,z6,z7⟩:=aL (E.get (j:=1) rfl);obtain⟨ax,aS,a8,a9,ba,bd,be,bf⟩:=jU (E.get (j:=1) rfl))
      |(go_simp;go_at_call 258;obtain⟨y5,s5,g,hc⟩:=hr.at_ E.ps (by have:=Q.out;have:=Y.out;omega);cases ct.symm.trans g;(with_reducible refine hc.mono ?_);rintro _ u6 ⟨B3,k3,c3,rfl,I,J,h3⟩;replace E:=hid (E.calls I J h3);clear I J h3 g hc;obtain⟨f0,f1,f2,f3,f4,f5,f6,f7⟩:=aL (E.get (j:=3) rfl)))
     all_goals
      replace E:=hid (E.stc (j:=1) rfl ((opE 18 [opE 15 [a,y4],opE 13 [a,y3]]).d.cells (some ⟨u7.heap.size,0,none⟩) 2 2) rfl)
      simp only[opE,Ex.d,Nd.cells,sts]at E
      go_wp2_with fail
      go_meet
      exact⟨N,opE 18 [opE 15 [a,y4],opE 13 [a,y3]],some ⟨u7.heap.size,0,none⟩,2,2,s3,rfl,b,(E.imp fun u h=>h.2).pop⟩
    have f:=U.out
    rw[if_neg (by rw[bm];simp)]at f
    replace U:=hid f
    clear f
    replace E:=hid E
    go_upto_if 81 with (go_at_call 53;refine E.tkb K kIN rfl fun u E=>?_)
    cases ac:isS kIN F
    rotate_left
    ·rw[show optP kIN F=F.next by simp[optP,ac]]at E
     have b:=U.out
     rw[if_pos ac]at b
     have C:=au ac
     go_upto_region 25 with (go_at_call 44;refine E.nd K yLp rfl rfl fun v u E=>?_)
     have b9:=aA yLp F.next
     obtain⟨s4,cx⟩:∃x,needP yLp F.next=x:=⟨_,rfl⟩
     rw[cx]at b b9 E
     obtain⟨⟨H,s3⟩,f⟩:∃x,sumP p s4=x:=⟨_,rfl⟩
     have O:=ii bv s4
     rw[f]at O
     have z:inP (sumP p) a s4=inGo (sumP p) a (s4.r.length+1) (opE 10 [a,H]) s3:=by unfold inP;rw[f]
     obtain⟨IN,cd⟩:∃x,inP (sumP p) a s4=x:=⟨_,rfl⟩
     rw[cd]at z b
     replace b:=hid b
     replace z:=hid z
     have W:s3.r.length≤s4.r.length∧s4.r.length≤s.r.length:=⟨O,by have:=Q.out;have:=Y.out;omega⟩
     replace W:=hid W
     clear cx cd b9 O C
     replace E:=hid E
     go_cut [6] from 87 to 91 (fun nv wx=>nv= .bool N∧∃D,En 68 P A c L w0 w wx s3 [bk ge 37 ((opE 10 [a,H]).d.cells D 2 2),bk gs 120 (symCs opsCmp),bk g1 37 (a.d.cells Z k1 c1),bk g0 37 zE] (fun u=>ExV u a Z k1 c1∧ExV u (opE 10 [a,H]) D 2 2))
     case first=>
      obtain⟨b0,b1,b2,b3,b4,b5,b6,b7⟩:=aL (E.get (j:=2) rfl)
      replace E:=hid (E.ext (Ext.refl u).drew)
      go_region_law (first
       |(go_simp;go_at_call 105;(with_reducible refine(gR 10 _ _ _ _).mono ?_);rintro _ u4 ⟨rfl,l⟩;replace E:=hid (E.op2' (o:=10) (fun u h=>h.1) (fun u h=>h.2) (by unfold I64;omega) l);obtain⟨z0,z1,z2,z3,z4,z5,z6,z7⟩:=aL (E.get (j:=0) rfl);obtain⟨ax,aS,a8,a9,ba,bd,be,bf⟩:=jU (E.get (j:=0) rfl))
       |(go_simp;go_at_call 258;obtain⟨y5,s5,g,hc⟩:=hr.at_ E.ps (by have:=W.out;omega);cases f.symm.trans g;(with_reducible refine hc.mono ?_);rintro _ u3 ⟨B2,k2,c2,rfl,I,J,h3⟩;replace E:=hid (E.calls I J h3);clear I J h3 g hc;obtain⟨d0,d1,d2,d3,d4,d5,d6,d7⟩:=aL (E.get (j:=2) rfl)))
      all_goals
       replace E:=hid (E.stc (j:=0) rfl ((opE 10 [a,H]).d.cells (some ⟨u3.heap.size,0,none⟩) 2 2) rfl)
       simp only[opE,Ex.d,Nd.cells,sts]at E
       go_wp2_with fail
       go_meet
       exact⟨rfl,_,E.imp fun u h=>⟨h.1.1,h.2⟩⟩
     case rest=>
      obtain⟨rfl,D,E⟩:=hcut
      replace E:=hid E
      generalize wc=dx at*
      go_wp2_with fail
      go_loopw [93] (fun _ wr=> ∃(m:Nat) (y:Ex) (B:OA) (k c':Nat) (st:Ps),st.r.length<m∧st.r.length≤s.r.length∧IN=inGo (sumP p) a m y st∧En 68 P A c L w0 w wr st [bk ge 37 (y.d.cells B k c'),bk gs 120 (symCs opsCmp),bk g1 37 (a.d.cells Z k1 c1),bk g0 37 zE] (fun u=>ExV u a Z k1 c1∧ExV u y B k c')) (fun _ wr=>20001-posOf P wr)
      case atStart=>exact⟨s4.r.length+1,opE 10 [a,H],D,2,2,s3,by have:=W.out;omega,by have:=W.out;omega,z,E⟩
      case round=>
       clear E z W f
       obtain⟨m,y,B,k,c',st,g,cz,z,E⟩:=hrel
       replace z:=hid z
       obtain⟨m,rfl⟩:∃x,m=x+1:=⟨m-1,by omega⟩
       have cb:=hid E.ps.posOf
       have cH:=hid E.ps.le
       have bY:=hid (And.intro g cz)
       clear g cz
       replace E:=hid E
       generalize wr=d8 at*
       go_wp2_with (go_at_call 53;refine E.tk K yCm rfl (fun bo u E=>?_) (fun bo u E=>?_))
       ·have C:=au bo
        have V:=z.out
        obtain⟨⟨y6,s6⟩,bN⟩:∃x,sumP p st.next=x:=⟨_,rfl⟩
        have ad:s6.r.length≤st.next.r.length:=by
         have:=ii bv st.next
         rw[bN]at this
         exact this
        rw[inGo,if_pos bo,bN]at V
        replace V:=hid V
        replace ad:=hid ad
        replace C:=hid C
        replace E:=hid E
        obtain⟨b0,b1,b2,b3,b4,b5,b6,b7⟩:=aL (E.get (j:=2) rfl)
        obtain⟨q0,q1,q2,q3,q4,q5,q6,q7⟩:=aL (E.get (j:=0) rfl)
        replace E:=hid (E.ext (Ext.refl u).drew)
        go_upto_region 27 with fail
        go_region_law (first
         |(go_simp;go_at_call 105;(with_reducible refine(gR 10 _ _ _ _).mono ?_);rintro _ u4 ⟨rfl,l⟩;replace E:=hid (E.op2' (o:=10) (fun u h=>h.1.1) (fun u h=>h.2) (by unfold I64;omega) l);obtain⟨g0,g1,g2,g3,g4,g5,g6,g7⟩:=aL (E.get (j:=0) rfl))
         |(go_simp;go_at_call 105;(with_reducible refine(gR 19 _ _ _ _).mono ?_);rintro _ u5 ⟨rfl,l⟩;replace E:=hid (E.op2' (o:=19) (fun u h=>h.1.1.2) (fun u h=>h.2) (by unfold I64;omega) l);obtain⟨z0,z1,z2,z3,z4,z5,z6,z7⟩:=aL (E.get (j:=0) rfl);obtain⟨ax,aS,a8,a9,ba,bd,be,bf⟩:=jU (E.get (j:=0) rfl))
         |(go_simp;go_at_call 258;obtain⟨y5,s5,g,hc⟩:=hr.at_ E.ps (by have:=bY.out;have:=C.out;omega);cases bN.symm.trans g;(with_reducible refine hc.mono ?_);rintro _ u3 ⟨B6,k6,c6,rfl,I,J,h3⟩;replace E:=hid (E.calls I J h3);clear I J h3 g hc;obtain⟨d0,d1,d2,d3,d4,d5,d6,d7⟩:=aL (E.get (j:=2) rfl);obtain⟨e0,e1,e2,e3,e4,e5,e6,e7⟩:=aL (E.get (j:=0) rfl);obtain⟨f0,f1,f2,f3,f4,f5,f6,f7⟩:=aL ((E.ext (x10 u3 (.cells #[i4 a.d.op,.string a.d.tb,.string a.d.nm,i4 a.d.ix,i4 a.d.vk,i4 a.d.vi,.string a.d.vt,.slice Z k1 c1,i4 y6.d.op,.string y6.d.tb,.string y6.d.nm,i4 y6.d.ix,i4 y6.d.vk,i4 y6.d.vi,.string y6.d.vt,.slice B6 k6 c6] 37))).get (j:=0) rfl)))
        all_goals
         replace E:=hid (E.stc (j:=0) rfl ((opE 19 [y,opE 10 [a,y6]]).d.cells (some ⟨u4.heap.size,0,none⟩) 2 2) rfl)
         simp only[opE,Ex.d,Nd.cells,sts]at E
         have c0:=E.ps.posOf
         have dp:=E.ps.le
         have ds:=K.len
         go_wp2_with fail
         exact⟨⟨m,opE 19 [y,opE 10 [a,y6]],_,2,2,s6,by have:=bY.out;have:=C.out;have:=ad.out;omega,by have:=bY.out;have:=C.out;have:=ad.out;omega,V,E.imp fun u h=>⟨h.1.1.1.1,h.2⟩⟩,by rw[c0,cb.out];have:=C.out;have:=ad.out;have:=cH.out;omega⟩
       have c7:IN=(y,st):=by rw[z.out,inGo,if_neg (by rw[bo];simp)]
       rw[c7]at b
       go_wp2_with (go_at_call 44;refine E.nd K yRp rfl rfl fun v u E=>?_)
       go_meet
       exact⟨N,y,B,k,c',needP yRp st,rfl,b,E.imp fun u h=>h.2⟩
    rw[show optP kIN F=F by simp[optP,ac]]at E
    have hR:=U.out
    rw[if_neg (by rw[ac];simp)]at hR
    clear U
    replace hR:=hid hR
    have p2:=E.ps.blk.cell_some (i:=2) rfl
    have f2:=E.ps.blk.frozen 2
    have EN:=hid E
    clear E
    cases N
    ·obtain rfl:F=e:=ag.out
     obtain rfl:R=(a,F):=hR.out
     have an:=hid (EN.call EN.ps.same ((Chg.refl P u).set 2 _))
     cases bx:F.bad
     all_goals
      rw[bx]at p2 an
      go_upto_region 16 with fail
      have E:=an.out
      go_wp2_with (first|(refine ldE rfl rfl _ rfl (E.get (j:=2) rfl) rfl ?_)|(refine E.sv (j:=3) rfl rfl rfl rfl rfl rfl rfl rfl (by kernel_rfl) fun u E=>?_))
      exact E.done (X:=(a,F)) (y:=a) rfl (j:=3) rfl rfl rfl rfl fun u h=>h
    ·obtain rfl:F=e.next:=ag.out
     obtain rfl:R=(a,e.next.fail):=hR.out
     have bx:e.next.bad=false:=by
      have:=dL HN
      simp[Ps.next,this.1]
     rw[bx]at p2
     have an:=hid EN.fail
     go_upto_region 16 with fail
     have E:=an.out
     go_wp2_with (first|(refine ldE rfl rfl _ rfl (E.get (j:=2) rfl) rfl ?_)|(refine E.sv (j:=3) rfl rfl rfl rfl rfl rfl rfl rfl (by kernel_rfl) fun u E=>?_))
     exact E.done (X:=(a,e.next.fail)) (y:=a) rfl (j:=3) rfl rfl rfl rfl fun u h=>h
   case rest=>
    obtain⟨ng,y,B,k,c',st,rfl,hR,E⟩:=hcut
    generalize wc=eb at*
    cases ng
    ·obtain rfl:R=(y,st):=hR
     go_wp2_with (first|(refine ldE rfl rfl _ rfl (E.get (j:=0) rfl) rfl ?_)|(refine E.sv (j:=3) rfl rfl rfl rfl rfl rfl rfl rfl (by kernel_rfl) fun u E=>?_))
     exact E.done (X:=(y,st)) rfl (j:=3) rfl rfl rfl rfl fun u h=>h
    ·obtain rfl:R=(opE 20 [y],st):=hR
     go_wp2_with (first|(refine ldE rfl rfl _ rfl (E.get (j:=0) rfl) rfl ?_)|(refine bs1 rfl rfl _ _ _ _ rfl ?_)|(go_at_call 105;refine E.o1 rfl rfl (fun u h=>h) (by unfold I64;omega) fun D u E=>?_)|(refine E.sv (j:=3) rfl rfl rfl rfl rfl rfl rfl rfl (by kernel_rfl) fun u E=>?_))
     exact E.done (X:=(opE 20 [y],st)) rfl (j:=3) rfl rfl rfl rfl fun u h=>h.2
theorem test_rd {n:Nat} {p:M Ex} (a:Fwd p) (b:TkL L) (f:Rdr 68 P A c L w0 n 258 (sumP p)):Rdr 68 P A c L w0 n 220 (testP p):=fun W st e h=>test_rd1 a f h e b
end
end
section
open Lx (Tk)
section
variable {P c:Nat} {A:OA} {L:List Tk} {w0:World}
theorem qf (f:Er w0) (b:TkL L):∀n,Rdr 68 P A c L w0 n 39 (exprP n)
 |0=>fun _ _ _ h=>absurd h (Nat.not_lt_zero _)
 |n+1=>by
  have a:=iJ (ec n)
  have g:=prim_rd f b (qf f b n)
  have i:Rdr 68 P A c L w0 (n+1) 297 (unaP (aG (exprP n))):=fun W st e h=>unary_rd g h e b
  have j:Rdr 68 P A c L w0 (n+1) 278 (nr (aG (exprP n))):=fun W st e h=>wY a i h e b
  have k:Rdr 68 P A c L w0 (n+1) 258 (sumP (aG (exprP n))):=fun W st e h=>sum_rd a j h e b
  have l:=test_rd a b k
  have m:=not_rd l b (n+1) (Nat.le_refl _)
  have o:Rdr 68 P A c L w0 (n+1) 78 (andP (aG (exprP n))):=fun W st e h=>and_rd a m h e b
  exact fun W st e h=>expr_rd a o h e b
end
end
end Go.Proofs.YtjigcpfjhfoheaaGreatDoor
