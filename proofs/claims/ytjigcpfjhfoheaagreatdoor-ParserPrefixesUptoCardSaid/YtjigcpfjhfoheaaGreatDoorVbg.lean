/- Walk: a SELECT statement; What Statement, Expression and Script return; Walk: awake; The wrap of a row that lists variables, the world's shape kept; what the library's variables hold. -/
import Derived.Test.YtjigcpfjhfoheaaGreatDoorVbf
import Derived.Test.YtjigcpfjhfoheaaGreatDoorVbc
import Derived.Handed
import Derived.SizedLaws
import Derived.Shelf.Vars
import Derived.Stop.LaidErr
import Derived.Lib.LaidTab
import Derived.LaidMore
import Derived.Stop.Joined
import Derived.MakeChecks
import Derived.Test.YtjigcpfjhfoheaaGreatDoorRows
namespace Go.Proofs.YtjigcpfjhfoheaaGreatDoor
open Go.RowKit List Go.Proofs.Tryz
set_option maxHeartbeats 4000000
set_option maxRecDepth 100000
set_option linter.unusedVariables false
set_option linter.unusedSimpArgs false
section
open Lx (Tk)
def oD (x:St) (cs:LV) (w:World):Prop:=∃a,cs=x.cells a∧StW w x a
theorem lF.nil {α:Type} {Φ:α→LV→World→Prop} {T sz b:Nat} {w:World} :lF Φ T sz b w (.slice none 0 0) [] []:=⟨rfl,by simp,⟨by simp,.inl ⟨rfl,rfl⟩⟩,fun i a cs h=>by simp at h⟩
theorem st_one (X:St) (a:SA):∀u∈X.cells a,u.oneCell'=true:=List.all_eq_true.1 (by rfl:(X.cells a).all (·.oneCell')=true)
theorem qk (b:M St) (e:St→Int) (n:Nat) (f:List St) (s:Ps):jL b e (n+1) f s=if s.hd.kind=0 then .inr f
  else if (needP jy (b s).2).bad=true then .inl ((needP jy (b s).2).hd.pos,2)
  else if e (b s).1≠0 then .inl (s.hd.pos,e (b s).1)
  else jL b e n (f++ [(b s).1]) (needP jy (b s).2):=rfl
theorem need_ok {t:BA} {s:Ps} (h:(needP t s).bad=false):s.bad=false∧(needP t s).r.length<s.r.length:=by
 unfold needP at h ⊢
 split at h
 ·next h1=>
  rw[if_pos h1]
  exact⟨(dL h1).1,by have:=au h1;omega⟩
 ·cases h
def lOf:((Nat×Int) ⊕ List St)→List St×Int×Int
 | .inl q=> ([],(q.1:Int),q.2)
 | .inr l=> (l,0,0)
theorem ap_st:Ap 49 40 22:=⟨underlying49,.agg zS.toArray,392,by kernel_rfl,rfl,by decide,by decide⟩
theorem script_fn (f:St→Int) (s:BA) (w:World) (hs:s.size≤20000) (hk:Lx.KwAt w)
  (D:∀(L:List Tk) (P:Nat) (A:OA) (c:Nat) (W:World) (st:Ps),Lx.tokAll s= .ok L→PsAt 68 P A c L w W st→Cl 29 #[.pointer (some ⟨P,0,none⟩)] W (Ran 68 P A c L w W (stmP (L.length+1) st).2 fun v w'=>ElSt W.heap.size w' (stmP (L.length+1) st).1 v))
  (F:∀(L:List Tk) (st:Ps) (a:SA) (W:World),Ext w W→Lx.tokAll s= .ok L→st.r=L.drop (L.length-st.r.length)→st.bad=false→(stmP (L.length+1) st).2.bad=false→StW W (stmP (L.length+1) st).1 a→Cl 31 #[St.val (stmP (L.length+1) st).1 a] W (Rt (i4 (f (stmP (L.length+1) st).1)) W)):
  Cl 20 #[.string s] w fun e w'=>Ext w w'∧∃B k,e= .returned (.tuple #[.slice B (parL f s).1.length k,i4 (parL f s).2.1,i4 (parL f s).2.2])∧(parL f s).1.length≤20001∧Stb (w.heap.size≤·) w' (fun u=>Lst oD 22 u B (parL f s).1):=by
 have g:∀a x:Nat,Lx.tokAll s= .bad a x→parL f s=([],(a:Int),(x:Int)):=fun a x h=>by unfold parL;rw[h]
 have y:∀L,Lx.tokAll s= .ok L→parL f s=lOf (jL (stmP (L.length+1)) f (L.length+1) [] ⟨L,false⟩):=fun L h=>by
  unfold parL lOf
  rw[h]
  rfl
 obtain⟨R,hR⟩:∃R,parL f s=R:=⟨_,rfl⟩
 rw[hR]at g y ⊢
 replace y:=hid y
 replace g:=hid g
 replace F:=hid F
 replace D:=hid D
 clear hR
 go_enter func20,ntmps20
 go_wp2_with fail
 refine(nM s w hs hk).mono ?_
 rintro _ w2 ⟨K,h|h⟩
 ·obtain⟨a,x,U,a7,rfl⟩:=h
  have a8:¬((x:Int)=0):=by omega
  obtain rfl:=g a x U
  go_wp2_with fail
  go_ret3
  exact⟨K,none,⟨0,rfl⟩,fun u _ _=>cN⟩
 ·obtain⟨L,P,A,c,U,rfl,hp⟩:=h
  have hL:=gS U
  have a0:=hL.len
  have HR:=hid (y L U)
  have H:=hid (fun st a W O=>F L st a W O U)
  have HC:=hid (fun W st=>D L P A c W st U)
  have ag:Hid (w.heap.size≤w2.heap.size):=K.size
  have E:=((En.start hp).row0 (α:=St) w2.heap.size 40 22).imp (Ψ:=Els oD 22 [] []) fun u _=>Els.nil
  clear hp D F y g K
  go_upto_region 5 with fail
  go_loopw [8] (fun vv wr=> ∃(m:Nat) (st:Ps) (l:List St) (xs:LV),st.r.length<m∧l.length+st.r.length≤L.length+1∧st.bad=false∧R=lOf (jL (stmP (L.length+1)) f m l st)∧En 68 P A c L w w2 wr st [ow w2.heap.size 40 22 vv l.length xs] (Els oD 22 l xs)) (fun _ wr=>20001-posOf P wr)
  case atStart=>exact⟨_,⟨L,false⟩,[],[],by simp,by simp,rfl,HR,E⟩
  case round=>
   clear E HR
   obtain⟨m,st,l,xs,hm,a4,J,hI,E⟩:=hrel
   obtain⟨m,rfl⟩:∃x,m=x+1:=⟨m-1,by omega⟩
   rw[qk]at hI
   have n:=hid hI
   have ac:=hid E.ps.posOf
   have ax:=E.ps.le
   have Z:=hid E.ps.suf
   clear hI
   go_wp2_with (go_at_call 43;refine E.hs hL 0 rfl (fun p u E=>?_) (fun p u E=>?_))
   ·have I:st.hd.kind=0:=by unfold hasK at p;rw[J]at p;simpa using p
    rw[if_pos I]at n
    obtain rfl:R=(l,0,0):=n.out
    clear n H
    obtain⟨B,k,rfl⟩:=ca (E.own (j:=0) rfl)
    have HB:=E.all.imp fun u h=>Els.lst' h.1 (h.2 _ (mem_cons_self ..))
    go_wp2_with fail
    go_ret3
    exact⟨E.ps.base,B,⟨k,rfl⟩,by show l.length≤_;omega,HB.weak fun q _ hq=>Nat.le_trans ag hq⟩
   ·have I:¬st.hd.kind=0:=fun e=>by unfold hasK at p;rw[J,e]at p;cases p
    rw[if_neg I]at n
    obtain⟨⟨X,s1⟩,hX⟩:∃x,stmP (L.length+1) st=x:=⟨_,rfl⟩
    have a1:s1.r.length≤st.r.length:=by
     obtain⟨B,O,_⟩:=(rdy_stm (L.length+1)).sfx st
     rw[hX]at O
     have h2:=congrArg List.length O
     simp only[length_append]at h2
     omega
    have z:=hid (fun a W O h2=>H st a W O Z J h2)
    have G:=hid (fun W h=>HC W st h)
    rw[hX]at n z G
    simp only at n z G
    clear H HC
    obtain⟨b,a9,V,hb,c0,c1,c2⟩:=E.ps.cells
    subst V
    obtain⟨p0,p1,-⟩:=cls E.ps.blk
    have hi:=E.ps.lti
    have a2:L.length-st.r.length<L.length:=by have:=E.ps.ne;omega
    replace E:=hid (E.ext (Ext.refl _).drew)
    go_upto_region 6 with fail
    go_region
    clear hb c0 c1 c2 p0 p1 hi
    replace E:=E.out
    generalize World.drew _=w3 at*
    go_upto_region 9 with (first
     |(refine E.al rfl _ rfl rfl (cs:=zS) (t:=40) (by kernel_rfl) fun g0 u E=>?_)
     |(refine E.sw (j:=0) (ty:=40) rfl rfl rfl rfl rfl rfl (by kernel_rfl) (by kernel_rfl) rfl fun u E=>?_)
     |(go_at_call 29;(with_reducible refine(G.out _ E.ps).mono ?_);rintro _ u3 ⟨_,rfl,g1,g2,a,rfl,g3⟩;replace E:=E.calls g1 g2 g3;clear g1 g2 g3;unfold St.val)
     |(go_at_call 44;refine E.nd hL jy rfl rfl fun _ u E=>?_))
    have Y:=need_ok (t:=jy) (s:=s1)
    generalize needP jy s1=s2 at*
    have p2:=E.ps.blk.cell_some (i:=2) rfl
    cases C:s2.bad
    ·rw[C]at p2 n
     rw[if_neg (by simp)]at n
     obtain⟨an,a5⟩:=Y C
     have HW:=hid (z a _ E.ps.base an E.stb.now.2)
     unfold St.val at HW
     clear z Y
     by_cases hv:f X=0
     ·rw[if_neg (by simp[hv])]at n
      rw[hv]at HW
      go_wp2_with (first
       |(refine E.lw (j:=0) (ty:=40) rfl rfl rfl rfl (by kernel_rfl) ?_)
       |(go_at_call 31;(with_reducible refine HW.out.mono ?_);rintro _ u6 ⟨rfl,hx⟩;replace E:=E.ext hx;clear hx)
       |(refine bsG ap_st rfl rfl (X.cells a) (by rfl) rfl ?_)
       |(at_builtin;refine E.ap X ap_st (j:=1) rfl rfl rfl rfl rfl rfl rfl (st_one X a) (by omega) fun l2 A2 c2 u hl E=>?_))
      have ad:=E.ps.posOf
      obtain rfl:=hl.out
      exact⟨⟨m,_,_,_,by omega,by simp;omega,C,n,E.pop.imp fun u h=>Els.snoc h.1 rfl ⟨a,rfl,h.2⟩⟩,by rw[ad,ac.out];omega⟩
     ·rw[if_pos hv]at n
      have a6:(f X !=0)=true:=by simpa using hv
      obtain rfl:R=([],((st.hd.pos:Nat):Int),f X):=n.out
      go_wp2_with (first
       |(refine E.lw (j:=0) (ty:=40) rfl rfl rfl rfl (by kernel_rfl) ?_)
       |(go_at_call 31;(with_reducible refine HW.out.mono ?_);rintro _ u6 ⟨rfl,hx⟩;replace E:=E.ext hx;clear hx))
      go_ret3
      exact⟨E.ps.base,none,⟨0,rfl⟩,fun u _ _=>cN⟩
    ·rw[C]at p2 n
     rw[if_pos rfl]at n
     obtain rfl:R=([],((s2.hd.pos:Nat):Int),2):=n.out
     obtain⟨b2,aS,V,hb,c0,c1,c2⟩:=E.ps.cells
     injection V with V
     injection V with e1 e2
     subst e1 e2
     obtain⟨p0,p1,-⟩:=cls E.ps.blk
     have hi:=E.ps.lti
     have a3:L.length-s2.r.length<L.length:=by have:=E.ps.ne;have:=E.ps.le;omega
     replace E:=hid (E.ext (Ext.refl _).drew)
     go_upto_region 10 with fail
     go_region
     go_wp2_with fail
     go_ret3
     exact⟨E.ps.base,none,⟨0,rfl⟩,fun u _ _=>cN⟩
end
section
open Lx (Tk)
theorem read_at {s:BA} {L:List Tk} (h:Lx.tokAll s= .ok L) {st:Ps} (b:st.r=L.drop (L.length-st.r.length)) {n:Nat} (x:L.length<n) (j:(stmP n st).2.bad=false):
  (stmP n st).1.formed=true∧(stmP n st).1.all.length≤100000∧(largeB (stmP n st).1.all=false→(stmP n st).1.bulk≤100000):=by
 have m:=wsm_all h
 have l:wsm st.r≤wsm L:=by
  have e:wsm (L.take (L.length-st.r.length)++L.drop (L.length-st.r.length))=wsm L:=by rw[take_append_drop]
  rw[wsm_app,←b]at e
  omega
 have o:=uZ (cR n) andL st
 have p:(stmP n st).1.cst≤65548:=by
  unfold stmP
  omega
 have f:st.r.length<n:=by
  rw[b,length_drop]
  omega
 have g:(stmP n st).1.formed=true:=((tm n st ⟨f,fun a i=>gt_of h a (mem_of_mem_drop (b ▸ i))⟩).2 j).1
 refine⟨g,by have:=all_cst (stmP n st).1;omega,fun k=>?_⟩
 have t:=bulk_cst g
 have u:=im k
 omega
structure Pg (w:World):Prop where
 gd:Gd w
 er:Er w
 kw:Lx.KwAt w
theorem Pg.ext {w w':World} (h:Pg w) (a:Ext w w'):Pg w':=⟨h.gd.ext a,tc h.er a,h.kw.ext a⟩
theorem qm {s:BA} {L:List Tk} (h:Lx.tokAll s= .ok L) {st:Ps} (f:st.r=L.drop (L.length-st.r.length)) {n:Nat} (l:L.length<n) (i:(stmP n st).2.bad=false) {a:SA} {W:World} (j:Gd W) (b:StW W (stmP n st).1 a):
  Cl 31 #[St.val (stmP n st).1 a] W (Rt (i4 (validS (stmP n st).1)) W):=by
 obtain⟨_,m,g⟩:=read_at h f l i
 cases e:largeB (stmP n st).1.all
 ·exact wN _ a W j b.1 b.2.1 b.2.2 (Nat.le_trans (g e) (by omega))
 ·refine(ti _ a W b.1 (by omega) e).mono fun r w' k=>⟨?_,k.2⟩
  unfold validS
  rw[if_pos e]
  exact k.1
theorem ent5_tup:jV 57:=fun args W=>rfl
theorem ent5_asg:jV 59:=fun args W=>rfl
section
variable {P c:Nat} {A:OA} {L:List Tk} {w0 w:World} {s:Ps}
theorem stm_all {n:Nat} (g:Er w0) (a:TkL L) (k:s.r.length<n) (l:PsAt 68 P A c L w0 w s):
  Cl 29 #[.pointer (some ⟨P,0,none⟩)] w (Ran 68 P A c L w0 w (stmP n s).2 fun v w'=>ElSt w.heap.size w' (stmP n s).1 v):=by
 have e:=qf (P:=P) (A:=A) (c:=c) g a n
 have b:=ec n
 unfold stmP
 exact tA e b k l a (fun _ W st h hs=>create_rd e b hs g h a) (fun _ W st h hs=>query_rd e b hs g h a)
  (fun _ W st h hs=>list_row _ ent5_tup _ (tz b) h a fun j st' f i=>tuple_rd b e (by omega) f a)
  (fun _ W st h hs=>list_asg _ ent5_asg _ (o4 b) h a fun j st' f i=>qT e (by omega) f a)
end
theorem gY (s:BA) (w:World) (hs:s.size≤20000) (b:Pg w):
  Cl 13 #[.string s] w fun e w'=>Ext w w'∧∃a,e= .returned (.tuple #[St.val (parS validS s).1 a,i4 (parS validS s).2.1,i4 (parS validS s).2.2])∧Stb (w.heap.size≤·) w' (fun u=>StW u (parS validS s).1 a):=
 tC validS s w hs b.kw (fun L P A c k W g f i=>stm_all (tc b.er g) (gS f) (Nat.lt_succ_self _) i)
  (fun L a W g f h j=>qm f (st:=⟨L,false⟩) (by simp) (Nat.lt_succ_self _) h (b.gd.ext g) j)
theorem jB (s:BA) (w:World) (hs:s.size≤20000) (f:Pg w):
  Cl 17 #[.string s] w fun e w'=>Ext w w'∧∃a b c1,e= .returned (.tuple #[Nd.val (parE validE s).1.d a b c1,i4 (parE validE s).2.1,i4 (parE validE s).2.2])∧Stb (w.heap.size≤·) w' (fun u=>ExV u (parE validE s).1 a b c1):=
 qV validE s w hs f.kw (fun L P A c k W g h i=>qf (tc f.er g) (gS h) _ _ _ i (Nat.lt_succ_self _))
  (fun L a b c1 W g h l j=>valid_any _ a b c1 W j (f.gd.ext g).sh)
theorem oE (s:BA) (w:World) (hs:s.size≤20000) (f:Pg w):
  Cl 20 #[.string s] w fun e w'=>Ext w w'∧∃B k,e= .returned (.tuple #[.slice B (parL validS s).1.length k,i4 (parL validS s).2.1,i4 (parL validS s).2.2])∧(parL validS s).1.length≤20001∧Stb (w.heap.size≤·) w' (fun u=>Lst oD 22 u B (parL validS s).1):=
 script_fn validS s w hs f.kw (fun L P A c W st g h=>stm_all f.er (gS g) (Nat.lt_succ_of_le h.le) h)
  (fun L st a W m g b j i l=>qm g b (Nat.lt_succ_self _) i (f.gd.ext m) l)
end
section
open Lx (Tk)
theorem mid8 {w:World} {g t:Nat} {n o p r u x y z B C a b e f i j k m:Value} {l:LV} (h:Blk w g t ([n,o,p,r,u,x,y,z,B,C,a,b,e,f,i,j,k,m]++l)):w.cell? ⟨g,10,none⟩=some a∧w.cell? ⟨g,11,none⟩=some b∧w.cell? ⟨g,12,none⟩=some e∧w.cell? ⟨g,13,none⟩=some f∧w.cell? ⟨g,14,none⟩=some i∧w.cell? ⟨g,15,none⟩=some j∧w.cell? ⟨g,16,none⟩=some k∧w.cell? ⟨g,17,none⟩=some m∧
  w.frozen? ⟨g,10,none⟩=false∧w.frozen? ⟨g,11,none⟩=false∧w.frozen? ⟨g,12,none⟩=false∧w.frozen? ⟨g,13,none⟩=false∧w.frozen? ⟨g,14,none⟩=false∧w.frozen? ⟨g,15,none⟩=false∧w.frozen? ⟨g,16,none⟩=false∧w.frozen? ⟨g,17,none⟩=false:=
 ⟨h.cell_some rfl,h.cell_some rfl,h.cell_some rfl,h.cell_some rfl,h.cell_some rfl,h.cell_some rfl,h.cell_some rfl,h.cell_some rfl,h.frozen 10,h.frozen 11,h.frozen 12,h.frozen 13,h.frozen 14,h.frozen 15,h.frozen 16,h.frozen 17⟩
theorem awk_any (w:World) (hg:Pg w):Cl 11 #[] w fun e w'=>e= .returned (.bool true)∧Ext w w':=by
 have O:=hid hg
 have l:=hid (Ext.refl w)
 have p:=hid (fun W h=>jB aw1 W (by decide) h)
 have r:=hid (fun W h=>jB aw4 W (by decide) h)
 have u:=hid (fun W h=>gY aw2 W (by decide) h)
 have x:=hid (fun W h=>gY aw3 W (by decide) h)
 have t:=hid (fun W h=>oE aw5 W (by decide) h)
 have a1:=aw_1
 have y:=aw_1t
 have a2:=aw_2
 have B:=aw_2t
 have z:=aw_2f
 have a3:=aw_3
 have a4:=aw_4
 have a5:=aw_5
 have C:=aw_5n
 generalize parE validE aw1=R1 at*
 generalize parE validE aw4=R4 at*
 generalize parS validS aw2=R2 at*
 generalize parS validS aw3=R3 at*
 generalize parL validS aw5=R5 at*
 obtain⟨U,r1⟩:=R1
 obtain⟨e4,r4⟩:=R4
 obtain⟨X,r2⟩:=R2
 obtain⟨s3,r3⟩:=R3
 obtain⟨l5,r5⟩:=R5
 simp only at a1 a2 a3 a4 a5 y B z C p r u x t
 subst a1 a2 a3 a4 a5
 simp only at p r u x t
 have HT:=hid y
 have Q:=hid B
 have Z:=hid z
 have ac:=hid C
 clear y B z C hg
 go_enter func11,ntmps11
 go_wp2_with fail
 refine(p w O).mono ?_
 rintro _ w1 ⟨a,R,V,c1,rfl,o⟩
 replace l:=hid (l.trans a)
 clear a
 have f:=hid o.now
 clear o p
 unfold Nd.val
 go_upto_region 2 with (first|(refine Great.wpList_allocTo rfl _ rfl (.pointer (some ⟨_,0,none⟩)) (.cells #[i4 0,.string ⟨#[]⟩,.string ⟨#[]⟩,i4 0,i4 0,i4 0,.string ⟨#[]⟩,.slice none 0 0] 37) (by kernel_rfl) ?_)|(refine stE' rfl rfl rfl (U.d.cells R V c1) rfl rfl (cs:=eZ) rfl rfl (by kernel_rfl) ?_))
 have a:=x10 w1 (.cells ((U.d.cells R V c1)).toArray 37)
 have k:=hid (Blk.of_new w1 37 (U.d.cells R V c1))
 replace l:=hid (l.trans a)
 replace f:=hid (f.ext a)
 clear a
 generalize m:World.alloc _ _=w2
 obtain⟨g1,D⟩:∃g,w1.heap.size=g:=⟨_,rfl⟩
 rw[m,D]at k
 rw[m]at l f
 rw[D]
 clear m D
 go_wp2_with fail
 refine(u w2 (O.ext l)).mono ?_
 rintro _ w3 ⟨a,I,rfl,o⟩
 replace l:=hid (l.trans a)
 replace f:=hid (f.ext a)
 replace k:=hid (k.ext a)
 clear a
 have b:=hid o.now.1
 clear o u
 unfold St.val
 go_upto_region 3 with (first|(refine Great.wpList_allocTo rfl _ rfl (.pointer (some ⟨_,0,none⟩)) (.cells #[i4 0,.string ⟨#[]⟩,.slice none 0 0,.slice none 0 0,.slice none 0 0,.slice none 0 0,.slice none 0 0,.slice none 0 0,.slice none 0 0,.slice none 0 0,i4 0,.string ⟨#[]⟩,.string ⟨#[]⟩,i4 0,i4 0,i4 0,.string ⟨#[]⟩,.slice none 0 0,.slice none 0 0,.slice none 0 0,i4 0,.string ⟨#[]⟩] 40) (by kernel_rfl) ?_)|(refine stS' rfl rfl rfl (St.cells X I) rfl rfl (cs:=sC) rfl rfl (by kernel_rfl) ?_))
 have a:=x10 w3 (.cells ((St.cells X I)).toArray 40)
 have j:=hid (Blk.of_new w3 40 (St.cells X I))
 replace l:=hid (l.trans a)
 replace f:=hid (f.ext a)
 replace k:=hid (k.ext a)
 replace b:=hid (b.ext a)
 clear a
 generalize m:World.alloc _ _=w4
 obtain⟨g2,E⟩:∃g,w3.heap.size=g:=⟨_,rfl⟩
 rw[m,E]at j
 rw[m]at l f k b
 rw[E]
 clear m E
 go_wp2_with fail
 refine(x w4 (O.ext l)).mono ?_
 rintro _ w5 ⟨a,b3,rfl,o⟩
 replace l:=hid (l.trans a)
 replace f:=hid (f.ext a)
 replace k:=hid (k.ext a)
 replace b:=hid (b.ext a)
 replace j:=hid (j.ext a)
 clear a
 clear o x
 unfold St.val
 go_upto_region 4 with (first|(refine Great.wpList_allocTo rfl _ rfl (.pointer (some ⟨_,0,none⟩)) (.cells #[i4 0,.string ⟨#[]⟩,.slice none 0 0,.slice none 0 0,.slice none 0 0,.slice none 0 0,.slice none 0 0,.slice none 0 0,.slice none 0 0,.slice none 0 0,i4 0,.string ⟨#[]⟩,.string ⟨#[]⟩,i4 0,i4 0,i4 0,.string ⟨#[]⟩,.slice none 0 0,.slice none 0 0,.slice none 0 0,i4 0,.string ⟨#[]⟩] 40) (by kernel_rfl) ?_)|(refine stS' rfl rfl rfl (St.cells s3 b3) rfl rfl (cs:=sC) rfl rfl (by kernel_rfl) ?_))
 have a:=x10 w5 (.cells ((St.cells s3 b3)).toArray 40)
 have J:=hid (Blk.of_new w5 40 (St.cells s3 b3))
 replace l:=hid (l.trans a)
 replace f:=hid (f.ext a)
 replace k:=hid (k.ext a)
 replace b:=hid (b.ext a)
 replace j:=hid (j.ext a)
 clear a
 generalize m:World.alloc _ _=w6
 obtain⟨g3,F⟩:∃g,w5.heap.size=g:=⟨_,rfl⟩
 rw[m,F]at J
 rw[m]at l f k b j
 rw[F]
 clear m F
 go_wp2_with fail
 refine(r w6 (O.ext l)).mono ?_
 rintro _ w7 ⟨a,Y,k4,c4,rfl,o⟩
 replace l:=hid (l.trans a)
 replace f:=hid (f.ext a)
 replace k:=hid (k.ext a)
 replace b:=hid (b.ext a)
 replace j:=hid (j.ext a)
 clear a
 clear o r J
 unfold Nd.val
 go_upto_region 5 with (first|(refine Great.wpList_allocTo rfl _ rfl (.pointer (some ⟨_,0,none⟩)) (.cells #[i4 0,.string ⟨#[]⟩,.string ⟨#[]⟩,i4 0,i4 0,i4 0,.string ⟨#[]⟩,.slice none 0 0] 37) (by kernel_rfl) ?_)|(refine stE' rfl rfl rfl (e4.d.cells Y k4 c4) rfl rfl (cs:=eZ) rfl rfl (by kernel_rfl) ?_))
 have a:=x10 w7 (.cells ((e4.d.cells Y k4 c4)).toArray 37)
 have K:=hid (Blk.of_new w7 37 (e4.d.cells Y k4 c4))
 replace l:=hid (l.trans a)
 replace f:=hid (f.ext a)
 replace k:=hid (k.ext a)
 replace b:=hid (b.ext a)
 replace j:=hid (j.ext a)
 clear a
 generalize m:World.alloc _ _=w8
 obtain⟨g4,G⟩:∃g,w7.heap.size=g:=⟨_,rfl⟩
 rw[m,G]at K
 rw[m]at l f k b j
 rw[G]
 clear m G
 clear K
 go_wp2_with (first|(refine ldE rfl rfl _ rfl k rfl ?_))
 refine(pG U R V c1 w8 f).mono ?_
 rintro _ w9 ⟨rfl,a⟩
 rw[HT.out]
 replace l:=hid (l.trans a)
 replace b:=hid (b.ext a)
 replace j:=hid (j.ext a)
 clear a f k HT
 obtain⟨z0,z1,z2,z3,z4,z5,z6,z7,_⟩:=mid8 j
 go_wp2_with fail
 refine(pG X.whr I.whr.A I.whr.n I.whr.c w9 b.whr).mono ?_
 rintro _ ad ⟨rfl,a⟩
 rw[Q.out]
 replace l:=hid (l.trans a)
 replace b:=hid (b.ext a)
 replace j:=hid (j.ext a)
 clear a Q z0 z1 z2 z3 z4 z5 z6 z7
 go_wp2_with fail
 refine(t ad (O.ext l)).mono ?_
 rintro _ ag ⟨a,B5,k5,rfl,_,o⟩
 replace l:=hid (l.trans a)
 replace b:=hid (b.ext a)
 replace j:=hid (j.ext a)
 clear a
 clear o t
 rw[ac.out]
 have z9:=j.cell_some (i:=9) rfl
 have hn:=b.frm.1
 rw[Z.out]at hn
 unfold Sl.v at z9
 rw[←hn]at z9
 clear hn
 go_wp2_with fail
 go_ret
 exact⟨rfl,l⟩
end
section
open Go Go.RowKit Go.Stop
section
variable {H:Type} {enc:TypeId×Value→H}
theorem handed_and {a:Assume} {C:Checked} {os:Os} {f:FuncId} {m:Func} {s:ChangeSpec} {k:List PathCond} {apart o h n:Bool} {X:World→Array Value→Prop}
  (Q:∀(w w':World) (args:Array Value),w.heap=w'.heap→X w args→X w' args)
  (own:ownKnob C.prog.godebug=none) (p:os.Started) (x:C.prog.inits.idxOf? f=none) (F:C.prog.funcs[f]? =some m)
  (r:∃(w:World) (b:Tape) (i:Input),w.os=os∧(w.forCall b i).Shaped C.prog∧i.vars= []∧Input.okWide C.prog (w.forCall b i) .any w.heap.size f i∧
   ((s.pre enc C.prog m k apart (w.forCall b i).memory i.args∧X (w.forCall b i).memory i.args)∧sizedMet enc C.prog m (OpenSpec.ofChange s) apart (w.forCall b i).memory i.args)∧a.holds C.prog (lone (Frame.enter C.prog f i.args .normal) [] (w.forCall b i)))
  (l:∀(W:World) (base:Nat) (args:Array Value) (ds y:List (DataW H)) (g:List MemPlace),
   (∀(j:Nat) t v,m.params[j]? =some t→args[j]? =some v→Value.okWide C.prog W .any base t v)→
   DataW.Whole enc C.prog m.params.toList s.vars apart W args.toList ds y g→
   k.all (PathCond.test C.prog ⟨m.params.toList,ds,s.plain.varTypes C.prog,y⟩)=true→
   (DataW.weightsEach C.prog (m.params.toList++s.plain.varTypes C.prog) (ds++y)).all (·≤reachBytes)=true→X W args→W.ShapedOpen C.prog→
   a.holds C.prog (lone (Frame.enter C.prog f args .normal) [] W)→
   Calls C.prog f args W fun e K=> ∃v,e= .returned v∧s.post enc C.prog m apart o h n W args v K):
  ReturnsInHanded a C os f .any (fun w args=> (s.pre enc C.prog m k apart w args∧X w args)∧sizedMet enc C.prog m (OpenSpec.ofChange s) apart w args) (s.post enc C.prog m apart o h n):=by
 refine returnsInHanded_of_calls own p x r ?_
 intro w b i _ I _ G B u
 obtain⟨_,_,_,E,z,_,_,_,_,D⟩:=G
 have e:E=m:=Option.some.inj (z.symm.trans F)
 subst e
 obtain⟨⟨⟨ds,y,g,O,R⟩,Y⟩,Z⟩:=B
 have J:=DataW.Whole.of_heap (w':=w.forCall b i) (by rfl) O
 refine(l (w.forCall b i) w.heap.size i.args ds y g D J R (Z.weights O) (Q _ _ _ (by rfl) Y) I u).mono fun e K ⟨v,U,V⟩=>?_
 subst U
 exact ChangeSpec.post_blind V
end
theorem sh_of {W:World} (h:W.ShapedOpen prog):Sh W:=
 cell_of_shapedOpen_int (g:=1) (t:=3) (zero:=#[i4 0]) h (by decide) (by kernel_rfl) rfl (by kernel_rfl) (by kernel_rfl) underlying3
theorem tyTab:(prog.globals[4]?).map (·.type)=some 256:=by kernel_rfl
theorem gSyn:prog.globalNamed "strconv.ErrSyntax" =some 2:=by kernel_rfl
theorem gRng:prog.globalNamed "strconv.ErrRange" =some 3:=by kernel_rfl
theorem tySyn:(prog.globals[2]?).map (·.type)=some 198:=by kernel_rfl
theorem tyRng:(prog.globals[3]?).map (·.type)=some 198:=by kernel_rfl
theorem starE: "*" ++ "errors.errorString" = "*errors.errorString" :=by decide
theorem rowE (u:TypeId) (h:prog.typeName? 3 u=some "*errors.errorString"):u=260:=
 typeName_ptr_named (nm:= "errors.errorString") (by rw[starE];kernel_rfl) (by kernel_rfl) (by decide) u (by rw[starE];exact h)
theorem rG {j k l:String×DataW Unit} {r:List (String×DataW Unit)} {W:World}
  (h:laidMet prog (j::k::("internal/strconv.uint64pow10",Rows.laid_internal_strconv_uint64pow10)::l::("strconv.ErrRange",Rows.laid_strconv_ErrRange)::("strconv.ErrSyntax",Rows.laid_strconv_ErrSyntax)::r) W):Tab W∧Er W:=by
 have f:=h.tail.tail
 have g:=f.tail.tail
 have i:=g.tail
 have a:Lib.TabIs prog W "internal/strconv.uint64pow10" .u64 Lib.pow10Tab:=Lib.tabIs_of_head gTab tyTab underlying256 underlying232 (by kernel_rfl) (by kernel_rfl) f
 obtain⟨n,p,e,_,_,_⟩:=laid_sentinel g gRng tyRng underlying198 rowE underlying260 underlying262 rfl rfl underlying9 (by kernel_rfl) (by kernel_rfl)
 obtain⟨m,o,b,_,_,_⟩:=laid_sentinel i gSyn tySyn underlying198 rowE underlying260 underlying262 rfl rfl underlying9 (by kernel_rfl) (by kernel_rfl)
 refine⟨⟨a,?_⟩,⟨260,_,by simpa using World.var?_cell gSyn b 0⟩,⟨260,_,by simpa using World.var?_cell gRng e 0⟩⟩
 have:=lT (a.cell gTab 0 (by decide))
 exact this
theorem gKw:prog.globalNamed "disjoint/lexer.keywords" =some 0:=by kernel_rfl
theorem tyKw:(prog.globals[0]?).map (·.type)=some 101:=by kernel_rfl
def kwData {H:Type} :List (DataW H):=Lx.kwNames.map fun l=> .lit (.string l)
theorem kwData_eq {H:Type} :(Rows.laid_disjoint_lexer_keywords:DataW H)= .slice kwData []:=rfl
theorem spot_none {w:World} {a:Addr} {v:Value} (h:w.cell? a=some v):a.spot=none:=by
 unfold World.cell? at h
 split at h
 ·split at h
  ·cases h
  ·rename_i hs
   cases b:a.spot
   ·rfl
   ·rw[b]at hs;simp at hs
 ·cases h
theorem kw_of {R:String×DataW Unit} {r:List (String×DataW Unit)} {W:World} (h:laidMet prog (R::("disjoint/lexer.keywords",Rows.laid_disjoint_lexer_keywords)::r) W):Lx.KwAt W:=by
 obtain⟨ps,⟨U,X,cs,C,p,q,o,z,k,hd,_,_⟩,_⟩:=h.tail
 obtain rfl:=Option.some.inj (gKw.symm.trans o)
 obtain rfl:=Option.some.inj (tyKw.symm.trans z)
 rw[kwData_eq]at hd
 obtain⟨a,g,l,_,m⟩:=open_row underlying101 (by kernel_rfl) hd
 have O:((kwData:List (DataW Unit))).length=47:=rfl
 have e:∀j,j<47→W.cell? (a.add j)=some (.string (Lx.kwStr j)):=by
  intro j t
  have u:(kwData:List (DataW Unit))[j]? =some (.lit (.string (Lx.kwAt j))):=by
   unfold kwData Lx.kwAt
   rw[getElem?_map,getD_eq_getElem?_getD,getElem?_eq_getElem (show j<Lx.kwNames.length from t)]
   rfl
  obtain⟨v,n,V,K,Q⟩:=m j _ u
  obtain⟨s,B,E,_⟩:=DataW.trod_string underlying9 Q
  simp only[List.cons.injEq,and_true]at B
  subst B
  rw[K]
  have F:s.data.toList=Lx.kwAt j:=by
   have:=congrArg Prod.fst E
   simp only[DataW.lit.injEq,Lit.string.injEq]at this
   exact this.symm
  congr 2
  unfold Lx.kwStr
  rw[←F]
 obtain⟨b,f,D⟩:=a
 have y:D=none:=by
  have G:=e 0 (by decide)
  have:=spot_none G
  unfold Addr.add at this
  cases D with
  |none=>rfl
  |some x=>simp at this
 subst y
 refine⟨b,f,g,?_,fun j t=>?_⟩
 ·have I:=World.var?_cell gKw k 0
  rw[I]
  have J:cs= #[Value.slice (some ⟨b,f,none⟩) 47 g]:=by
   apply Array.toList_inj.1
   rw[l,O]
  rw[J]
  rfl
 ·have:=e j t
  have i:(⟨b,f,none⟩:Addr).add j=⟨b,f+j,none⟩:=by unfold Addr.add;split<;>simp_all
  rwa [i]at this
theorem gd_of {b e f:String×DataW Unit} {r:List (String×DataW Unit)} {W:World} (h:laidMetH prog (b::e::("internal/strconv.uint64pow10",Rows.laid_internal_strconv_uint64pow10)::f::("strconv.ErrRange",Rows.laid_strconv_ErrRange)::("strconv.ErrSyntax",Rows.laid_strconv_ErrSyntax)::("disjoint/lexer.keywords",Rows.laid_disjoint_lexer_keywords)::r) W)
  (g:laidMetH prog (b::e::("internal/strconv.uint64pow10",Rows.laid_internal_strconv_uint64pow10)::f::("strconv.ErrRange",Rows.laid_strconv_ErrRange)::("strconv.ErrSyntax",Rows.laid_strconv_ErrSyntax)::("disjoint/lexer.keywords",Rows.laid_disjoint_lexer_keywords)::r) W=laidMet prog (b::e::("internal/strconv.uint64pow10",Rows.laid_internal_strconv_uint64pow10)::f::("strconv.ErrRange",Rows.laid_strconv_ErrRange)::("strconv.ErrSyntax",Rows.laid_strconv_ErrSyntax)::("disjoint/lexer.keywords",Rows.laid_disjoint_lexer_keywords)::r) W) (hs:W.ShapedOpen prog):Pg W:=by
 have a:=g ▸ h
 exact⟨⟨sh_of hs,(rG a).1⟩,(rG a).2,kw_of a.tail.tail.tail.tail.tail⟩
end
end Go.Proofs.YtjigcpfjhfoheaaGreatDoor
