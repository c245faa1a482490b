/- Walks: names, tuples, bounds, WHERE, numbers, sources, orders, assignments, definitions of columns; Walks: sources, orders, assignments, definitions of columns; Statements that are read, as they lie in memory; the steps of definit. -/
import Derived.Test.YtjigcpfjhfoheaaGreatDoorVbe
import Derived.Deep.RegionHeldLaw
import Derived.Great.Walk
import Derived.StillTactics
namespace Go.Proofs.YtjigcpfjhfoheaaGreatDoor
open Go.RowKit List Go.Proofs.Tryz
set_option maxHeartbeats 4000000
set_option maxRecDepth 100000
set_option linter.unusedVariables false
set_option linter.unusedSimpArgs false
section
open Lx (Tk)
theorem qg {α:Type} {el:M α} (h:Fwd el):∀(n:Nat) (o:List α) (s:Ps),(listGo el n o s).1.length≤o.length+s.r.length
 |0,o,s=>by rw[listGo];show o.length≤_;omega
 |n+1,o,s=>by
  rw[listGo]
  split
  ·next hs=>
   have b:=qg h n (o++ [(el s.next).1]) (el s.next).2
   have e:=h s.next
   have f:=au hs
   rw[length_append,length_singleton]at b
   omega
  ·show o.length≤_
   omega
theorem list_len {α:Type} {el:M α} (h:Fwd el) (s:Ps):(listP el s).1.length≤s.r.length+1:=by
 have b:=qg h (s.r.length+1) [(el s).1] (el s).2
 have e:=h s
 unfold listP
 simp only[length_singleton]at b
 omega
theorem vc {w:World} {B:OA} {l:List BA} (h:Lst nS 1 w B l):bi w B l:=fun i a hi=>by
 obtain⟨cs,_,⟨b,f,g,j⟩,e,k⟩:=h i a hi
 subst e
 refine⟨k,b,f,g,?_⟩
 have:=j 0 (.string a) rfl
 simpa using this
theorem jY {w:World} {B:OA} {l:List Ex} (h:Lst Phiex 8 w B l):KidsAt w B l:=by
 unfold KidsAt
 rw[dO]
 intro j e m
 obtain⟨cs,_,k,g,n,c1,f,b⟩:=h j e m
 refine⟨cs,by simpa using k,?_⟩
 cases e with
 |mk d ks=>
  rw[ExC]
  have i:ks.length=n:=b.len
  subst i
  exact⟨b.fit,b.le,g,c1,f,b.kids⟩
def NmsG (n:Nat) (W:World) (l:List BA) (v:Value):Prop:=∃B k,v= .slice B l.length k∧(l.length≤20001∧l.length≤k)∧Stb (n≤·) W (fun w2=>bi w2 B l)
theorem eS (w:World):ExV w exZ none 0 0:=⟨rfl,by omega,fit_op (o:=0) cy,by unfold KidsAt Ex.ks;trivial⟩
def cF (a:Src) (cs:LV) (w:World):Prop:=cs= [.string a.tb,.string a.al]∧a.tb.size≤20000∧a.al.size≤20000
theorem kQ:Fwd namesP:=az (aP _) fun _=>az (fwd_list (fwd_tak 1)) fun _=>az (aP _) fun _=>aK _
theorem vd:Fwd eK:=de _ (az ig fun _=>aK _) ig
theorem fwd_typ:Fwd typP:=de _ (de _ (az vd fun _=>az (aP _) fun _=>az vd fun _=>az (aP _) fun _=>aK _) (aK _)) (az (aP _) fun _=>de _ (az ig fun _=>az (aP _) fun _=>aK _) (aK _))
theorem fwd_def:Fwd ek:=az (fwd_tak 1) fun _=>az fwd_typ fun _=>de _ (az (aP _) fun _=>aK _) (aK _)
theorem fwd_ref:Fwd refP:=az kQ fun _=>az (aP _) fun _=>az (fwd_tak 1) fun _=>az kQ fun _=>aK _
section
variable {P c:Nat} {A:OA} {L:List Tk} {w0 w:World} {s:Ps}
theorem En.ls {T:Nat} {wi:World} {V:List Vb} {Φ:World→Prop} {Q:Ending→World→Prop} {F sz:Nat} {x:Array Value} {f:Ps} {α:Type} {Ph:α→LV→World→Prop} {l:List α} (E:En T P A c L w0 wi w s V Φ) (p:Cl F x w (Ran T P A c L w0 w f fun v w'=> ∃B k,v= .slice B l.length k∧l.length≤k∧Stb (w.heap.size≤·) w' (fun u=>Lst Ph sz u B l)))
  (k:∀B b w',l.length≤b→En T P A c L w0 wi w' f V (fun u=>Φ u∧Lst Ph sz u B l)→Q (.returned (.slice B l.length b)) w'):Cl F x w Q:=
 p.mono fun e w' ⟨v,h,g,i,B,b,j,m,n⟩=>by rw[h,j];exact k B b w' m (E.calls g i n)
theorem rB (f:PsAt 68 P A c L w0 w s) (b:TkL L):
  Cl 176 #[.pointer (some ⟨P,0,none⟩)] w (Ran 68 P A c L w0 w (namesP s).2 fun v w'=>NmsG w.heap.size w' (namesP s).1 v):=by
 have E:=En.start f
 have m:=hid (Nat.le_trans (list_len (fwd_tak 1) (needP yLp s)) (Nat.succ_le_succ (Nat.le_trans (aA yLp s) (Nat.le_trans f.le b.len))))
 go_enter func176,ntmps176
 go_wp2_with (first|(go_at_call 44;refine E.nd b yLp rfl rfl fun v u E=>?_)|(go_at_call 44;refine E.nd b yRp rfl rfl fun v u E=>?_)|(refine E.ls (list_str 55 (fun _ _=>rfl) (takP 1) (fwd_tak 1) E.ps b fun W st h _=> (cf h b).mono fun e w' ⟨v,g,i,j,l⟩=>⟨v,g,i,j,[.string (takP 1 st).1],by rw[l];rfl,⟨rfl,by simp[Value.oneCell']⟩,Stb.of ⟨rfl,by have:=h.tak_size b 1;omega⟩⟩) fun B k u n E=>?_))
 go_ret
 exact⟨_,rfl,E.ps,E.chg,B,k,rfl,⟨by have:=m.out;exact this,n⟩,E.keep.imp fun u h=>vc h.2⟩
theorem En.nms {wi:World} {V:List Vb} {Φ:World→Prop} {Q:Ending→World→Prop} (E:En 68 P A c L w0 wi w s V Φ) (m:TkL L)
  (k:∀B b w',(namesP s).1.length≤20001∧(namesP s).1.length≤b→En 68 P A c L w0 wi w' (namesP s).2 V (fun u=>Φ u∧bi u B (namesP s).1)→Q (.returned (.slice B (namesP s).1.length b)) w'):Cl 176 #[.pointer (some ⟨P,0,none⟩)] w Q:=
 (rB E.ps m).mono fun e w' ⟨v,h,f,g,B,b,i,j,l⟩=>by rw[h,i];exact k B b w' j (E.calls f g l)
theorem tuple_rd {n:Nat} {ex:M Ex} (b:Fwd ex) (x:Rdr 68 P A c L w0 n 39 ex) (z:s.r.length<n) (i:PsAt 68 P A c L w0 w s) (f:TkL L):
  Cl 57 #[.pointer (some ⟨P,0,none⟩)] w (Ran 68 P A c L w0 w (tupP ex s).2 fun v w'=>ElG gW 1 w.heap.size w' (tupP ex s).1 v):=by
 have E:=En.start i
 have g:=aA yLp s
 have t:=hid (Nat.le_trans (list_len b (needP yLp s)) (Nat.succ_le_succ (Nat.le_trans g (Nat.le_trans i.le f.len))))
 go_enter func57,ntmps57
 go_wp2_with (first|(go_at_call 44;refine E.nd f yLp rfl rfl fun v u E=>?_)|(go_at_call 44;refine E.nd f yRp rfl rfl fun v u E=>?_)|(refine E.ls (list_ex 39 (fun _ _=>rfl) ex b E.ps f fun W st h hs=> (x W st h (by omega)).mono fun e w' ⟨v,j,l,m,p⟩=>⟨v,j,l,m,elg_ex p⟩) fun B k u y E=>?_))
 go_ret
 exact⟨_,rfl,E.ps,E.chg,[.slice B _ k],rfl,⟨rfl,by simp[Value.oneCell']⟩,E.keep.imp fun u h=>⟨B,k,rfl,by have:=t.out;show(tupP ex s).1.length≤_;exact Nat.le_trans this (by omega),jY h.2⟩⟩
theorem my {L:List Tk} (e:TkL L) (s:Ps) (hs:∀a∈s.r,a∈L):0≤(numP s).1∧(numP s).1≤2147483648:=by
 unfold numP takP
 split
 ·next hk=>
  obtain⟨_,a,l,b,f,_⟩:=kD (by decide) hk
  have hd:s.hd=a:=by unfold Ps.hd;rw[b];rfl
  rw[hd]
  exact⟨by unfold digV;omega,(e.num a (hs a (by rw[b];exact mem_cons_self ..)) f).2.2.1⟩
 ·show(0:Int)≤0∧(0:Int)≤2147483648
  omega
theorem PsAt.sub {T:Nat} (h:PsAt T P A c L w0 w s):∀a∈s.r,a∈L:=fun a b=>by
 rw[h.suf]at b
 exact mem_of_mem_drop b
theorem bnd_64 {T:Nat} (h:PsAt T P A c L w0 w s) (b:TkL L):I64 (eK s).1:=by
 have f:=my b s h.sub
 have g:=my b s.next fun a e=>h.sub a (mem_of_mem_tail e)
 unfold eK ifM
 split
 ·show I64 (-(numP s.next).1)
  unfold I64
  omega
 ·unfold I64
  omega
theorem pos_le {T:Nat} (h:PsAt T P A c L w0 w s) (g:TkL L):I64 (posP s).1:=by
 have k:∀b:Ps,PsAt T P A c L w0 w b→I64 (numP b).1:=fun b f=>by
  have:=f.num_le g
  unfold I64
  omega
 unfold posP
 split
 ·have e:(numP s.fail).1=0:=by
   unfold numP
   rw[md (s:=s.fail) rfl]
   rfl
  rw[e]
  exact cy
 ·exact k s h
def Elcol (a:Cd) (v:Value):Prop:=v= .agg #[.string a.nm,i4 a.ty,i4 a.lo,i4 a.hi,i4 a.mx,.bool a.nn]∧a.nm.size≤9223372036854775807∧I64 a.ty∧I64 a.lo∧I64 a.hi∧I64 a.mx
theorem bound_tok (f:Er w0) (e:PsAt 68 P A c L w0 w s) (b:TkL L):
  Cl 233 #[.pointer (some ⟨P,0,none⟩)] w (Ran 68 P A c L w0 w (eK s).2 fun v _=>v= i4 (eK s).1):=by
 have E:=En.start e
 have j:=my b s.next fun a g=>e.sub a (mem_of_mem_tail g)
 go_enter func233,ntmps233
 go_wp2_with (first|(go_at_call 53;refine E.tk b dJ rfl (fun h u E=>?_) (fun h u E=>?_))|(go_at_call 178;refine E.run (fu E.ps b f) fun v u i E=>?_;subst i))
 ·go_ret
  exact⟨_,rfl,by unfold eK ifM;rw[if_pos h];exact E.ps,E.chg,by unfold eK ifM;rw[if_pos h];rfl⟩
 ·go_ret
  exact⟨_,rfl,by unfold eK ifM;rw[if_neg (by rw[h];simp)];exact E.ps,E.chg,by unfold eK ifM;rw[if_neg (by rw[h];simp)];rfl⟩
theorem ve {n:Nat} {ex:M Ex} (i:Rdr 68 P A c L w0 n 39 ex) (l:s.r.length<n) (f:PsAt 68 P A c L w0 w s) (b:TkL L):
  Cl 60 #[.pointer (some ⟨P,0,none⟩)] w (Ran 68 P A c L w0 w (whrP ex s).2 fun v w'=>ExG w.heap.size w' (whrP ex s).1 v):=by
 have E:=En.start f
 go_enter func60,ntmps60
 go_wp2_with (first|(refine E.al rfl _ rfl rfl (cs:=zE) (t:=37) (by kernel_rfl) fun g u E=>?_)|(go_at_call 53;refine E.tk b eH rfl (fun h u E=>?_) (fun h u E=>?_))|(go_at_call 39;refine E.rd i (by have:=au h;omega) fun y m B k c1 u e E=>?_)|(refine E.sv (j:=0) rfl rfl rfl rfl rfl rfl rfl rfl (by kernel_rfl) fun u E=>?_))
 ·exact E.done (by unfold whrP ifM;rw[if_pos h,e]) (j:=0) rfl rfl rfl rfl fun u h=>h.2
 ·exact E.done (y:=exZ) (by unfold whrP ifM;rw[if_neg (by rw[h];simp)];rfl) (j:=0) rfl rfl rfl rfl fun u _=>eS u
theorem dig_zero {L:List Tk} (e:TkL L) {a:Tk} (f:a∈L) (g:a.kind=3):(digV (tkB a)==0)=decide (tkB a=⟨#[48]⟩):=by
 obtain⟨_,_,_,b⟩:=e.num a f g
 rw[Bool.eq_iff_iff,beq_iff_eq,decide_eq_true_iff,b]
 unfold tkB
 constructor
 ·intro h;rw[h]
 ·intro h
  simp only[ByteArray.mk.injEq]at h
  have:=congrArg Array.toList h
  simpa using this
theorem mz (l:PsAt 68 P A c L w0 w s) (p:TkL L) (I:Er w0):
  Cl 109 #[.pointer (some ⟨P,0,none⟩)] w (Ran 68 P A c L w0 w (posP s).2 fun v _=>v= i4 (posP s).1):=by
 have j:Hid (posP s=numP (if (hasK 3 s&&digV (tkB s.hd)==0)=true then s.fail else s)):=rfl
 obtain⟨R,O⟩:∃R,posP s=R:=⟨_,rfl⟩
 rw[O]at j ⊢
 clear O
 have J:=hid l
 have n:∀x:ai w,Cl 43 #[.pointer (some ⟨P,0,none⟩),i4 3] x.now fun e w'=>e= .returned (.bool (hasK 3 s))∧Ext x.now w':=fun x=>oX (l.ext x.ext) p 3
 obtain⟨b,ac,hA,hb,c0,c1,c2⟩:=l.cells
 subst hA
 obtain⟨p0,W,-⟩:=cls l.blk
 have hi:=l.lti
 have hl:=p.len
 have t:Hid (hasK 3 s=true→(digV (tkB s.hd)==0)=decide (tkB s.hd=⟨#[48]⟩)):=fun h=>dig_zero p l.mem (by simp[hasK]at h;exact h.2)
 obtain⟨i,B⟩:∃i,L.length-s.r.length=i:=⟨_,rfl⟩
 rw[B]at W c0 c1 c2 hi
 have i0:(0:Int)≤(i:Int):=by omega
 have i1:(i:Int)<(L.length:Int):=by omega
 clear l B
 go_enter func109,ntmps109
 go_upto_region 1 with fail
 have U:=ai.keep p0
 have l1:=ai.keep W
 have V:=ai.keep c1
 generalize tkB s.hd=X at*
 cases F:hasK 3 s
 ·rw[F]at n j
  refine af (by kernel_rfl) (by kernel_rfl) ?_
  repeat (go_big_quiet_step ((first|(go_at_call 43;exact aq (n _)))))
  refine wpQuiet_nil ?_
  intro w' k
  have m:=am k
  have u:=hid (fu (J.ext m) p I)
  have g:R=numP s:=j.out
  have f:=hid g
  have E:=hid m
  clear k m j g U l1 V n
  go_wp2_with fail
  refine u.mono ?_
  rintro _ Y ⟨v,rfl,y,z,rfl⟩
  go_wp2_with fail
  go_ret
  exact⟨_,rfl,by rw[f.out];exact y,(Chg.of E).trans z,by rw[f.out];rfl⟩
 ·have K:=t F
  rw[F,K]at j
  rw[F]at n
  clear K t
  refine af (by kernel_rfl) (by kernel_rfl) ?_
  repeat (go_big_quiet_step ((first|(go_at_call 43;exact aq (n _)))))
  refine wpQuiet_nil ?_
  intro w' k
  have m:=am k
  have C:(X.toList== [48])=decide (X=⟨#[48]⟩):=by
   have:=jh X ⟨#[48]⟩
   rw[←this]
   congr 1
   rw[ByteArray.toList_eq]
  rw[C]
  clear C
  have E:=hid m
  have D:=hid (J.ext m)
  clear k m U l1 V n
  cases G:decide (X=⟨#[48]⟩)
  ·rw[G]at j
   have g:R=numP s:=j.out
   have f:=hid g
   have u:=hid (fu D p I)
   clear g j G
   go_wp2_with fail
   refine u.mono ?_
   rintro _ Y ⟨v,rfl,y,z,rfl⟩
   go_wp2_with fail
   go_ret
   exact⟨_,rfl,by rw[f.out];exact y,(Chg.of E).trans z,by rw[f.out];rfl⟩
  ·rw[G]at j
   have g:R=numP s.fail:=j.out
   have f:=hid g
   have H:=hid D.fail
   have u:=hid (fu H p I)
   have Z:=hid ((Chg.of (P:=P) E).set 2 (.bool true))
   have p2:=D.blk.cell_some (i:=2) rfl
   have f2:=D.blk.frozen 2
   clear g j G
   go_wp2_with fail
   refine u.mono ?_
   rintro _ Y ⟨v,rfl,y,z,rfl⟩
   go_wp2_with fail
   go_ret
   exact⟨_,rfl,by rw[f.out];exact y,Z.trans z,by rw[f.out];rfl⟩
end
end
section
open Lx (Tk)
section
variable {P c:Nat} {A:OA} {L:List Tk} {w0 w:World} {s:Ps}
theorem rF (e:PsAt 68 P A c L w0 w s) (b:TkL L):
  Cl 104 #[.pointer (some ⟨P,0,none⟩)] w (Ran 68 P A c L w0 w (srcP s).2 fun v w'=>v= .agg #[.string (srcP s).1.tb,.string (srcP s).1.al]∧(srcP s).1.tb.size≤20000∧(srcP s).1.al.size≤20000):=by
 have E:=En.start e
 have f:=hid (e.tak_size b 1)
 go_enter func104,ntmps104
 go_wp2_with (first|(refine E.al rfl _ rfl rfl (cs:= [.string ⟨#[]⟩,.string ⟨#[]⟩]) (t:=86) (by kernel_rfl) fun g u E=>?_)|(go_at_call 55;have k:=hid (E.ps.tak_size b 1);refine E.run (cf E.ps b) fun v u i E=>?_;subst i)|(go_at_call 53;refine E.tk b kAS rfl (fun h u E=>?_) (fun h u E=>?_))|(refine E.sw (j:=0) (ty:=86) rfl rfl rfl rfl rfl rfl (by kernel_rfl) (by kernel_rfl) rfl fun u E=>?_)|(refine E.sw (j:=1) (ty:=86) rfl rfl rfl rfl rfl rfl (by kernel_rfl) (by kernel_rfl) rfl fun u E=>?_)|(refine E.sm (j:=0) rfl rfl rfl rfl rfl (by first|exact cA rfl|exact cS rfl|exact cI rfl|exact cL rfl|exact cB rfl) (by kernel_rfl) (by kernel_rfl) (by kernel_rfl) fun u E=>?_)|(refine E.lw (j:=0) (ty:=86) rfl rfl rfl rfl (by kernel_rfl) ?_)|(refine E.l1 (j:=0) rfl rfl rfl rfl rfl (by kernel_rfl) ?_))
 all_goals
  simp only[srcP,ay,ifM,aH, *,if_true,if_false,Bool.false_eq_true]
  exact E.fi (j:=1) rfl rfl rfl rfl (by kernel_rfl) ⟨rfl,f,by first|exact k.out|exact Nat.zero_le _⟩
theorem order_rd (i:Er w0) (e:PsAt 68 P A c L w0 w s) (b:TkL L):
  Cl 108 #[.pointer (some ⟨P,0,none⟩)] w (Ran 68 P A c L w0 w (dG posP s).2 fun v w'=>ElG fv 2 w.heap.size w' (dG posP s).1 v):=by
 have E:=En.start e
 have hi:=hid (pos_le e b)
 go_enter func108,ntmps108
 go_wp2_with (first|(refine E.al rfl _ rfl rfl (cs:= [i4 0,.bool false]) (t:=88) (by kernel_rfl) fun g u E=>?_)|(go_at_call 109;refine E.run (mz E.ps b i) fun v u k E=>?_;subst k)|(go_at_call 53;refine E.tk b kASC rfl (fun h u E=>?_) (fun h u E=>?_))|(go_at_call 53;refine E.tk b jJ rfl (fun f u E=>?_) (fun f u E=>?_))|(refine E.sw (j:=0) (ty:=88) rfl rfl rfl rfl rfl rfl (by kernel_rfl) (by kernel_rfl) rfl fun u E=>?_)|(refine E.sw (j:=1) (ty:=88) rfl rfl rfl rfl rfl rfl (by kernel_rfl) (by kernel_rfl) rfl fun u E=>?_)|(refine E.sm (j:=0) rfl rfl rfl rfl rfl (by first|exact cA rfl|exact cS rfl|exact cI rfl|exact cL rfl|exact cB rfl) (by kernel_rfl) (by kernel_rfl) (by kernel_rfl) fun u E=>?_)|(refine E.lw (j:=0) (ty:=88) rfl rfl rfl rfl (by kernel_rfl) ?_))
 all_goals
  simp only[dG,ay,ifM,aH, *,if_true,if_false,Bool.false_eq_true]
  exact E.outG (j:=1) rfl rfl rfl rfl (by kernel_rfl) rfl (by kernel_rfl) fun u _=>⟨rfl,hi⟩
theorem qT {n:Nat} {ex:M Ex} (l:Rdr 68 P A c L w0 n 39 ex) (z:s.r.length<n) (i:PsAt 68 P A c L w0 w s) (b:TkL L):
  Cl 59 #[.pointer (some ⟨P,0,none⟩)] w (Ran 68 P A c L w0 w (asgP ex s).2 fun v w'=>ElG gX 10 w.heap.size w' (asgP ex s).1 v):=by
 have E:=En.start i
 have x:=fwd_tak 1 s
 have e:=aA yEq (takP 1 s).2
 go_enter func59,ntmps59
 go_wp2_with (first|(refine E.al rfl _ rfl rfl (cs:=(.string ⟨#[]⟩:: i4 0::zE)) (t:=82) (by kernel_rfl) fun g u E=>?_)|(go_at_call 55;have p:=hid (E.ps.tak_size b 1);refine E.run (cf E.ps b) fun v u m E=>?_;subst m)|(go_at_call 44;refine E.nd b yEq rfl rfl fun v u E=>?_)|(go_at_call 39;refine E.rd l (by omega) fun y C B k c1 u f E=>?_)|(refine E.sw (j:=0) (ty:=82) rfl rfl rfl rfl rfl rfl (by kernel_rfl) (by kernel_rfl) rfl fun u E=>?_)|(refine E.sw (j:=1) (ty:=82) rfl rfl rfl rfl rfl rfl (by kernel_rfl) (by kernel_rfl) rfl fun u E=>?_)|(refine E.sm (j:=0) rfl rfl rfl rfl rfl (by first|exact cA rfl|exact cS rfl|exact cI rfl|exact cL rfl|exact cB rfl) (by kernel_rfl) (by kernel_rfl) (by kernel_rfl) fun u E=>?_)|(refine E.lw (j:=0) (ty:=82) rfl rfl rfl rfl (by kernel_rfl) ?_))
 simp only[asgP,ay,aE,aH,f]
 exact E.outG (j:=1) rfl rfl rfl rfl (by kernel_rfl) (by kernel_rfl) (by kernel_rfl) fun u h=>⟨B,k,c1,by kernel_rfl,⟨by have:=p.out;exact Nat.le_trans this (by omega),cy⟩,h.2⟩
theorem qU (l:Er w0) (m:PsAt 68 P A c L w0 w s) (e:TkL L):
  Cl 177 #[.pointer (some ⟨P,0,none⟩)] w (Ran 68 P A c L w0 w (ek s).2 fun v w'=>Elcol (ek s).1 v):=by
 have E:=En.start m
 have p:=hid (m.tak_size e 1)
 have k:=hid trivial
 go_enter func177,ntmps177
 go_wp2_with (first|(refine E.al rfl _ rfl rfl (cs:= [.string ⟨#[]⟩,i4 0,i4 0,i4 0,i4 0,.bool false]) (t:=99) (by kernel_rfl) fun g u E=>?_)|(go_at_call 55;refine E.run (cf E.ps e) fun v u h E=>?_;subst h)|(go_at_call 53;refine E.tk e eJ rfl (fun b u E=>?_) (fun b u E=>?_))|(go_at_call 53;refine E.tk e yLp rfl (fun i u E=>?_) (fun i u E=>?_))|(go_at_call 53;refine E.tk e kNOT rfl (fun f u E=>?_) (fun f u E=>?_))|(go_at_call 44;refine E.nd e kNULL rfl rfl fun v u E=>?_)|(go_at_call 44;refine E.nd e pi rfl rfl fun v u E=>?_)|(go_at_call 44;refine E.nd e yCm rfl rfl fun v u E=>?_)|(go_at_call 44;refine E.nd e yRp rfl rfl fun v u E=>?_)|(go_at_call 233;replace k:=hid (And.intro (bnd_64 E.ps e) k);refine E.run (bound_tok l E.ps e) fun v u h E=>?_;subst h)|(go_at_call 178;have n:=hid (E.ps.num_le e);refine E.run (fu E.ps e l) fun v u h E=>?_;subst h)|(refine E.sw (j:=0) (ty:=99) rfl rfl rfl rfl rfl rfl (by kernel_rfl) (by kernel_rfl) rfl fun u E=>?_)|(refine E.sw (j:=1) (ty:=99) rfl rfl rfl rfl rfl rfl (by kernel_rfl) (by kernel_rfl) rfl fun u E=>?_)|(refine E.sm (j:=0) rfl rfl rfl rfl rfl (by first|exact cA rfl|exact cS rfl|exact cI rfl|exact cL rfl|exact cB rfl) (by kernel_rfl) (by kernel_rfl) (by kernel_rfl) fun u E=>?_)|(refine E.lw (j:=0) (ty:=99) rfl rfl rfl rfl (by kernel_rfl) ?_))
 all_goals
  simp only[ek,typP,pj,maxP,ay,ifM,aE,aH, *,if_true,if_false,Bool.false_eq_true]
  exact E.fi (j:=1) rfl rfl rfl rfl (by kernel_rfl) ⟨rfl,by have:=p.out;exact Nat.le_trans this (by omega),by dsimp only;unfold I64;omega,by first|exact k.2.1|(dsimp only;unfold I64;omega),by first|exact k.1|(dsimp only;unfold I64;omega),by first|(dsimp only;unfold I64;omega)|(have:=n.out;dsimp only;unfold I64;omega)⟩
end
end
section
open Lx (Tk)
def StW (w:World) (s:St) (a:SA):Prop:=StV w s a∧nG w a.keys.A a.keys.n∧nH w a.frs.A a.frs.n
def ElSt (n:Nat) (W:World) (s:St) (v:Value):Prop:=∃a,v=s.val a∧Stb (n≤·) W (fun w'=>StW w' s a)
theorem vg {w:World} {B:OA} {l:List (List BA)} (h:Lst qd 1 w B l):nG w B l.length:=fun i hi=>by
 obtain⟨cs,_,⟨b,f,j,k⟩,g,n,e,m,hs⟩:=h i _ (getElem?_eq_getElem hi)
 subst e
 exact⟨b,f,g,_,n,j,by simpa using k 0 _ rfl,m.2⟩
theorem vh {w:World} {B:OA} {l:List Rf} (h:Lst qe 3 w B l):nH w B l.length:=fun i hi=>by
 obtain⟨cs,_,⟨b,g,n,j⟩,k,t,m,u,e,x,p,f,hs,r⟩:=h i _ (getElem?_eq_getElem hi)
 subst e
 exact⟨b,g,k,_,t,m,_,u,n,by simpa using j 0 _ rfl,p.2,j 2 _ rfl,f.2⟩
theorem StW.of {w:World} {s:St} {a:SA} (h:StV w s a) (b:a.keys.n=0) (e:a.frs.n=0):StW w s a:=⟨h,fun i hi=>by omega,fun i hi=>by omega⟩
theorem lst_cds {w:World} {B:OA} {l:List Cd} (h:Lst nR 6 w B l):jz w B l:=fun i a hi=>by
 obtain⟨cs,_,⟨b,g,p,e⟩,f,r,j,k,m,n⟩:=h i a hi
 subst f
 refine⟨⟨r,j,k,m,n⟩,b,g,p,?_,?_,?_,?_,?_,?_⟩
 ·have:=e 0 _ rfl;simpa using this
 ·exact e 1 _ rfl
 ·exact e 2 _ rfl
 ·exact e 3 _ rfl
 ·exact e 4 _ rfl
 ·exact e 5 _ rfl
theorem vj {w:World} {B:OA} {l:List (List BA)} (h:Lst qd 1 w B l):fL w B l:=fun i a hi=>by
 obtain⟨cs,_,⟨b,f,j,k⟩,g,m,e,n,hs⟩:=h i a hi
 subst e
 refine⟨b,f,g,a.length,m,j,?_,rfl,by omega,hs⟩
 have:=k 0 _ rfl
 simpa using this
theorem lst_rfs {w:World} {B:OA} {l:List Rf} (h:Lst qe 3 w B l):jA w B l:=fun i a hi=>by
 obtain⟨cs,_,⟨b,j,n,e⟩,k,t,m,u,f,r,x,p,hs,g⟩:=h i a hi
 subst f
 refine⟨r,b,j,k,a.cs.length,t,m,a.tg.length,u,n,?_,e 1 _ rfl,e 2 _ rfl,rfl,by omega,hs,rfl,by omega,g⟩
 have:=e 0 _ rfl
 simpa using this
theorem oC {α:Type} {el:M α} (h:Fwd el):∀(n:Nat) (o:List α) (s:Ps),(listGo el n o s).1.length+(listGo el n o s).2.r.length≤o.length+s.r.length
 |0,_,_=>Nat.le_refl _
 |n+1,o,s=>by
  rw[listGo]
  split
  ·next hs=>
   have e:=au hs
   have f:=h s.next
   have b:=oC h n (o++ [(el s.next).1]) (el s.next).2
   rw[length_append,length_singleton]at b
   omega
  ·exact Nat.le_refl _
theorem list_room {α:Type} {el:M α} (h:Fwd el) (s:Ps):(listP el s).1.length+(listP el s).2.r.length≤s.r.length+1:=by
 have b:=oC h (s.r.length+1) [(el s).1] (el s).2
 have e:=h s
 unfold listP
 rw[length_singleton]at b
 omega
theorem wZ (s:Ps):(namesP s).1.length+(namesP s).2.r.length≤s.r.length+1:=by
 have b:=list_room (fwd_tak 1) (needP yLp s)
 have e:=aA yLp s
 have f:=aA yRp (listP (takP 1) (needP yLp s)).2
 show(listP (takP 1) (needP yLp s)).1.length+(needP yRp (listP (takP 1) (needP yLp s)).2).r.length≤_
 omega
theorem mA {ex:M Ex} (h:Fwd ex) (d:Df) (l:List BA):Fwd (elemP ex d l):=
 de _ (az (aP _) fun _=>az kQ fun _=>aK _) (de _ (az kQ fun _=>aK _) (de _ (az (aP _) fun _=>az h fun _=>az (aP _) fun _=>aK _)
  (de _ (az (aP _) fun _=>az fwd_ref fun _=>aK _) (az fwd_def fun _=>aK _))))
theorem nT {ex:M Ex} (h:Fwd ex) (d:Df) (l:List BA) (s:Ps):(elemP ex d l s).1.2.length+(elemP ex d l s).2.r.length≤l.length+s.r.length+1:=by
 have b:=mA h d l s
 unfold elemP ifM at b ⊢
 split
 ·show(l++(namesP (needP kKEY s.next)).1).length+(namesP (needP kKEY s.next)).2.r.length≤_
  have f:=wZ (needP kKEY s.next)
  have g:=aA kKEY s.next
  have i:=next_len s
  rw[length_append]
  omega
 ·next f=>
  rw[if_neg f]at b
  have e:∀x:(Df×List BA)×Ps,x.1.2=l→x.2.r.length≤s.r.length→x.1.2.length+x.2.r.length≤l.length+s.r.length+1:=fun x e h=>by rw[e];omega
  refine e _ ?_ b
  repeat' split
  all_goals rfl
theorem vl (w:World) (A:OA):KidsAt w A []:=by unfold KidsAt;exact trivial
theorem qh {ex:M Ex} (d:Df) (l:List BA) (s:Ps):(elemP ex d l s).1.1.cols.length≤d.cols.length+1∧(elemP ex d l s).1.1.keys.length≤d.keys.length+1∧(elemP ex d l s).1.1.frs.length≤d.frs.length+1∧(elemP ex d l s).1.1.chk.length≤d.chk.length+1:=by
 unfold elemP ifM
 repeat' split
 all_goals simp[ay,aH]
def creS (t:BA) (x:Df×List BA):St:= { stZ with kd:=1,tb:=t,cols:=x.1.cols.map (nnC x.2),keys:=x.1.keys,frs:=x.1.frs,chk:=x.1.chk }
theorem vm (ex:M Ex) (s:Ps):bL ex s=cm ex (s.r.length+1) (elemP ex ⟨[],[],[],[]⟩ [] s).1.1 (elemP ex ⟨[],[],[],[]⟩ [] s).1.2 (elemP ex ⟨[],[],[],[]⟩ [] s).2:=rfl
theorem jZ (ex:M Ex) (m:Nat) (d:Df) (l:List BA) (st:Ps):cm ex (m+1) d l st=if isS yCm st=true then cm ex m (elemP ex d l st.next).1.1 (elemP ex d l st.next).1.2 (elemP ex d l st.next).2 else ((d,l),st):=rfl
theorem create_st {w:World} {X:BA} {d:Df} {l:List BA} {b e f g:OA} {c1 c2 c3 c4:Nat} (p:X.size≤20000) (r:d.cols.length≤20001∧d.keys.length≤20001∧d.frs.length≤20001∧d.chk.length≤20001)
  (j:jz w b (d.cols.map (nnC l))) (k:fL w e d.keys) (m:jA w f d.frs) (n:KidsAt w g d.chk):
  StV w (creS X (d,l)) ⟨⟨b,d.cols.length,c1⟩,⟨e,d.keys.length,c2⟩,⟨f,d.frs.length,c3⟩,⟨g,d.chk.length,c4⟩,⟨none,0,0⟩,⟨none,0,0⟩,⟨none,0,0⟩,⟨none,0,0⟩,⟨none,0,0⟩,⟨none,0,0⟩,⟨none,0,0⟩⟩:=by
 refine⟨rv,by show X.size≤_;omega,cy,by show 0≤9223372036854775807;omega,⟨by simp[creS],by show d.cols.length≤_;omega,j⟩,⟨rfl,by show d.keys.length≤_;omega,k⟩,⟨rfl,by show d.frs.length≤_;omega,m⟩,⟨rfl,by show d.chk.length≤_;omega,n⟩,
  ⟨rfl,by show 0≤_;omega,?_⟩,(fun l h=>by cases h),⟨rfl,by show 0≤_;omega,fun i x h=>by cases h⟩,⟨rfl,by show 0≤_;omega,fun i x h=>by cases h⟩,⟨rfl,by show 0≤_;omega,fun i x h=>by cases h⟩,eS w,⟨rfl,by show 0≤_;omega,vl _ _⟩,⟨rfl,by show 0≤_;omega,fun i x h=>by cases h⟩⟩
 intro i l h
 cases h
theorem lst_srcs {w:World} {B:OA} {l:List Src} (h:Lst cF 2 w B l):iz w B l:=fun i a hi=>by
 obtain⟨cs,_,⟨b,f,j,g⟩,e,m,k⟩:=h i a hi
 subst e
 refine⟨⟨by omega,by omega⟩,b,f,j,?_,g 1 _ rfl⟩
 have:=g 0 _ rfl
 simpa using this
theorem lst_itms {w:World} {B:OA} {l:List Itm} (h:Lst bA 9 w B l):fN w B l:=fun i a hi=>by
 obtain⟨cs,_,⟨b,g,m,e⟩,j,r,c1,f,p,n⟩:=h i a hi
 subst f
 have k:=e 0 _ rfl
 refine⟨p,b,g,j,r,c1,m,by simpa using k,⟨?_,?_,?_,?_,?_,?_,?_,?_,n⟩⟩
 ·exact e 1 _ rfl
 ·exact e 2 _ rfl
 ·exact e 3 _ rfl
 ·exact e 4 _ rfl
 ·exact e 5 _ rfl
 ·exact e 6 _ rfl
 ·exact e 7 _ rfl
 ·exact e 8 _ rfl
theorem lst_ords {w:World} {B:OA} {l:List Ord'} (h:Lst fv 2 w B l):iA w B l:=fun i a hi=>by
 obtain⟨cs,_,⟨b,f,j,g⟩,e,k⟩:=h i a hi
 subst e
 refine⟨k,b,f,j,?_,g 1 _ rfl⟩
 have:=g 0 _ rfl
 simpa using this
theorem from_eq (ex:M Ex) (s:Ps):fromP ex s=fromGo ex (s.r.length+1) [(srcP s).1] [] (srcP s).2:=rfl
theorem j3 (ex:M Ex) (m:Nat) (l:List Src) (c:List Ex) (st:Ps):fromGo ex (m+1) l c st=if isS yCm st=true then fromGo ex m (l++ [(srcP st.next).1]) c (srcP st.next).2
  else if isS jx st=true then fromGo ex m (l++ [(srcP st.next).1]) (c++ [(ex (needP kON (srcP st.next).2)).1]) (ex (needP kON (srcP st.next).2)).2 else ((l,c),st):=rfl
theorem not_both {s:Ps} (h:isS yCm s=true):isS jx s=false:=by
 obtain⟨i,a,l,b,g,f,_⟩:=dL h
 have e:s.hd=a:=by unfold Ps.hd;rw[b];rfl
 unfold isS
 rw[e,f]
 have:¬yCm=jx:=by decide
 simp[this]
theorem andL_snoc {l:List Ex} (h:l≠[]) (y:Ex):andL (l++ [y])=opE 18 [andL l,y]:=by
 cases l with
 |nil=>exact absurd rfl h
 |cons a l=>
  show(l++ [y]).foldl _ a=_
  rw[foldl_append]
  rfl
theorem vn:Fwd (dG posP):=az fwd_pos fun _=>de _ (aK _) (de _ (aK _) (aK _))
def qS (i:List Itm) (f:List Src) (W:Ex) (g:List Ex) (o:List Ord') (l:Int):St:= { stZ with kd:=5,itms:=i,frm:=f,whr:=W,grp:=g,ord:=o,lim:=l }
theorem query_of {ex:M Ex} {s b e h j k m:Ps} {i:List Itm} {f:List Src×List Ex} {W:Ex} {g:List Ex} {o:List Ord'} {l:Int} (n:itmsP ex s=(i,b)) (p:fromP ex (needP kFROM b)=(f,e)) (r:cr ex andL f.2 e=(W,h)) (t:fT h=(g,j)) (u:da posP j=(o,k)) (x:limP posP k=(l,m)):
  queryP ex posP andL s=(qS i f.1 W g o l,m):=by
 unfold queryP ay aE aH
 simp only[n,p,r,t,u,x]
 rfl
theorem qi {w:World} {I:List Itm} {b:List Src} {E:Ex} {G:List Ex} {O:List Ord'} {l:Int} {B g f j Bo:OA} {k z m c1 C D:Nat} (H:I.length≤20001) (K:b.length≤20001) (F:G.length≤20001) (J:O.length≤20001) (y:I64 l)
  (n:Lst bA 9 w B I) (p:Lst cF 2 w g b) (r:ExV w E f m c1) (t:Lst Phiex 8 w j G) (u:Lst fv 2 w Bo O):
  StV w (qS I b E G O l) ⟨⟨none,0,0⟩,⟨none,0,0⟩,⟨none,0,0⟩,⟨none,0,0⟩,⟨none,0,0⟩,⟨none,0,0⟩,⟨B,I.length,k⟩,⟨g,b.length,z⟩,⟨f,m,c1⟩,⟨j,G.length,C⟩,⟨Bo,O.length,D⟩⟩:=by
 have e:∀A:OA,KidsAt w A []:=fun A=>by unfold KidsAt;exact trivial
 refine⟨by show I64 5;unfold I64;omega,by show 0≤9223372036854775807;omega,y,by show 0≤9223372036854775807;omega,⟨rfl,by show 0≤_;omega,fun i x h=>by cases h⟩,⟨rfl,by show 0≤_;omega,fun i x h=>by cases h⟩,⟨rfl,by show 0≤_;omega,fun i x h=>by cases h⟩,⟨rfl,by show 0≤_;omega,e _⟩,
  ⟨rfl,by show 0≤_;omega,?_⟩,(fun l h=>by cases h),⟨rfl,by show 0≤_;omega,fun i x h=>by cases h⟩,⟨rfl,by show I.length≤_;omega,lst_itms n⟩,⟨rfl,by show b.length≤_;omega,lst_srcs p⟩,r,⟨rfl,by show G.length≤_;omega,jY t⟩,⟨rfl,by show O.length≤_;omega,lst_ords u⟩⟩
 intro i l h
 cases h
abbrev nl:Value:= .slice none 0 0
abbrev zS:LV:=(sC (a:=nl) (b:=nl) (c:=nl) (d:=nl) (v:=nl) (s:=nl) (i:=nl) (f:=nl) (e:=nl) (g:=nl) (r:=nl))
end
section
open Lx (Tk)
section
variable {ops:Array Oper} {rest:List Oper} {o:Oper} {a:Act} {w:World} {Q:Exit→Act→World→Prop}
theorem stS {x y:Operand} (b:o.guard=none) (k:o.op= .store 40 x y) (hd:o.dst=none) (g:Nat) (ds:LV) (l:a.eval x= .pointer (some ⟨g,0,none⟩)) (m:a.eval y= .agg ds.toArray) {cs:LV} (i:Blk w g 40 cs) (j:cs.length=22) (e:ds.length=22) (f:ds.toArray.all (·.oneCell')=true)
  (h:wpList prog ops Q rest a (w.setRow g ds.toArray)):wpList prog ops Q (o::rest) a w:=
 wpList_store_rowTo b 40 x y k hd g ds.toArray l m 40 cs.toArray i (by rw[size_toArray,e];kernel_rfl) (by rw[size_toArray,size_toArray,j,e]) f h
theorem stS' {x y:Operand} (b:o.guard=none) (i:o.op= .store 40 x y) (hd:o.dst=none) (ds:LV) (j:a.eval x= .pointer (some ⟨w.heap.size,0,none⟩)) (k:a.eval y= .agg ds.toArray) {cs:LV} (g:cs.length=22) (e:ds.length=22) (f:ds.toArray.all (·.oneCell')=true)
  (h:wpList prog ops Q rest a (w.alloc (.cells ds.toArray 40))):wpList prog ops Q (o::rest) a (w.alloc (.cells cs.toArray 40)):=
 wpList_store_rowTo b 40 x y i hd w.heap.size ds.toArray j k 40 cs.toArray (heap_alloc_new w _) (by rw[size_toArray,e];kernel_rfl) (by rw[size_toArray,size_toArray,g,e]) f (by rw[World.setRow_alloc_new];exact h)
end
theorem lst_rows {w:World} {B:OA} {l:List (List Ex)} (h:Lst gW 1 w B l):ep w B l:=fun i a hi=>by
 obtain⟨cs,_,⟨b,f,j,m⟩,g,k,e,p,n⟩:=h i a hi
 subst e
 exact⟨b,f,g,a.length,k,j,by simpa using m 0 _ rfl,rfl,n⟩
theorem lst_asgs {w:World} {B:OA} {l:List Asg} (h:Lst gX 10 w B l):fM w B l:=fun i a hi=>by
 obtain⟨cs,_,⟨b,g,m,e⟩,j,k,c2,f,p,n⟩:=h i a hi
 subst f
 refine⟨p,b,g,j,k,c2,m,by simpa using e 0 _ rfl,e 1 _ rfl,⟨?_,?_,?_,?_,?_,?_,?_,?_,n⟩⟩
 ·exact e 2 _ rfl
 ·exact e 3 _ rfl
 ·exact e 4 _ rfl
 ·exact e 5 _ rfl
 ·exact e 6 _ rfl
 ·exact e 7 _ rfl
 ·exact e 8 _ rfl
 ·exact e 9 _ rfl
def lowS (k:Int) (X N:BA) (V:List (List Ex)) (S:List Asg) (e:Ex):St:= { stZ with kd:=k,tb:=X,vals:=V,sets:=S,whr:=e,nm:=N }
def fb (B C D:OA) (k n m c d f:Nat):SA:=⟨⟨none,0,0⟩,⟨none,0,0⟩,⟨none,0,0⟩,⟨none,0,0⟩,⟨B,k,c⟩,⟨C,n,d⟩,⟨none,0,0⟩,⟨none,0,0⟩,⟨D,m,f⟩,⟨none,0,0⟩,⟨none,0,0⟩⟩
theorem lK {w:World} {k:Int} {X N:BA} {V:List (List Ex)} {S:List Asg} {e:Ex} {B C D:OA} {m c d f:Nat} (p:I64 k) (F:X.size≤20000) (y:N.size≤20000) (E:V.length≤20001) (z:S.length≤20001)
  (g:Lst gW 1 w B V) (j:Lst gX 10 w C S) (n:ExV w e D m f):StV w (lowS k X N V S e) (fb B C D V.length S.length m c d f):=by
 have b:∀A:OA,KidsAt w A []:=fun A=>by unfold KidsAt;exact trivial
 refine⟨p,by show X.size≤_;omega,cy,by show N.size≤_;omega,⟨rfl,by show 0≤_;omega,fun i x h=>by cases h⟩,⟨rfl,by show 0≤_;omega,fun i x h=>by cases h⟩,⟨rfl,by show 0≤_;omega,fun i x h=>by cases h⟩,⟨rfl,by show 0≤_;omega,b _⟩,
  ⟨rfl,by show V.length≤_;omega,lst_rows g⟩,?_,⟨rfl,by show S.length≤_;omega,lst_asgs j⟩,⟨rfl,by show 0≤_;omega,fun i x h=>by cases h⟩,⟨rfl,by show 0≤_;omega,fun i x h=>by cases h⟩,n,⟨rfl,by show 0≤_;omega,b _⟩,⟨rfl,by show 0≤_;omega,fun i x h=>by cases h⟩⟩
 intro l r
 obtain⟨i,hi⟩:=getElem?_of_mem r
 obtain⟨cs,_,_,u,G,_,t,_⟩:=g i l hi
 exact t
theorem cN {α:Type} {Φ:α→LV→World→Prop} {n:Nat} {w:World} {B:OA} :Lst Φ n w B []:=fun i a h=>by cases h
theorem dD {w:World} {k:Int} {X N:BA} (f:I64 k) (e:X.size≤20000) (b:N.size≤20000):StV w (lowS k X N [] [] exZ) (fb none none none 0 0 0 0 0 0):=lK f e b (by simp) (by simp) cN cN (eS w)
end
section
open Lx (Tk)
theorem tz {ex:M Ex} (h:Fwd ex):Fwd (tupP ex):=az (aP _) fun _=>az (fwd_list h) fun _=>az (aP _) fun _=>aK _
theorem o4 {ex:M Ex} (h:Fwd ex):Fwd (asgP ex):=az (fwd_tak 1) fun _=>az (aP _) fun _=>az h fun _=>aK _
abbrev lC (k:Int) (X:BA) (V S:Value) (W:LV) (N:BA):LV:= i4 k:: .string X::nl::nl::nl::nl::V::S::nl::nl::(W++ [nl,nl,i4 0,.string N])
section
variable {P c:Nat} {A:OA} {L:List Tk} {w0 w:World} {s:Ps}
theorem En.els {T:Nat} {wi:World} {V:List Vb} {Φ:World→Prop} {Q:Ending→World→Prop} {F:Nat} {x:Array Value} {b:Ps} {z:St} (E:En T P A c L w0 wi w s V Φ) (l:Cl F x w (Ran T P A c L w0 w b fun v w'=>ElSt w.heap.size w' z v)) (k:∀a w',En T P A c L w0 wi w' b V (fun u=>Φ u∧StW u z a)→Q (.returned (z.val a)) w'):Cl F x w Q:=
 l.mono fun e w' ⟨v,h,f,g,a,i,j⟩=>by rw[h,i];exact k a w' (E.calls f g j)
theorem En.pf {T:Nat} {wi:World} {V:List Vb} {Φ:World→Prop} {ops:Array Oper} {rest:List Oper} {o:Oper} {a:Act} {Q:Exit→Act→World→Prop} {ty:Nat} {x y:Operand} (E:En T P A c L w0 wi w s V Φ) (b:o.guard=none) (g:o.op= .store ty x y) (hd:o.dst=none) (j:a.eval x= .pointer (some ⟨P,2,none⟩)) (l:a.eval y= .bool true) (hi:(prog.info? ty).map (·.size)=some 1) (k:∀w',En T P A c L w0 wi w' s.fail V Φ→wpList prog ops Q rest a w'):wpList prog ops Q (o::rest) a w:=
 wpList_plain b fun K f=>by
  unfold Oper.wp execOp
  simp only[g,j,Instr.storeAt,Instr.sureAddr,Sem.run_bind,Sem.run_pure,Result.andThen_ok,mw w P 2 ty (a.eval y) [.bool true] (cB l) (E.ps.blk.there (n:=1) (by simp)) hi (fun u i=>by rw[List.mem_singleton.1 i];rfl)]
  have h:=f a _ (k _ E.fail)
  have e:a.put o.dst undef=a:=by rw[hd];rfl
  rw[←e]at h
  exact h
theorem tA {n:Nat} {ex:M Ex} (hr:Rdr 68 P A c L w0 n 39 ex) (F:Fwd ex) (hn:s.r.length<n) (X:PsAt 68 P A c L w0 w s) (b:TkL L)
  (D:isS cq s=true→∀W st,PsAt 68 P A c L w0 W st→st.r.length<n→Cl 54 #[.pointer (some ⟨P,0,none⟩)] W (Ran 68 P A c L w0 W (createP ex st).2 fun v w'=>ElSt W.heap.size w' (createP ex st).1 v))
  (H:isS dQ s=true→∀W st,PsAt 68 P A c L w0 W st→st.r.length<n→Cl 61 #[.pointer (some ⟨P,0,none⟩)] W (Ran 68 P A c L w0 W (queryP ex posP andL st).2 fun v w'=>ElSt W.heap.size w' (queryP ex posP andL st).1 v))
  (G:isS cM s=true→∀W st,PsAt 68 P A c L w0 W st→st.r.length<n→Cl 56 #[.pointer (some ⟨P,0,none⟩),.func (Fn.func 57) #[.pointer (some ⟨P,0,none⟩)] #[]] W (Ran 68 P A c L w0 W (listP (tupP ex) st).2 fun v w'=> ∃B k,v= .slice B (listP (tupP ex) st).1.length k∧(listP (tupP ex) st).1.length≤k∧Stb (W.heap.size≤·) w' (fun u=>Lst gW 1 u B (listP (tupP ex) st).1)))
  (I:isS dd s=true→∀W st,PsAt 68 P A c L w0 W st→st.r.length<n→Cl 58 #[.pointer (some ⟨P,0,none⟩),.func (Fn.func 59) #[.pointer (some ⟨P,0,none⟩)] #[]] W (Ran 68 P A c L w0 W (listP (asgP ex) st).2 fun v w'=> ∃B k,v= .slice B (listP (asgP ex) st).1.length k∧(listP (asgP ex) st).1.length≤k∧Stb (W.heap.size≤·) w' (fun u=>Lst gX 10 u B (listP (asgP ex) st).1))):
  Cl 29 #[.pointer (some ⟨P,0,none⟩)] w (Ran 68 P A c L w0 w (dj ex posP andL fQ s).2 fun v w'=>ElSt w.heap.size w' (dj ex posP andL fQ s).1 v):=by
 have e:Hid (dj ex posP andL fQ s=if isS cq s=true then createP ex s.next else if isS cM s=true then
   (lowS 2 (takP 1 (needP kINTO s.next)).1 ⟨#[]⟩ (listP (tupP ex) (needP kVALUES (takP 1 (needP kINTO s.next)).2)).1 [] exZ,(listP (tupP ex) (needP kVALUES (takP 1 (needP kINTO s.next)).2)).2)
  else if isS dd s=true then (lowS 3 (takP 1 s.next).1 ⟨#[]⟩ [] (listP (asgP ex) (needP kSET (takP 1 s.next).2)).1 (whrP ex (listP (asgP ex) (needP kSET (takP 1 s.next).2)).2).1,(whrP ex (listP (asgP ex) (needP kSET (takP 1 s.next).2)).2).2)
  else if isS dP s=true then (lowS 4 (takP 1 (needP kFROM s.next)).1 ⟨#[]⟩ [] [] (whrP ex (takP 1 (needP kFROM s.next)).2).1,(whrP ex (takP 1 (needP kFROM s.next)).2).2)
  else if isS dQ s=true then queryP ex posP andL s.next
  else if isS gC s=true then (lowS 6 ⟨#[]⟩ ⟨#[]⟩ [] [] exZ,s.next)
  else if isS fB s=true then (lowS 7 ⟨#[]⟩ ⟨#[]⟩ [] [] exZ,s.next)
  else if isS dR s=true then (if isS kTO s.next=true then (lowS 10 ⟨#[]⟩ (takP 1 s.next.next).1 [] [] exZ,(takP 1 s.next.next).2)else (lowS 8 ⟨#[]⟩ ⟨#[]⟩ [] [] exZ,s.next))
  else if isS ej s=true then (lowS 9 ⟨#[]⟩ (takP 1 s.next).1 [] [] exZ,(takP 1 s.next).2)
  else if isS eG s=true then (lowS 11 ⟨#[]⟩ (takP 1 s.next).1 [] [] exZ,(takP 1 s.next).2)else (lowS 0 ⟨#[]⟩ ⟨#[]⟩ [] [] exZ,s.fail)):=rfl
 obtain⟨R,hR⟩:∃R,dj ex posP andL fQ s=R:=⟨_,rfl⟩
 rw[hR]at e ⊢
 have E:=En.start X
 have ad:=X.le
 have ac:=b.len
 have ag:=next_len s
 clear hR X
 replace D:=hid D
 replace H:=hid H
 replace G:=hid G
 replace I:=hid I
 go_enter func29,ntmps29
 go_upto_region 1 with (refine E.al rfl _ rfl rfl (cs:=zS) (t:=40) (by kernel_rfl) fun g0 u E=>?_)
 go_wp2_with (first|(go_at_call 53;refine E.tk b cq rfl (fun f u E=>?_) (fun f u E=>?_))|(go_at_call 53;refine E.tk b cM rfl (fun i u E=>?_) (fun i u E=>?_))|(go_at_call 53;refine E.tk b dd rfl (fun l u E=>?_) (fun l u E=>?_))|(go_at_call 53;refine E.tk b dP rfl (fun m u E=>?_) (fun m u E=>?_))|(go_at_call 53;refine E.tk b dQ rfl (fun p u E=>?_) (fun p u E=>?_))|(go_at_call 53;refine E.tk b gC rfl (fun z u E=>?_) (fun z u E=>?_))|(go_at_call 53;refine E.tk b fB rfl (fun C u E=>?_) (fun C u E=>?_))|(go_at_call 53;refine E.tk b dR rfl (fun J u E=>?_) (fun J u E=>?_))|(go_at_call 53;refine E.tk b ej rfl (fun K u E=>?_) (fun K u E=>?_))|(go_at_call 53;refine E.tk b eG rfl (fun V u E=>?_) (fun V u E=>?_))|(go_at_call 53;refine E.tk b kTO rfl (fun Y u E=>?_) (fun Y u E=>?_))|(refine wpList_buildTo rfl 40 #[(0,.const (i4 6))] rfl _ rfl (lC 6 ⟨#[]⟩ nl nl zE ⟨#[]⟩).toArray (by kernel_rfl) ?_)|(refine wpList_buildTo rfl 40 #[(0,.const (i4 7))] rfl _ rfl (lC 7 ⟨#[]⟩ nl nl zE ⟨#[]⟩).toArray (by kernel_rfl) ?_)|(refine wpList_buildTo rfl 40 #[(0,.const (i4 8))] rfl _ rfl (lC 8 ⟨#[]⟩ nl nl zE ⟨#[]⟩).toArray (by kernel_rfl) ?_)|(refine wpList_buildTo rfl 40 #[] rfl _ rfl (lC 0 ⟨#[]⟩ nl nl zE ⟨#[]⟩).toArray (by kernel_rfl) ?_)|(refine E.sw (j:=0) (ty:=40) rfl rfl rfl rfl rfl rfl (by kernel_rfl) (by kernel_rfl) (by rfl) fun u E=>?_)|(refine E.pf rfl rfl rfl rfl rfl (by kernel_rfl) fun u E=>?_))
 ·rw[f,if_pos rfl]at e
  have O:=au f
  go_wp2_with (first|(go_at_call 54;refine E.els (D f _ _ E.ps (by omega)) fun a u E=>?_)|(refine E.sw (j:=0) (ty:=40) rfl rfl rfl rfl rfl rfl (by kernel_rfl) (by kernel_rfl) (by rfl) fun u E=>?_))
  rw[e.out]
  exact E.fi (j:=0) rfl rfl rfl rfl (by kernel_rfl) ⟨a,rfl,E.keep.imp fun u h=>h.2⟩
 ·rw[f,if_neg (by simp),i,if_pos rfl]at e
  have O:=au i
  have f1:=aA kINTO s.next
  have f2:=fwd_tak 1 (needP kINTO s.next)
  have f3:=aA kVALUES (takP 1 (needP kINTO s.next)).2
  have f4:=list_len (tz F) (needP kVALUES (takP 1 (needP kINTO s.next)).2)
  go_wp2_with (first|(go_at_call 44;refine E.nd b kINTO rfl rfl fun v u E=>?_)|(go_at_call 44;refine E.nd b kVALUES rfl rfl fun v u E=>?_)|(go_at_call 55;have y:=hid (E.ps.tak_size b 1);refine E.run (cf E.ps b) fun v u x E=>?_;subst x)|(refine wpList_buildTo rfl 40 #[(0,.const (i4 2)),(1,.tmp 18)] rfl _ rfl (lC 2 (takP 1 (needP kINTO s.next)).1 nl nl zE ⟨#[]⟩).toArray (by kernel_rfl) ?_)|(refine E.al rfl _ rfl rfl (cs:=zS) (t:=40) (by kernel_rfl) fun g u E=>?_)|(refine E.sw (j:=0) (ty:=40) rfl rfl rfl rfl rfl rfl (by kernel_rfl) (by kernel_rfl) (by rfl) fun u E=>?_)|(refine E.sw (j:=1) (ty:=40) rfl rfl rfl rfl rfl rfl (by kernel_rfl) (by kernel_rfl) (by rfl) fun u E=>?_)|(refine E.ls (G i _ _ E.ps (by omega)) fun B k u hk E=>?_)|(refine E.sm (j:=0) rfl rfl rfl rfl rfl (by first|exact cA rfl|exact cS rfl|exact cI rfl|exact cL rfl|exact cB rfl) (by kernel_rfl) (by kernel_rfl) (by kernel_rfl) fun u E=>?_)|(refine E.lw (j:=0) (ty:=40) rfl rfl rfl rfl (by kernel_rfl) ?_))
  rw[e.out]
  exact E.fi (j:=1) rfl rfl rfl rfl (by kernel_rfl) ⟨fb B none none _ 0 0 k 0 0,rfl,E.keep.imp fun u h=>StW.of (lK lb y (Nat.zero_le _) (by omega) (Nat.zero_le _) h.2 cN (eS u)) rfl rfl⟩
 ·rw[f,if_neg (by simp),i,if_neg (by simp),l,if_pos rfl]at e
  have O:=au l
  have f2:=fwd_tak 1 s.next
  have f3:=aA kSET (takP 1 s.next).2
  have f4:=list_len (o4 F) (needP kSET (takP 1 s.next).2)
  have f5:=fwd_list (o4 F) (needP kSET (takP 1 s.next).2)
  go_wp2_with (first|(go_at_call 44;refine E.nd b kSET rfl rfl fun v u E=>?_)|(go_at_call 55;have y:=hid (E.ps.tak_size b 1);refine E.run (cf E.ps b) fun v u x E=>?_;subst x)|(refine wpList_buildTo rfl 40 #[(0,.const (i4 3)),(1,.tmp 33)] rfl _ rfl (lC 3 (takP 1 s.next).1 nl nl zE ⟨#[]⟩).toArray (by kernel_rfl) ?_)|(refine E.al rfl _ rfl rfl (cs:=zS) (t:=40) (by kernel_rfl) fun g u E=>?_)|(refine E.sw (j:=0) (ty:=40) rfl rfl rfl rfl rfl rfl (by kernel_rfl) (by kernel_rfl) (by rfl) fun u E=>?_)|(refine E.sw (j:=1) (ty:=40) rfl rfl rfl rfl rfl rfl (by kernel_rfl) (by kernel_rfl) (by rfl) fun u E=>?_)|(refine E.ls (I l _ _ E.ps (by omega)) fun B k u hk E=>?_)|(go_at_call 60;refine E.rdx (ve hr (by omega) E.ps b) fun U Z c2 u E=>?_)|(refine E.sm (j:=0) rfl rfl rfl rfl rfl (by first|exact cA rfl|exact cS rfl|exact cI rfl|exact cL rfl|exact cB rfl) (by kernel_rfl) (by kernel_rfl) (by kernel_rfl) fun u E=>?_)|(refine E.lw (j:=0) (ty:=40) rfl rfl rfl rfl (by kernel_rfl) ?_))
  rw[e.out]
  exact E.fi (j:=1) rfl rfl rfl rfl (by kernel_rfl) ⟨fb none B U 0 _ Z 0 k c2,rfl,E.keep.imp fun u h=>StW.of (lK (by unfold I64;omega) y (Nat.zero_le _) (Nat.zero_le _) (by omega) cN h.1.2 h.2) rfl rfl⟩
 ·rw[f,if_neg (by simp),i,if_neg (by simp),l,if_neg (by simp),m,if_pos rfl]at e
  have O:=au m
  have f1:=aA kFROM s.next
  have f2:=fwd_tak 1 (needP kFROM s.next)
  go_wp2_with (first|(go_at_call 44;refine E.nd b kFROM rfl rfl fun v u E=>?_)|(go_at_call 55;have y:=hid (E.ps.tak_size b 1);refine E.run (cf E.ps b) fun v u x E=>?_;subst x)|(refine wpList_buildTo rfl 40 #[(0,.const (i4 4)),(1,.tmp 54)] rfl _ rfl (lC 4 (takP 1 (needP kFROM s.next)).1 nl nl zE ⟨#[]⟩).toArray (by kernel_rfl) ?_)|(refine E.al rfl _ rfl rfl (cs:=zS) (t:=40) (by kernel_rfl) fun g u E=>?_)|(refine E.sw (j:=0) (ty:=40) rfl rfl rfl rfl rfl rfl (by kernel_rfl) (by kernel_rfl) (by rfl) fun u E=>?_)|(refine E.sw (j:=1) (ty:=40) rfl rfl rfl rfl rfl rfl (by kernel_rfl) (by kernel_rfl) (by rfl) fun u E=>?_)|(go_at_call 60;refine E.rdx (ve hr (by omega) E.ps b) fun U Z c2 u E=>?_)|(refine E.sm (j:=0) rfl rfl rfl rfl rfl (by first|exact cA rfl|exact cS rfl|exact cI rfl|exact cL rfl|exact cB rfl) (by kernel_rfl) (by kernel_rfl) (by kernel_rfl) fun u E=>?_)|(refine E.lw (j:=0) (ty:=40) rfl rfl rfl rfl (by kernel_rfl) ?_))
  rw[e.out]
  exact E.fi (j:=1) rfl rfl rfl rfl (by kernel_rfl) ⟨fb none none U 0 0 Z 0 0 c2,rfl,E.keep.imp fun u h=>StW.of (lK (by unfold I64;omega) y (Nat.zero_le _) (Nat.zero_le _) (Nat.zero_le _) cN cN h.2) rfl rfl⟩
 ·rw[f,if_neg (by simp),i,if_neg (by simp),l,if_neg (by simp),m,if_neg (by simp),p,if_pos rfl]at e
  have O:=au p
  go_wp2_with (first|(go_at_call 61;refine E.els (H p _ _ E.ps (by omega)) fun a u E=>?_)|(refine E.sw (j:=0) (ty:=40) rfl rfl rfl rfl rfl rfl (by kernel_rfl) (by kernel_rfl) (by rfl) fun u E=>?_))
  rw[e.out]
  exact E.fi (j:=0) rfl rfl rfl rfl (by kernel_rfl) ⟨a,rfl,E.keep.imp fun u h=>h.2⟩
 ·rw[f,if_neg (by simp),i,if_neg (by simp),l,if_neg (by simp),m,if_neg (by simp),p,if_neg (by simp),z,if_pos rfl]at e
  rw[e.out]
  exact E.fi (j:=0) rfl rfl rfl rfl (by kernel_rfl) ⟨fb none none none 0 0 0 0 0 0,rfl,E.keep.imp fun u _=>StW.of (dD (by unfold I64;omega) (Nat.zero_le _) (Nat.zero_le _)) rfl rfl⟩
 ·rw[f,if_neg (by simp),i,if_neg (by simp),l,if_neg (by simp),m,if_neg (by simp),p,if_neg (by simp),z,if_neg (by simp),C,if_pos rfl]at e
  rw[e.out]
  exact E.fi (j:=0) rfl rfl rfl rfl (by kernel_rfl) ⟨fb none none none 0 0 0 0 0 0,rfl,E.keep.imp fun u _=>StW.of (dD (by unfold I64;omega) (Nat.zero_le _) (Nat.zero_le _)) rfl rfl⟩
 ·rw[f,if_neg (by simp),i,if_neg (by simp),l,if_neg (by simp),m,if_neg (by simp),p,if_neg (by simp),z,if_neg (by simp),C,if_neg (by simp),J,if_pos rfl]at e
  rw[Y,if_pos rfl]at e
  go_wp2_with (first|(go_at_call 55;have y:=hid (E.ps.tak_size b 1);refine E.run (cf E.ps b) fun v u x E=>?_;subst x)|(refine wpList_buildTo rfl 40 #[(0,.const (i4 10)),(11,.tmp 79)] rfl _ rfl (lC 10 ⟨#[]⟩ nl nl zE (takP 1 s.next.next).1).toArray (by kernel_rfl) ?_)|(refine E.sw (j:=0) (ty:=40) rfl rfl rfl rfl rfl rfl (by kernel_rfl) (by kernel_rfl) (by rfl) fun u E=>?_))
  rw[e.out]
  exact E.fi (j:=0) rfl rfl rfl rfl (by kernel_rfl) ⟨fb none none none 0 0 0 0 0 0,rfl,E.keep.imp fun u _=>StW.of (dD (by unfold I64;omega) (Nat.zero_le _) y) rfl rfl⟩
 ·rw[f,if_neg (by simp),i,if_neg (by simp),l,if_neg (by simp),m,if_neg (by simp),p,if_neg (by simp),z,if_neg (by simp),C,if_neg (by simp),J,if_pos rfl]at e
  rw[Y,if_neg (by simp)]at e
  rw[e.out]
  exact E.fi (j:=0) rfl rfl rfl rfl (by kernel_rfl) ⟨fb none none none 0 0 0 0 0 0,rfl,E.keep.imp fun u _=>StW.of (dD (by unfold I64;omega) (Nat.zero_le _) (Nat.zero_le _)) rfl rfl⟩
 ·rw[f,if_neg (by simp),i,if_neg (by simp),l,if_neg (by simp),m,if_neg (by simp),p,if_neg (by simp),z,if_neg (by simp),C,if_neg (by simp),J,if_neg (by simp),K,if_pos rfl]at e
  go_wp2_with (first|(go_at_call 55;have y:=hid (E.ps.tak_size b 1);refine E.run (cf E.ps b) fun v u x E=>?_;subst x)|(refine wpList_buildTo rfl 40 #[(0,.const (i4 9)),(11,.tmp 86)] rfl _ rfl (lC 9 ⟨#[]⟩ nl nl zE (takP 1 s.next).1).toArray (by kernel_rfl) ?_)|(refine E.sw (j:=0) (ty:=40) rfl rfl rfl rfl rfl rfl (by kernel_rfl) (by kernel_rfl) (by rfl) fun u E=>?_))
  rw[e.out]
  exact E.fi (j:=0) rfl rfl rfl rfl (by kernel_rfl) ⟨fb none none none 0 0 0 0 0 0,rfl,E.keep.imp fun u _=>StW.of (dD (by unfold I64;omega) (Nat.zero_le _) y) rfl rfl⟩
 ·rw[f,if_neg (by simp),i,if_neg (by simp),l,if_neg (by simp),m,if_neg (by simp),p,if_neg (by simp),z,if_neg (by simp),C,if_neg (by simp),J,if_neg (by simp),K,if_neg (by simp),V,if_pos rfl]at e
  go_wp2_with (first|(go_at_call 55;have y:=hid (E.ps.tak_size b 1);refine E.run (cf E.ps b) fun v u x E=>?_;subst x)|(refine wpList_buildTo rfl 40 #[(0,.const (i4 11)),(11,.tmp 92)] rfl _ rfl (lC 11 ⟨#[]⟩ nl nl zE (takP 1 s.next).1).toArray (by kernel_rfl) ?_)|(refine E.sw (j:=0) (ty:=40) rfl rfl rfl rfl rfl rfl (by kernel_rfl) (by kernel_rfl) (by rfl) fun u E=>?_))
  rw[e.out]
  exact E.fi (j:=0) rfl rfl rfl rfl (by kernel_rfl) ⟨fb none none none 0 0 0 0 0 0,rfl,E.keep.imp fun u _=>StW.of (dD (by unfold I64;omega) (Nat.zero_le _) y) rfl rfl⟩
 ·rw[f,if_neg (by simp),i,if_neg (by simp),l,if_neg (by simp),m,if_neg (by simp),p,if_neg (by simp),z,if_neg (by simp),C,if_neg (by simp),J,if_neg (by simp),K,if_neg (by simp),V,if_neg (by simp)]at e
  rw[e.out]
  exact E.fi (j:=0) rfl rfl rfl rfl (by kernel_rfl) ⟨fb none none none 0 0 0 0 0 0,rfl,E.keep.imp fun u _=>StW.of (dD (by unfold I64;omega) (Nat.zero_le _) (Nat.zero_le _)) rfl rfl⟩
end
end
section
open Lx (Tk)
theorem bl {e:Program} {i:Func} {p q r:Tmp} {ty:TypeId} (h:i.results= #[.cell p ty,.tmp q,.tmp r]) (b:Array Value) (w:World) (g:Nat) (t:TypeId) (cs:Array Value) (j:Nat×Nat) (d:TypeDesc)
  (l:b.getD p undef= .pointer (some ⟨g,0,none⟩)) (k:w.heap[g]? =some (.cells cs t j))
  (m:e.underlying ty=some d) (hd:(match d with| .struct _| .array _ _=>true|_=>false)=true) (hi:(e.info? ty).map (·.size)=some cs.size):
  (results i b).run e w= .ok (.tuple #[.agg cs,b.getD q undef,b.getD r undef]) w:=by
 have f:b[p]?.getD undef= .pointer (some ⟨g,0,none⟩):=by simpa using l
 simp[results,h,f,asAddr,run_loadVar_row w g t ty cs j d k m hd hi]
theorem stE' {ops:Array Oper} {rest:List Oper} {o:Oper} {a:Act} {w:World} {Q:Exit→Act→World→Prop} {x y:Operand} (b:o.guard=none) (i:o.op= .store 37 x y) (hd:o.dst=none) (ds:LV) (j:a.eval x= .pointer (some ⟨w.heap.size,0,none⟩)) (k:a.eval y= .agg ds.toArray) {cs:LV} (g:cs.length=8) (e:ds.length=8) (f:ds.toArray.all (·.oneCell')=true)
  (h:wpList prog ops Q rest a (w.alloc (.cells ds.toArray 37))):wpList prog ops Q (o::rest) a (w.alloc (.cells cs.toArray 37)):=
 wpList_store_rowTo b 37 x y i hd w.heap.size ds.toArray j k 37 cs.toArray (heap_alloc_new w _) (by rw[size_toArray,e];kernel_rfl) (by rw[size_toArray,size_toArray,g,e]) f (by rw[World.setRow_alloc_new];exact h)
theorem kR {w0 w:World} (h:Ext w0 w) {g:Nat} (e:w0.heap.size≤g) (cs:Array Value):Ext w0 (w.setRow g cs):=h.grown (gQ w g cs) fun q b=>by have:=Option.some.inj b;omega
theorem qj {n g:Nat} {w:World} {Φ:World→Prop} (h:Stb (n≤·) w Φ) (f:g<n) (cs:Array Value):Stb (n≤·) (w.setRow g cs) Φ:=h.grown (gQ w g cs) fun q b e=>by
 have:=Option.some.inj e
 have b:n≤q:=b
 omega
theorem vo {w:World} {g T:Nat} {cs:LV} (h:Blk w g T cs):w.setRow g cs.toArray=w:=by
 have e:(w.setRow g cs.toArray).heap=w.heap:=by
  apply Array.ext_getElem?
  intro i
  unfold World.setRow
  simp only
  rw[Array.getElem?_modify]
  split
  ·next e=>subst e;unfold Blk at h;rw[h];rfl
  ·rfl
 cases w
 unfold World.setRow at e ⊢
 simp only at e ⊢
 rw[e]
theorem dT {P:Program} {ops:Array Oper} {w:World} {Q:Act→Prop} {a:Act} {o:Oper} {rest:List Oper} (b:o.guard=none) (ty:TypeId) {x y:Operand} (j:o.op= .store ty x y) (hd:o.dst=none) (g:Nat) (cs:LV) (k:a.eval x= .pointer (some ⟨g,0,none⟩)) (l:a.eval y= .agg cs.toArray)
  {T:Nat} (e:Blk w g T cs) (hi:(P.info? ty).map (·.size)=some cs.toArray.size) (f:cs.toArray.all (·.oneCell')=true) (h:wpStill P ops w Q rest a):wpStill P ops w Q (o::rest) a:=by
 refine wpStill_step fun K i=>?_
 rw[if_pos (by simp[Region.wanted,b])]
 unfold Oper.still execOp
 simp only[j,k,l,Instr.storeAt,Instr.sureAddr,Sem.run_bind,Sem.run_pure,Result.andThen_ok,run_storeVar_row w g T ty _ _ e hi rfl f,vo e]
 refine⟨rfl,?_⟩
 rw[hd]
 exact i _ h
def triB (cs:LV):Bool:=(List.range cs.length).all fun i=>match cs[i]?,cs[i+1]?,cs[i+2]? with|some (.int _ _),some (.string _),some (.int _ _)=>false|_,_,_=>true
theorem tB {w:World} {b f g T:Nat} {cs:LV} {r t:IntKind} {n p:Int} {u:BA} (h:Blk w g T cs) (m:triB cs=true) (j:w.cell? ⟨b,f,none⟩=some (.int r n)) (k:w.cell? ⟨b,f+1,none⟩=some (.string u)) (l:w.cell? ⟨b,f+2,none⟩=some (.int t p)):b≠g:=by
 intro e
 subst e
 have c0:=(h.cell f).symm.trans j
 have c1:=(h.cell (f+1)).symm.trans k
 have c2:=(h.cell (f+2)).symm.trans l
 have i:=List.all_eq_true.1 m f (List.mem_range.2 (List.getElem?_eq_some_iff.1 c0).1)
 rw[c0,c1,c2]at i
 cases i
theorem iQ (u:World):StW u stZ (fb none none none 0 0 0 0 0 0):=StW.of (dD (k:=0) (by unfold I64;omega) (Nat.zero_le _) (Nat.zero_le _)) rfl rfl
theorem tC (f:St→Int) (s:BA) (w:World) (hs:s.size≤20000) (hk:Lx.KwAt w)
  (D:∀(L:List Tk) (P:Nat) (A:OA) (c:Nat) (W0 W:World),Ext w W0→Lx.tokAll s= .ok L→PsAt 68 P A c L W0 W ⟨L,false⟩→Cl 29 #[.pointer (some ⟨P,0,none⟩)] W (Ran 68 P A c L W0 W (stmP (L.length+1) ⟨L,false⟩).2 fun v w'=>ElSt W.heap.size w' (stmP (L.length+1) ⟨L,false⟩).1 v))
  (F:∀(L:List Tk) (a:SA) (W:World),Ext w W→Lx.tokAll s= .ok L→(stmP (L.length+1) ⟨L,false⟩).2.bad=false→StW W (stmP (L.length+1) ⟨L,false⟩).1 a→Cl 31 #[St.val (stmP (L.length+1) ⟨L,false⟩).1 a] W (Rt (i4 (f (stmP (L.length+1) ⟨L,false⟩).1)) W)):
  Cl 13 #[.string s] w fun e w'=>Ext w w'∧∃a,e= .returned (.tuple #[St.val (parS f s).1 a,i4 (parS f s).2.1,i4 (parS f s).2.2])∧Stb (w.heap.size≤·) w' (fun u=>StW u (parS f s).1 a):=by
 have k:∀a x:Nat,Lx.tokAll s= .bad a x→parS f s=(stZ,(a:Int),(x:Int)):=fun a x h=>by unfold parS;rw[h]
 have z:∀L,Lx.tokAll s= .ok L→parS f s=if (endP (stmP (L.length+1) ⟨L,false⟩).2).bad=true then (stZ,((endP (stmP (L.length+1) ⟨L,false⟩).2).hd.pos:Int),2)else if f (stmP (L.length+1) ⟨L,false⟩).1=0 then ((stmP (L.length+1) ⟨L,false⟩).1,0,0)else (stZ,((⟨L,false⟩:Ps).hd.pos:Int),f (stmP (L.length+1) ⟨L,false⟩).1):=fun L h=>by
  unfold parS
  rw[h]
  simp only
  unfold eM
  cases hb:(endP (stmP (L.length+1) ⟨L,false⟩).2).bad<;>simp[hb]
 obtain⟨R,hR⟩:∃R,parS f s=R:=⟨_,rfl⟩
 rw[hR]at k z ⊢
 replace F:=hid F
 replace D:=hid D
 replace z:=hid z
 replace k:=hid k
 clear hR
 go_enter func13,ntmps13
 go_upto_region 1 with (refine Great.wpList_allocTo rfl _ rfl (.pointer (some ⟨_,0,none⟩)) (.cells zS.toArray 40) (by kernel_rfl) ?_)
 have m:=hid (x10 w (.cells zS.toArray 40))
 have B:=hid (Blk.of_new w 40 zS)
 generalize w.alloc (.cells zS.toArray 40)=w1 at*
 obtain⟨y,J⟩:∃g,w.heap.size=g:=⟨_,rfl⟩
 have HG:Hid (w.heap.size≤y):=Nat.le_of_eq J
 rw[J]at B ⊢
 have aS:=hid J
 clear J
 go_wp2_with fail
 refine(nM s w1 hs (hk.ext m)).mono ?_
 rintro _ w2 ⟨U,h|h⟩
 ·obtain⟨a,x,Z,bm,rfl⟩:=h
  have bn:¬((x:Int)=0):=by omega
  have a1:=hid (m.trans U)
  have ad:=hid (B.ext U)
  obtain rfl:=k a x Z
  clear m B U F D z k Z
  go_wp2_with (first|(refine wpList_buildTo rfl 40 _ rfl _ rfl zS.toArray (by kernel_rfl) ?_)|(refine stS rfl rfl rfl _ zS rfl rfl ad rfl rfl (by kernel_rfl) ?_))
  refine bodyPost_ret (v:=_) (bl (p:=2) (q:=3) (r:=4) (ty:=40) rfl _ _ y 40 _ _ _ (by rfl) (dN ad zS) underlying40 rfl (by kernel_rfl)) rfl ?_
  exact⟨kR a1 HG _,fb none none none 0 0 0 0 0 0,rfl,fun u _ _=>iQ u⟩
 ·obtain⟨L,P,A,c,Z,rfl,hp⟩:=h
  have hL:=gS Z
  have a7:=hL.len
  have n:=hid (z L Z)
  have V:Hid (y<P):=Nat.lt_of_lt_of_le B.lt hp.low
  have ag:Hid (y<w2.heap.size):=Nat.lt_trans V hp.lt
  have C:=hid (fun a W h1 h2 h3=>F L a W h1 Z h2 h3)
  have hc:=hid (D L P A c w1 w2 m Z hp)
  obtain⟨⟨X,s1⟩,hX⟩:∃x,stmP (L.length+1) ⟨L,false⟩=x:=⟨_,rfl⟩
  rw[hX]at n C hc
  simp only at n C hc
  have E:=En.start hp
  clear hp F D z k U
  go_upto_region 6 with (first
   |(refine E.al rfl _ rfl rfl (cs:=zS) (t:=40) (by kernel_rfl) fun g8 u E=>?_)
   |(refine E.sw (j:=0) (ty:=40) rfl rfl rfl rfl rfl rfl (by kernel_rfl) (by kernel_rfl) rfl fun u E=>?_)
   |(go_at_call 29;(with_reducible refine hc.out.mono ?_);rintro _ u3 ⟨_,rfl,g1,g2,a,rfl,g3⟩;replace E:=E.calls g1 g2 g3;clear g1 g2 g3 hc;unfold St.val)
   |(go_at_call 30;refine E.run (end_any E.ps hL) fun v u _ E=>?_))
  have I:Hid ((endP s1).bad=false→s1.bad=false):=fun h=>by
   unfold endP at h
   split at h
   ·exact h
   ·cases h
  generalize endP s1=s2 at*
  have p2:=E.ps.blk.cell_some (i:=2) rfl
  have H:=hid (B.ext E.ps.base)
  obtain⟨b,bo,hA,hb,c0,c1,c2⟩:=E.ps.cells
  have be:=E.ps.ne
  have bd:=E.ps.le
  obtain⟨t0,K⟩:∃t0,L[0]? =some t0:=⟨_,getElem?_eq_getElem (by omega)⟩
  have a0:Hid ((⟨L,false⟩:Ps).hd=t0):=by
   unfold Ps.hd
   cases L with
   |nil=>cases K
   |cons a l=>cases K;rfl
  obtain⟨b9,a6,Y,a2,d0,d1,d2⟩:=E.ps.tks 0 t0 K
  subst hA
  injection Y with Y
  injection Y with e1 e2
  subst e1 e2
  rw[Nat.zero_mul,Nat.add_zero]at d0 d1 d2
  have an:b≠y:=tB H (by rfl) d0 d1 d2
  have a4:¬(y=b):=fun e=>an e.symm
  have a8:¬(P=y):=by have:=V.out;omega
  have a3:¬(y=P):=by have:=V.out;omega
  have a5:¬(b=y):=an
  have ba:0<L.length:=by omega
  have a9:(0:Int)<(L.length:Int):=by omega
  obtain⟨p0,p1,-⟩:=cls E.ps.blk
  have hi:=E.ps.lti
  clear hb c0 c1 d0 d1 a2 K
  cases ax:s2.bad
  ·rw[ax]at p2 n I
   rw[if_neg (by simp)]at n
   have HW:=hid (C a _ (m.trans E.ps.base) (I rfl) E.stb.now.2)
   unfold St.val at HW
   clear C I
   by_cases hv:f X=0
   ·rw[if_pos hv]at n
    rw[hv]at HW
    obtain rfl:R=(X,0,0):=n.out
    clear n d2 p0 p1 c2
    go_wp2_with (first
     |(refine E.lw (j:=0) (ty:=40) rfl rfl rfl rfl (by kernel_rfl) ?_)
     |(go_at_call 31;(with_reducible refine HW.out.mono ?_);rintro _ u6 ⟨rfl,O⟩;replace E:=E.ext O;replace H:=hid (H.ext O);clear O)
     |(refine stS rfl rfl rfl _ (St.cells X a) rfl rfl H rfl rfl (by kernel_rfl) ?_))
    refine bodyPost_ret (v:=_) (bl (p:=2) (q:=3) (r:=4) (ty:=40) rfl _ _ y 40 _ _ _ (by rfl) (dN H (St.cells X a)) underlying40 rfl (by kernel_rfl)) rfl ?_
    exact⟨kR (m.trans E.ps.base) HG _,a,rfl,(qj (E.keep.imp fun u h=>h.2) ag _).weak fun q _ hq=>by have hq:w2.heap.size≤q:=hq;have:=ag.out;have:=aS.out;show w.heap.size≤q;omega⟩
   ·rw[if_neg hv]at n
    have bf:(f X !=0)=true:=by simpa using hv
    obtain rfl:R=(stZ,((t0.pos:Nat):Int),f X):=by rw[←a0.out];exact n
    clear n p1 c2 hi
    go_upto_region 10 with (first
     |(refine E.lw (j:=0) (ty:=40) rfl rfl rfl rfl (by kernel_rfl) ?_)
     |(go_at_call 31;(with_reducible refine HW.out.mono ?_);rintro _ u6 ⟨rfl,O⟩;replace E:=E.ext O;replace H:=hid (H.ext O);replace d2:=O.keep d2;replace p0:=O.keep p0;clear O))
    have G:=H.ext (Ext.refl _).drew
    refine wp_region_still_lit (by kernel_rfl) (by kernel_rfl) ?_
    iterate 9 still_step
    refine dT rfl 40 rfl rfl y zS rfl rfl G (by kernel_rfl) (by kernel_rfl) ?_
    iterate 2 still_step
    refine wpStill_nil ?_
    have ac:=(m.trans E.ps.base).trans (Ext.refl _).drew
    go_wp2_with fail
    refine bodyPost_ret (v:=_) (bl (p:=2) (q:=3) (r:=4) (ty:=40) rfl _ _ y 40 _ _ _ (by rfl) G underlying40 rfl (by kernel_rfl)) rfl ?_
    exact⟨ac,fb none none none 0 0 0 0 0 0,rfl,fun u _ _=>iQ u⟩
  ·rw[ax]at p2 n
   rw[if_pos rfl]at n
   obtain rfl:R=(stZ,((s2.hd.pos:Nat):Int),2):=n.out
   clear n C I d2
   have G:=H.ext (Ext.refl _).drew
   go_upto_region 7 with fail
   refine wp_region_still_lit (by kernel_rfl) (by kernel_rfl) ?_
   iterate 12 still_step
   refine dT rfl 40 rfl rfl y zS rfl rfl G (by kernel_rfl) (by kernel_rfl) ?_
   iterate 2 still_step
   refine wpStill_nil ?_
   have ac:=(m.trans E.ps.base).trans (Ext.refl _).drew
   go_wp2_with fail
   refine bodyPost_ret (v:=_) (bl (p:=2) (q:=3) (r:=4) (ty:=40) rfl _ _ y 40 _ _ _ (by rfl) G underlying40 rfl (by kernel_rfl)) rfl ?_
   exact⟨ac,fb none none none 0 0 0 0 0 0,rfl,fun u _ _=>iQ u⟩
theorem qV (i:Ex→Int) (s:BA) (w:World) (hs:s.size≤20000) (hk:Lx.KwAt w)
  (a9:∀(L:List Tk) (P:Nat) (A:OA) (c:Nat) (W0 W:World),Ext w W0→Lx.tokAll s= .ok L→PsAt 68 P A c L W0 W ⟨L,false⟩→Cl 39 #[.pointer (some ⟨P,0,none⟩)] W (Ran 68 P A c L W0 W (exprP (L.length+1) ⟨L,false⟩).2 fun v w'=>ExG W.heap.size w' (exprP (L.length+1) ⟨L,false⟩).1 v))
  (ba:∀(L:List Tk) (m:OA) (t c1:Nat) (W:World),Ext w W→Lx.tokAll s= .ok L→(exprP (L.length+1) ⟨L,false⟩).2.bad=false→ExV W (exprP (L.length+1) ⟨L,false⟩).1 m t c1→Cl 40 #[Nd.val (exprP (L.length+1) ⟨L,false⟩).1.d m t c1] W (Rt (i4 (i (exprP (L.length+1) ⟨L,false⟩).1)) W)):
  Cl 17 #[.string s] w fun e w'=>Ext w w'∧∃m t c1,e= .returned (.tuple #[Nd.val (parE i s).1.d m t c1,i4 (parE i s).2.1,i4 (parE i s).2.2])∧Stb (w.heap.size≤·) w' (fun u=>ExV u (parE i s).1 m t c1):=by
 have j:∀a x:Nat,Lx.tokAll s= .bad a x→parE i s=(exZ,(a:Int),(x:Int)):=fun a x h=>by unfold parE;rw[h]
 have B:∀L,Lx.tokAll s= .ok L→parE i s=if (endP (exprP (L.length+1) ⟨L,false⟩).2).bad=true then (exZ,((endP (exprP (L.length+1) ⟨L,false⟩).2).hd.pos:Int),2)else if i (exprP (L.length+1) ⟨L,false⟩).1=0 then ((exprP (L.length+1) ⟨L,false⟩).1,0,0)else (exZ,((⟨L,false⟩:Ps).hd.pos:Int),i (exprP (L.length+1) ⟨L,false⟩).1):=fun L h=>by
  unfold parE eM
  rw[h]
  simp only
  cases hb:(endP (exprP (L.length+1) ⟨L,false⟩).2).bad<;>simp[hb]
 obtain⟨R,hR⟩:∃R,parE i s=R:=⟨_,rfl⟩
 rw[hR]at j B ⊢
 have ad:=hid a9
 have an:=hid ba
 replace B:=hid B
 replace j:=hid j
 clear a9 ba hR
 go_enter func17,ntmps17
 go_upto_region 1 with fail
 have k:=hid (x10 w (.cells #[i4 0,.string ⟨#[]⟩,.string ⟨#[]⟩,i4 0,i4 0,i4 0,.string ⟨#[]⟩,.slice none 0 0] 37))
 have C:=hid (Blk.of_new w 37 eZ)
 generalize w.alloc (.cells #[i4 0,.string ⟨#[]⟩,.string ⟨#[]⟩,i4 0,i4 0,i4 0,.string ⟨#[]⟩,.slice none 0 0] 37)=w1 at*
 obtain⟨z,I⟩:∃g,w.heap.size=g:=⟨_,rfl⟩
 have HG:Hid (w.heap.size≤z):=Nat.le_of_eq I
 rw[I]at C ⊢
 have be:=hid I
 clear I
 go_wp2_with fail
 refine(nM s w1 hs (hk.ext k)).mono ?_
 rintro _ w2 ⟨K,h|h⟩
 ·obtain⟨a,x,ht,b6,rfl⟩:=h
  have b7:¬((x:Int)=0):=by omega
  have bo:=hid (k.trans K)
  have a0:=hid (C.ext K)
  obtain rfl:=j a x ht
  clear k C K ad an B j ht
  go_wp2_with (first|(refine wpList_buildTo rfl 37 _ rfl _ rfl #[i4 0,.string ⟨#[]⟩,.string ⟨#[]⟩,i4 0,i4 0,i4 0,.string ⟨#[]⟩,.slice none 0 0] (by kernel_rfl) ?_)|(refine stE rfl rfl rfl _ eZ rfl rfl a0 rfl rfl (by kernel_rfl) ?_))
  refine bodyPost_ret (v:=_) (bl (p:=2) (q:=3) (r:=4) (ty:=37) rfl _ _ z 37 _ _ _ (by rfl) (dN a0 eZ) underlying37 rfl (by kernel_rfl)) rfl ?_
  exact⟨kR bo HG _,none,0,0,rfl,fun u _ _=>eS u⟩
 ·obtain⟨L,P,A,c,ht,rfl,hp⟩:=h
  have hL:=gS ht
  have b0:=hL.len
  have y:=hid (B L ht)
  have Y:Hid (z<P):=Nat.lt_of_lt_of_le C.lt hp.low
  have a2:Hid (z<w2.heap.size):=Nat.lt_trans Y hp.lt
  have HC:=hid (ad L P A c w1 w2 k ht hp)
  have D:=hid (fun m t c1 W h1 h2 h3=>an L m t c1 W h1 ht h2 h3)
  have bf:=hid hp.lt
  obtain⟨⟨X,s1⟩,hX⟩:∃x,exprP (L.length+1) ⟨L,false⟩=x:=⟨_,rfl⟩
  rw[hX]at HC y D
  simp only at HC y D
  clear hX hp ad an B j K
  go_wp2_with fail
  refine HC.mono ?_
  rintro _ w3 ⟨_,rfl,h1,h2,m,t,c1,rfl,h3⟩
  have Z:=hid h1
  have a1:=hid h3
  clear h1 h2 h3 HC
  unfold Nd.val
  go_upto_region 5 with (first|(refine Great.wpList_allocTo rfl _ rfl (.pointer (some ⟨_,0,none⟩)) (.cells #[i4 0,.string ⟨#[]⟩,.string ⟨#[]⟩,i4 0,i4 0,i4 0,.string ⟨#[]⟩,.slice none 0 0] 37) (by kernel_rfl) ?_)|(refine stE' rfl rfl rfl (X.d.cells m t c1) rfl rfl (cs:=eZ) rfl rfl (by kernel_rfl) ?_))
  have hx:=x10 w3 (.cells ((X.d.cells m t c1)).toArray 37)
  have ac:=hid (Z.ext hx)
  have U:=hid (Stb.ext a1 hx)
  have H:=hid (Blk.of_new w3 37 (X.d.cells m t c1))
  have a3:Hid (P<w3.heap.size):=Z.lt
  clear hx Z a1
  generalize hw:World.alloc _ _=w4
  rw[hw]at ac U H
  obtain⟨g8,a7⟩:∃g,w3.heap.size=g:=⟨_,rfl⟩
  rw[a7]at H a3 ⊢
  clear hw a7
  go_wp2_with fail
  refine(end_any ac hL).mono ?_
  rintro _ w5 ⟨_,rfl,h1,h2,_⟩
  have f:=hid h1
  have ag:=hid (h2.blk H (by have:=a3.out;omega))
  have V:=hid (Stb.chg U h2 bf)
  have G:Hid ((endP s1).bad=false→s1.bad=false):=fun h=>by
   unfold endP at h
   split at h
   ·exact h
   ·cases h
  clear h1 h2 ac H U
  generalize endP s1=s2 at*
  have F:=hid (C.ext f.base)
  obtain⟨b,cb,hA,hb,c0,c1,c2⟩:=f.cells
  obtain⟨t0,J⟩:∃t0,L[0]? =some t0:=⟨_,getElem?_eq_getElem (by have:=f.ne;have:=f.le;omega)⟩
  have bm:Hid ((⟨L,false⟩:Ps).hd=t0):=by
   unfold Ps.hd
   cases L with
   |nil=>cases J
   |cons a l=>cases J;rfl
  obtain⟨b9,bY,ax,bv,d0,d1,d2⟩:=f.tks 0 t0 J
  subst hA
  injection ax with ax
  injection ax with e1 e2
  subst e1 e2
  rw[Nat.zero_mul,Nat.add_zero]at d0 d1 d2
  have a6:b≠z:=tB F (by rfl) d0 d1 d2
  have bx:¬(z=b):=fun e=>a6 e.symm
  have b1:¬(P=z):=by have:=Y.out;omega
  have bw:¬(z=P):=by have:=Y.out;omega
  have bN:¬(b=z):=a6
  have b3:0<L.length:=by have:=f.ne;have:=f.le;omega
  have b2:(0:Int)<(L.length:Int):=by have:=f.ne;have:=f.le;omega
  obtain⟨p0,p1,p2,-⟩:=cls f.blk
  have hi:=f.lti
  have b5:=f.ne
  have b4:=f.le
  clear hb c0 c1 d0 d1 bv J
  cases a8:s2.bad
  ·rw[a8]at p2 y G
   have a5:=hid (D m t c1 w5 (k.trans f.base) (G rfl) V.now)
   rw[if_neg (by simp)]at y
   clear D G
   go_wp2_with (first|(refine ldE rfl rfl _ rfl ag rfl ?_))
   refine a5.mono ?_
   rintro _ w6 ⟨rfl,n⟩
   have a4:=hid (f.ext n)
   have O:=hid (F.ext n)
   have bn:=hid (ag.ext n)
   have bd:=hid (Stb.ext V n)
   replace d2:=n.keep d2
   replace p0:=n.keep p0
   clear a5 n f F ag V p1 p2 c2
   by_cases hv:i X=0
   ·rw[if_pos hv]at y
    rw[hv]
    obtain rfl:R=(X,0,0):=y.out
    clear y d2 p0
    go_wp2_with (first|(refine ldE rfl rfl _ rfl bn rfl ?_)|(refine stE rfl rfl rfl _ (X.d.cells m t c1) rfl rfl O rfl rfl (by kernel_rfl) ?_))
    refine bodyPost_ret (v:=_) (bl (p:=2) (q:=3) (r:=4) (ty:=37) rfl _ _ z 37 _ _ _ (by rfl) (dN O (X.d.cells m t c1)) underlying37 rfl (by kernel_rfl)) rfl ?_
    exact⟨kR (k.trans a4.base) HG _,m,t,c1,rfl,(qj bd a2 _).weak fun q _ hq=>by have hq:w2.heap.size≤q:=hq;have:=a2.out;have:=be.out;show w.heap.size≤q;omega⟩
   ·rw[if_neg hv]at y
    obtain rfl:R=(exZ,((t0.pos:Nat):Int),i X):=by rw[←bm.out];exact y
    clear y
    have E:=O.ext (Ext.refl w6).drew
    go_upto_region 10 with fail
    refine wp_region_still_lit (by kernel_rfl) (by kernel_rfl) ?_
    iterate 9 still_step
    refine dT rfl 37 rfl rfl z eZ rfl rfl E (by kernel_rfl) (by kernel_rfl) ?_
    iterate 2 still_step
    refine wpStill_nil ?_
    have aS:=(k.trans a4.base).trans (Ext.refl w6).drew
    go_wp2_with fail
    refine bodyPost_ret (v:=_) (bl (p:=2) (q:=3) (r:=4) (ty:=37) rfl _ _ z 37 _ _ _ (by rfl) (E) underlying37 rfl (by kernel_rfl)) rfl ?_
    exact⟨aS,none,0,0,rfl,fun u _ _=>eS u⟩
  ·rw[a8]at p2 y
   rw[if_pos rfl]at y
   obtain rfl:R=(exZ,((s2.hd.pos:Nat):Int),2):=y.out
   clear y D G d2
   have E:=F.ext (Ext.refl w5).drew
   go_upto_region 7 with fail
   refine wp_region_still_lit (by kernel_rfl) (by kernel_rfl) ?_
   iterate 12 still_step
   refine dT rfl 37 rfl rfl z eZ rfl rfl E (by kernel_rfl) (by kernel_rfl) ?_
   iterate 2 still_step
   refine wpStill_nil ?_
   have aS:=(k.trans f.base).trans (Ext.refl w5).drew
   go_wp2_with fail
   refine bodyPost_ret (v:=_) (bl (p:=2) (q:=3) (r:=4) (ty:=37) rfl _ _ z 37 _ _ _ (by rfl) (E) underlying37 rfl (by kernel_rfl)) rfl ?_
   exact⟨aS,none,0,0,rfl,fun u _ _=>eS u⟩
end
section
open Lx (Tk)
abbrev DV (n0 gs M:Nat) (V:List Vb) (tb:BA) (d:Df) (l:List BA) (v1 v2 v3 v4:Value) (x1 x2 x3 x4:LV):List Vb:=
 ow n0 99 6 v1 d.cols.length x1::ow n0 101 1 v2 d.keys.length x2::ow n0 103 3 v3 d.frs.length x3::ow n0 37 8 v4 d.chk.length x4::mp M l::bk gs 40 (i4 1:: .string tb::v1::v2::v3::v4::zS.drop 6)::V
abbrev DP (d:Df) (x1 x2 x3 x4:LV) (u:World):Prop:=Els nR 6 d.cols x1 u∧Els qd 1 d.keys x2 u∧Els qe 3 d.frs x3 u∧Els Phiex 8 d.chk x4 u
def DfE (P:Nat) (A:OA) (c:Nat) (L:List Tk) (w0 wi:World) (gs M:Nat) (V:List Vb) (tb:BA) (w:World) (s:Ps) (d:Df) (l:List BA):Prop:=
 ∃v1 v2 v3 v4 x1 x2 x3 x4,En 68 P A c L w0 wi w s (DV wi.heap.size gs M V tb d l v1 v2 v3 v4 x1 x2 x3 x4) (DP d x1 x2 x3 x4)
section
variable {P c:Nat} {A:OA} {L:List Tk} {w0 wi w:World} {s:Ps}
theorem ql {n:Nat} {ex:M Ex} (hr:Rdr 68 P A c L w0 n 39 ex) (hn:s.r.length<n) (hE:Er w0) (p:TkL L) {gs M:Nat} {V:List Vb} {tb:BA} {d:Df} {l:List BA} (hb:d.cols.length≤1000000∧d.keys.length≤1000000∧d.frs.length≤1000000∧d.chk.length≤1000000∧l.length≤1000000000)
  (E:DfE P A c L w0 wi gs M V tb w s d l):Cl 99 #[.pointer (some ⟨P,0,none⟩),.pointer (some ⟨gs,2,none⟩),.map (some M)] w fun e w'=>e= .returned (.tuple #[])∧DfE P A c L w0 wi gs M V tb w' (elemP ex d l s).2 (elemP ex d l s).1.1 (elemP ex d l s).1.2:=by
 obtain⟨v1,v2,v3,v4,x1,x2,x3,x4,E⟩:=E
 obtain⟨a2,a3,a4,a5,a6⟩:=hb
 have f:Hid (elemP ex d l s=if isS eI s=true then (({ d with keys:=d.keys++ [(namesP (needP kKEY s.next)).1] },l++(namesP (needP kKEY s.next)).1),(namesP (needP kKEY s.next)).2)else if isS fC s=true then (({ d with keys:=d.keys++ [(namesP s.next).1] },l),(namesP s.next).2)else if isS iu s=true then (({ d with chk:=d.chk++ [(ex (needP yLp s.next)).1] },l),needP yRp (ex (needP yLp s.next)).2)else if isS ea s=true then (({ d with frs:=d.frs++ [(refP (needP kKEY s.next)).1] },l),(refP (needP kKEY s.next)).2)else (({ d with cols:=d.cols++ [(ek s).1] },l),(ek s).2)):=rfl
 obtain⟨R,hR⟩:∃R,elemP ex d l s=R:=⟨_,rfl⟩
 rw[hR]at f ⊢
 clear hR
 go_enter func99,ntmps99
 go_wp2_with (first|(go_at_call 53;refine E.tk p eI rfl (fun Z u E=>?_) (fun Z u E=>?_))|(go_at_call 53;refine E.tk p fC rfl (fun h2 u E=>?_) (fun h2 u E=>?_))|(go_at_call 53;refine E.tk p iu rfl (fun h3 u E=>?_) (fun h3 u E=>?_))|(go_at_call 53;refine E.tk p ea rfl (fun h4 u E=>?_) (fun h4 u E=>?_)))
 ·rw[Z,if_pos rfl]at f
  go_wp2_with (first|(go_at_call 44;refine E.nd p kKEY rfl rfl fun v u E=>?_)|(refine E.nms p fun B k u hk E=>?_))
  obtain⟨⟨ks,s1⟩,J⟩:∃x,namesP (needP kKEY s.next)=x:=⟨_,rfl⟩
  rw[J]at f hk E ⊢
  simp only at f hk E ⊢
  clear J
  have a8:(0:Int)≤(ks.length:Int):=by omega
  go_loopw [31] (fun iv wr=> ∃j:Nat,j≤ks.length∧iv= i4 j∧En 68 P A c L w0 wi wr s1 (DV wi.heap.size gs M V tb d (l++ks.take j) v1 v2 v3 v4 x1 x2 x3 x4) (fun u=>DP d x1 x2 x3 x4 u∧bi u B ks)) (fun i _=>ks.length- (intOf i).toNat)
  case atStart=>exact⟨0,Nat.zero_le _,rfl,by simpa using E⟩
  case round=>
   clear E
   obtain⟨j,hj,rfl,E⟩:=hrel
   by_cases ad:j<ks.length
   ·obtain⟨hz,b,bd,rfl,z⟩:=E.stb.now.2 j _ (getElem?_eq_getElem ad)
    have i0:(0:Int)≤(j:Int):=by omega
    have i1:(j:Int)<(ks.length:Int):=by omega
    have ag:=hid hz
    go_wp2_with (refine E.mput (j:=4) rfl rfl rfl underlying134 rfl (by rw[length_append,length_take];omega) ks[j] ag rfl rfl fun u E=>?_)
    exact⟨⟨j+1,by omega,by go_num,by rw[take_add_one,getElem?_eq_getElem ad,←append_assoc];exact E⟩,by simp[intOf];omega⟩
   ·obtain rfl:j=ks.length:=by omega
    rw[take_length]at E
    have a7:([.slice B ks.length k]:LV).length=1:=rfl
    go_wp2_with (first|(refine E.l1 (j:=5) rfl rfl rfl rfl rfl (by kernel_rfl) ?_)|(at_builtin;refine E.ap ks tu (j:=1) rfl rfl rfl rfl rfl rfl rfl (by simp[Value.oneCell']) (by omega) fun m F c' u C E=>?_)|(refine E.sm (j:=5) rfl rfl rfl rfl rfl (by first|exact cA rfl|exact cS rfl|exact cI rfl|exact cL rfl|exact cB rfl) (by kernel_rfl) (by kernel_rfl) (by kernel_rfl) fun u E=>?_))
    obtain rfl:=C.out
    rw[f.out]
    exact bodyPost_end (v:= .tuple #[]) (by simp[results,results99,go_sem]) rfl ⟨rfl,_,_,_,_,_,_,_,_,E.imp fun u h=>⟨h.1.1,Els.snoc h.1.2.1 rfl ⟨B,k,rfl,hk,h.2⟩,h.1.2.2⟩⟩
 ·rw[Z,if_neg (by simp),h2,if_pos rfl]at f
  obtain⟨⟨ks,s1⟩,J⟩:∃x,namesP s.next=x:=⟨_,rfl⟩
  rw[J]at f
  simp only at f
  have X:=(E.get (j:=5) rfl).cell_some (i:=3) rfl
  replace E:=hid (E.ext (Ext.refl _).drew)
  have z2:=(E.get (j:=5) rfl).cell_some (i:=3) rfl
  go_upto_region 11 with fail
  go_region_law (first
   |(refine E.aps ks tu (j:=1) rfl rfl rfl rfl rfl rfl rfl (by simp[Value.oneCell']) (by omega) fun m F c' u C E=>?_;have z9:=(E.get (j:=5) rfl).cell_some (i:=3) rfl;have y9:=(E.get (j:=5) rfl).frozen 3;replace E:=hid E)
   |(go_simp;(go_at_call 176;have z:=rB E.ps p;rw[J]at z;(with_reducible refine z.mono ?_);rintro _ W ⟨v,rfl,G,H,B,k,rfl,hk,I⟩;replace E:=hid (E.calls G H I);have HK:=hid hk;clear G H I hk z);have Y:=(E.get (j:=5) rfl).cell_some (i:=3) rfl;have z4:=fun o=> (x10 W o).keep Y))
  all_goals
   replace E:=E.set (j:=5) rfl 3 (.slice F m.length c')
   go_wp2_with fail
   obtain rfl:=C.out
   rw[f.out]
   exact bodyPost_end (v:= .tuple #[]) (by simp[results,results99,go_sem]) rfl ⟨rfl,_,_,_,_,_,_,_,_,E.imp fun u h=>⟨h.1.1,Els.snoc h.1.2.1 rfl ⟨B,k,rfl,HK,h.2⟩,h.1.2.2⟩⟩
 ·rw[Z,if_neg (by simp),h2,if_neg (by simp),h3,if_pos rfl]at f
  have a9:=au h3
  have a0:=aA yLp s.next
  go_upto_region 14 with (go_at_call 44;refine E.nd p yLp rfl rfl fun v u E=>?_)
  obtain⟨s2,a1⟩:∃x,needP yLp s.next=x:=⟨_,rfl⟩
  obtain⟨⟨y,s3⟩,hy⟩:∃x,ex s2=x:=⟨_,rfl⟩
  rw[a1]at f E a0
  rw[hy]at f
  simp only at f
  have D:=(E.own (j:=3) rfl).1
  obtain⟨ax,cx,rfl⟩:=ca (E.own (j:=3) rfl)
  have ba:(0:Int)≤(d.chk.length:Int):=by omega
  go_cut [] from 68 to 79 (fun wx=> ∃(m:List Ex) (F:OA) (c':Nat) (B:OA) (k c2:Nat),m=d.chk++ [y]∧En 68 P A c L w0 wi wx s3 (DV wi.heap.size gs M V tb { d with chk:=m } l v1 v2 v3 (.slice F m.length c') x1 x2 x3 (x4++y.d.cells B k c2)) (fun u=>DP d x1 x2 x3 x4 u∧ExV u y B k c2))
  case first=>
   have X:=(E.get (j:=5) rfl).cell_some (i:=5) rfl
   have E0:=hid E
   replace E:=hid (E.ext (Ext.refl _).drew)
   have z2:=(E.get (j:=5) rfl).cell_some (i:=5) rfl
   have be:=fun o=> ((Ext.refl u.drew).alloc o).keep z2
   have z5:=fun o=> (x10 u o).keep X
   have z6:=fun o=> (x10 u o).drew.keep X
   go_region_law (first
    |(refine E.aps y ap_ex (j:=3) rfl rfl rfl rfl rfl rfl rfl (by simp[Value.oneCell']) (by omega) fun m F c' u C E=>?_;have ib:=snoc_lt C;obtain⟨g7,rfl⟩:=nQ (E.own (j:=3) rfl) (by omega);replace E:=hid E;first|(obtain⟨⟨e0,e1,e2,e3,e4,e5,e6,e7⟩,⟨f0,f1,f2,f3,f4,f5,f6,f7⟩,n1,n2⟩:=E.last8 (j:=3) (k:=5) rfl D rfl (by decide);have z9:=(E.get (j:=5) rfl).cell_some (i:=5) rfl;have y9:=(E.get (j:=5) rfl).frozen 5)|skip)
    |(refine E.apBs y ap_ex (j:=4) (jb:=0) rfl rfl rfl rfl rfl rfl rfl (by simp[Value.oneCell']) (by omega) fun m F c' u C E=>?_;replace E:=E.pop;have ib:=snoc_lt C;obtain⟨g7,rfl⟩:=nQ (E.own (j:=3) rfl) (by omega);replace E:=hid E;first|(obtain⟨⟨e0,e1,e2,e3,e4,e5,e6,e7⟩,⟨f0,f1,f2,f3,f4,f5,f6,f7⟩,n1,n2⟩:=E.last8 (j:=3) (k:=5) rfl D rfl (by decide);have z9:=(E.get (j:=5) rfl).cell_some (i:=5) rfl;have y9:=(E.get (j:=5) rfl).frozen 5)|skip)
    |(go_simp;go_at_call 39;obtain⟨y5,s5,K,z⟩:=hr.at_ E.ps (by omega);cases hy.symm.trans K;(with_reducible refine z.mono ?_);rintro _ W ⟨O,U,c2,rfl,G,H,I⟩;replace E:=hid (E.calls G H I);clear G H I K z;have Y:=(E.get (j:=5) rfl).cell_some (i:=5) rfl;have z4:=fun o=> (x10 W o).keep Y;first|(obtain⟨⟨e0,e1,e2,e3,e4,e5,e6,e7⟩,⟨f0,f1,f2,f3,f4,f5,f6,f7⟩,n1,n2⟩:=E.last8 (j:=3) (k:=5) rfl D rfl (by decide);have z9:=(E.get (j:=5) rfl).cell_some (i:=5) rfl;have y9:=(E.get (j:=5) rfl).frozen 5)|skip)
    |(go_simp;go_at_call 39;replace E:=hid ((E0.alloc 37 zE).ext (Ext.refl _).drew);obtain⟨y5,s5,K,z⟩:=hr.at_ E.ps (by omega);cases hy.symm.trans K;(with_reducible refine z.mono ?_);rintro _ W ⟨O,U,c2,rfl,G,H,I⟩;replace E:=hid (E.calls G H I);clear G H I K z;have Y:=(E.get (j:=6) rfl).cell_some (i:=5) rfl;have z4:=fun o=> (x10 W o).keep Y;first|(obtain⟨⟨e0,e1,e2,e3,e4,e5,e6,e7⟩,⟨f0,f1,f2,f3,f4,f5,f6,f7⟩,n1,n2⟩:=E.last8 (j:=3) (k:=5) rfl D rfl (by decide);have z9:=(E.get (j:=5) rfl).cell_some (i:=5) rfl;have y9:=(E.get (j:=5) rfl).frozen 5)|skip))
   all_goals
    have E1:=(E.last (j:=3) (ds:=y.d.cells O U c2) rfl D rfl).set (j:=5) rfl 5 (.slice (some ⟨g7,0,none⟩) m.length c')
    have E2:=(E.set (j:=5) rfl 5 (.slice (some ⟨g7,0,none⟩) m.length c')).last (j:=3) (ds:=y.d.cells O U c2) rfl D rfl
    simp only[sts,Nd.cells,Nat.add_assoc,Nat.reduceAdd]at E1 E2
    go_wp2_with fail
    go_meet
    first|exact⟨m,_,c',O,U,c2,C,E1.at_ (by with_reducible rfl)⟩|exact⟨m,_,c',O,U,c2,C.out,E2.at_ (by with_reducible rfl)⟩
  case rest=>
   obtain⟨m,F,c',B,k,c2,rfl,E⟩:=hcut
   go_wp2_with (go_at_call 44;refine E.nd p yRp rfl rfl fun v u E=>?_)
   rw[f.out]
   exact bodyPost_end (v:= .tuple #[]) (by simp[results,results99,go_sem]) rfl ⟨rfl,_,_,_,_,_,_,_,_,E.imp fun u h=>⟨h.1.1,h.1.2.1,h.1.2.2.1,Els.snoc h.1.2.2.2 rfl ⟨B,k,c2,rfl,h.2⟩⟩⟩
 ·rw[Z,if_neg (by simp),h2,if_neg (by simp),h3,if_neg (by simp),h4,if_pos rfl]at f
  go_upto_region 19 with (first|(go_at_call 44;refine E.nd p kKEY rfl rfl fun v u E=>?_)|(refine E.nms p fun B1 k1 u an E=>?_)|(refine E.al rfl _ rfl rfl (cs:= [.slice none 0 0,.string ⟨#[]⟩,.slice none 0 0]) (t:=103) (by kernel_rfl) fun g u E=>?_)|(refine E.sw (j:=0) (ty:=103) rfl rfl rfl rfl rfl rfl (by kernel_rfl) (by kernel_rfl) rfl fun u E=>?_))
  go_upto_region 22 with (first|(go_at_call 44;refine E.nd p kREFERENCES rfl rfl fun v u E=>?_)|(refine E.nms p fun O U u aS E=>?_)|(go_at_call 55;have hz:=hid (E.ps.tak_size p 1);refine E.run (cf E.ps p) fun v u hv E=>?_;subst hv)|(refine E.sm (j:=0) rfl rfl rfl rfl rfl (by first|exact cA rfl|exact cS rfl|exact cI rfl|exact cL rfl|exact cB rfl) (by kernel_rfl) (by kernel_rfl) (by kernel_rfl) fun u E=>?_))
  obtain⟨r0,r1,r2,-⟩:=cls (E.get (j:=0) rfl)
  have X:=(E.get (j:=6) rfl).cell_some (i:=4) rfl
  replace E:=hid (E.ext (Ext.refl _).drew)
  obtain⟨d0,d1,d2,-⟩:=cls (E.get (j:=0) rfl)
  have z2:=(E.get (j:=6) rfl).cell_some (i:=4) rfl
  have z4:=fun o=> ((Ext.refl u.drew).alloc o).keep z2
  have z5:=fun o=> (x10 u o).keep X
  have z6:=fun o=> (x10 u o).drew.keep X
  go_region_law (refine E.aps ⟨(namesP (needP kKEY s.next)).1,(takP 1 (needP kREFERENCES (namesP (needP kKEY s.next)).2)).1,(namesP (takP 1 (needP kREFERENCES (namesP (needP kKEY s.next)).2)).2).1⟩ ap_ref (j:=3) rfl rfl rfl rfl rfl rfl rfl (by simp[Value.oneCell']) (by omega) fun m F c' u C E=>?_;have z9:=(E.get (j:=6) rfl).cell_some (i:=4) rfl;have y9:=(E.get (j:=6) rfl).frozen 4;replace E:=hid E)
  all_goals
   replace E:=(E.set (j:=6) rfl 4 (.slice F m.length c')).pop
   go_wp2_with fail
   obtain rfl:=C.out
   rw[f.out]
   exact bodyPost_end (v:= .tuple #[]) (by simp[results,results99,go_sem]) rfl ⟨rfl,_,_,_,_,_,_,_,_,E.imp fun u h=>⟨h.1.1.1,h.1.1.2.1,Els.snoc h.1.1.2.2.1 rfl ⟨B1,k1,O,U,rfl,by have:=hz.out;exact Nat.le_trans this (by omega),an,aS,h.1.2,h.2⟩,h.1.1.2.2.2⟩⟩
 ·rw[Z,if_neg (by simp),h2,if_neg (by simp),h3,if_neg (by simp),h4,if_neg (by simp)]at f
  obtain⟨⟨cd,s1⟩,ac⟩:∃x,ek s=x:=⟨_,rfl⟩
  rw[ac]at f
  simp only at f
  have X:=(E.get (j:=5) rfl).cell_some (i:=2) rfl
  replace E:=hid (E.ext (Ext.refl _).drew)
  have z2:=(E.get (j:=5) rfl).cell_some (i:=2) rfl
  go_upto_region 0 with fail
  go_region_law (first
   |(refine E.aps cd ap_col (j:=0) rfl rfl rfl rfl rfl rfl rfl (by simp[Value.oneCell']) (by omega) fun m F c' u C E=>?_;have z9:=(E.get (j:=5) rfl).cell_some (i:=2) rfl;have y9:=(E.get (j:=5) rfl).frozen 2;replace E:=hid E)
   |(go_simp;(go_at_call 177;have z:=qU hE E.ps p;rw[ac]at z;(with_reducible refine z.mono ?_);rintro _ W ⟨v,rfl,G,H,rfl,I⟩;replace E:=hid (E.call G H);have HK:=hid I;clear G H I z);have Y:=(E.get (j:=5) rfl).cell_some (i:=2) rfl;have z4:=fun o=> (x10 W o).keep Y))
  all_goals
   replace E:=E.set (j:=5) rfl 2 (.slice F m.length c')
   go_wp2_with fail
   obtain rfl:=C.out
   rw[f.out]
   exact bodyPost_end (v:= .tuple #[]) (by simp[results,results99,go_sem]) rfl ⟨rfl,_,_,_,_,_,_,_,_,E.imp fun u h=>⟨Els.snoc h.1 rfl ⟨rfl,HK⟩,h.2⟩⟩
end
end
section
open Lx (Tk)
theorem vq {sz:Nat} :∀(b:List (LV)),(∀cs∈b,cs.length=sz)→∀(i j:Nat) (cs:LV) (u:Value),b[i]? =some cs→j<sz→b.flatten.set (i*sz+j) u=(b.set i (cs.set j u)).flatten
 | [],_,i,j,cs,u,h,_=>by simp at h
 |x::b,he,i,j,cs,u,h,hj=>by
  have e:=he x (mem_cons_self ..)
  rw[flatten_cons]
  cases i with
  |zero=>
   simp at h
   subst h
   rw[set_append_left _ _ (by omega),set_cons_zero,flatten_cons]
   simp
  |succ i=>
   rw[set_append_right _ _ (by rw[e,Nat.succ_mul];omega),e,show(i+1)*sz+j-sz=i*sz+j by rw[Nat.succ_mul];omega,set_cons_succ,flatten_cons]
   rw[vq b (fun c f=>he c (mem_cons_of_mem _ f)) i j cs u (by simpa using h) hj]
theorem Els.nn {w:World} {cols:List Cd} {t:LV} {i:Nat} {y:Cd} (b:Bool) (h:Els nR 6 cols t w) (hi:cols[i]? =some y):Els nR 6 (cols.set i { y with nn:=b }) (t.set (i*6+5) (.bool b)) w:=by
 obtain⟨e,u,x,n,p⟩:=h
 have m:=(List.getElem?_eq_some_iff.1 hi).1
 obtain⟨c,r⟩:∃c,e[i]? =some c:=⟨_,getElem?_eq_getElem (by omega)⟩
 obtain⟨rfl,g⟩:=p i y c hi r
 refine⟨e.set i [.string y.nm,i4 y.ty,i4 y.lo,i4 y.hi,i4 y.mx,.bool b],?_,by simp[x],fun z g=>?_,fun j z B k l=>?_⟩
 ·rw[←u]
  exact(vq e n i 5 _ (.bool b) r (by omega)).symm
 ·rcases mem_or_eq_of_mem_set g with g|rfl
  ·exact n z g
  ·rfl
 ·by_cases f:i=j
  ·subst f
   rw[getElem?_set_self m]at k
   rw[getElem?_set_self (by omega)]at l
   cases k
   cases l
   exact⟨rfl,g⟩
  ·rw[getElem?_set_ne f]at k
   rw[getElem?_set_ne f]at l
   exact p j z B k l
theorem tD (l:List BA) (cols:List Cd) {k:Nat} {y:Cd} (h:cols[k]? =some y) (b:Bool) (g:b=(y.nn||l.contains y.nm)):((cols.take k).map (nnC l)++cols.drop k).set k { y with nn:=b } =(cols.take (k+1)).map (nnC l)++cols.drop (k+1)∧((cols.take k).map (nnC l)++cols.drop k)[k]? =some y:=by
 obtain⟨i,e⟩:=List.getElem?_eq_some_iff.1 h
 have f:((cols.take k).map (nnC l)).length=k:=by rw[length_map,length_take];omega
 rw[drop_eq_getElem_cons i,e]
 refine⟨?_,by rw[getElem?_append_right (by omega),f,Nat.sub_self];rfl⟩
 rw[set_append_right _ _ (by omega),f,Nat.sub_self,set_cons_zero,take_add_one,h,map_append,append_assoc]
 subst g
 rfl
section
variable {P c:Nat} {A:OA} {L:List Tk} {w0 w:World} {s:Ps}
theorem create_rd {n:Nat} {ex:M Ex} (hr:Rdr 68 P A c L w0 n 39 ex) (I:Fwd ex) (hn:s.r.length<n) (hE:Er w0) (hp:PsAt 68 P A c L w0 w s) (G:TkL L):
  Cl 54 #[.pointer (some ⟨P,0,none⟩)] w (Ran 68 P A c L w0 w (createP ex s).2 fun v w'=>ElSt w.heap.size w' (createP ex s).1 v):=by
 have E:=En.start hp
 have a0:=G.len
 have bd:=hp.le
 have a5:=fwd_tak 1 (needP kTABLE s)
 have a6:=aA kTABLE s
 have an:=aA yLp (takP 1 (needP kTABLE s)).2
 obtain⟨f,W⟩:∃x,needP yLp (takP 1 (needP kTABLE s)).2=x:=⟨_,rfl⟩
 rw[W]at an
 have HM:Hid (createP ex s=(creS (takP 1 (needP kTABLE s)).1 (bL ex f).1,needP yRp (bL ex f).2)):=by subst W;rfl
 obtain⟨R,hR⟩:∃R,createP ex s=R:=⟨_,rfl⟩
 rw[hR]at HM ⊢
 clear hR hp
 have a9:= @run_makeMap prog
 go_enter func54,ntmps54
 go_upto_region 1 with (refine E.al rfl _ rfl rfl (cs:=zS) (t:=40) (by kernel_rfl) fun g0 u E=>?_)
 go_upto_region 5 with (first|(go_at_call 44;refine E.nd G kTABLE rfl rfl fun v u E=>?_)|(go_at_call 44;refine E.nd G yLp rfl rfl fun v u E=>?_)|(go_at_call 55;have hz:=hid (E.ps.tak_size G 1);refine E.run (cf E.ps G) fun v u hv E=>?_;subst hv)|(refine E.al rfl _ rfl rfl (cs:=zS) (t:=40) (by kernel_rfl) fun gv u E=>?_)|(refine wpList_buildTo rfl 40 _ rfl _ rfl (i4 1:: .string (takP 1 (needP kTABLE s)).1::zS.drop 2).toArray (by kernel_rfl) ?_)|(refine E.sw (j:=0) (ty:=40) rfl rfl rfl rfl rfl rfl (by kernel_rfl) (by kernel_rfl) rfl fun u E=>?_))
 obtain⟨X,hX⟩:∃x,(takP 1 (needP kTABLE s)).1=x:=⟨_,rfl⟩
 rw[hX]at HM hz E ⊢
 rw[W]at E
 replace E:=(((E.map.row0 (α:=Ex) w.heap.size 37 8).row0 (α:=Rf) w.heap.size 103 3).row0 (α:=List BA) w.heap.size 101 1).row0 (α:=Cd) w.heap.size 99 6
 have D:DfE P A c L w0 w gv u.heap.size [bk g0 40 zS] X (u.alloc (.map #[] 0)) f ⟨[],[],[],[]⟩ []:=⟨nl,nl,nl,nl,[],[],[],[],E.imp fun u _=>⟨Els.nil,Els.nil,Els.nil,Els.nil⟩⟩
 clear E
 obtain⟨M,hM⟩:∃M,u.heap.size=M:=⟨_,rfl⟩
 rw[hM]at D ⊢
 replace D:=hid D
 generalize World.alloc _ _=w5 at*
 go_wp2_with (go_at_call 99;refine(ql hr (by omega) hE G (by simp) D).mono ?_;rintro _ u ⟨rfl,D⟩;replace D:=hid D)
 obtain⟨FR,ac⟩:∃x,bL ex f=x:=⟨_,rfl⟩
 have C:=vm ex f
 rw[ac]at HM C
 have z:=qh (ex:=ex) ⟨[],[],[],[]⟩ [] f
 have B:=nT I ⟨[],[],[],[]⟩ [] f
 have p:=mA I ⟨[],[],[],[]⟩ [] f
 obtain⟨⟨⟨d1,l1⟩,s4⟩,H⟩:∃x,elemP ex ⟨[],[],[],[]⟩ [] f=x:=⟨_,rfl⟩
 rw[H]at D C z B p
 simp only[length_nil]at z B p
 clear H ac
 go_loopw [22] (fun _ wr=> ∃(m:Nat) (st:Ps) (d:Df) (l:List BA),FR=cm ex m d l st∧(st.r.length<m∧st.r.length≤f.r.length∧l.length+st.r.length≤f.r.length+1∧(d.cols.length+st.r.length≤f.r.length+1∧d.keys.length+st.r.length≤f.r.length+1∧d.frs.length+st.r.length≤f.r.length+1∧d.chk.length+st.r.length≤f.r.length+1))∧DfE P A c L w0 w gv M [bk g0 40 zS] X wr st d l) (fun _ wr=>20001-posOf P wr)
 case atStart=>exact⟨_,s4,d1,l1,C,by omega,D⟩
 case round=>
  clear C z B p D
  obtain⟨m,st,d,l,C,hB,D⟩:=hrel
  obtain⟨m,rfl⟩:∃x,m=x+1:=⟨m-1,by omega⟩
  rw[jZ]at C
  have HB:=hid hB
  have O:Hid (posOf P wr=L.length-st.r.length∧st.r.length≤L.length):=by obtain⟨_,_,_,_,_,_,_,_,E⟩:=D;exact⟨E.ps.posOf,E.ps.le⟩
  replace C:=hid C
  clear hB
  obtain⟨v1,v2,v3,v4,x1,x2,x3,x4,E⟩:=D
  go_wp2_with (go_at_call 53;refine E.tk G yCm rfl (fun hb u E=>?_) (fun hb u E=>?_))
  ·have D:Hid (DfE P A c L w0 w gv M [bk g0 40 zS] X u st.next d l):=⟨v1,v2,v3,v4,x1,x2,x3,x4,E⟩
   clear E
   have a8:=au hb
   have hB:=HB.out
   go_wp2_with (go_at_call 99;refine(ql hr (by omega) hE G (by omega) D).mono ?_;rintro _ u ⟨rfl,D⟩;replace D:=hid D)
   have e:=C.out
   rw[if_pos hb]at e
   have z:=qh (ex:=ex) d l st.next
   have B:=nT I d l st.next
   have p:=mA I d l st.next
   obtain⟨⟨⟨d2,l2⟩,s5⟩,H⟩:∃x,elemP ex d l st.next=x:=⟨_,rfl⟩
   rw[H]at D e z B p
   simp only at z B p e
   have aS:posOf P u=L.length-s5.r.length:=by obtain⟨_,_,_,_,_,_,_,_,E⟩:=D.out;exact E.ps.posOf
   exact⟨⟨m,s5,d2,l2,e,by omega,D⟩,by rw[aS,O.out.1];have:=O.2;omega⟩
  ·have e:FR=((d,l),st):=by have h:=C.out;rwa [if_neg (by rw[hb];simp)]at h
   rw[e]at HM
   have hB:=HB.out
   clear C e O HB
   obtain⟨Ac,cc,rfl⟩:=ca (E.own (j:=0) rfl)
   have be:(0:Int)≤(d.cols.length:Int):=by omega
   have a1:=hid hM
   clear hM
   go_wp2_with (first|(go_at_call 44;refine E.nd G yRp rfl rfl fun v u E=>?_)|(refine E.l1 (j:=5) rfl rfl rfl rfl rfl (by kernel_rfl) ?_))
   go_loopw [34] (fun iv wr=> ∃(k:Nat) (cs:List Cd) (x1:LV),k≤d.cols.length∧iv= i4 k∧cs=(d.cols.take k).map (nnC l)++d.cols.drop k∧En 68 P A c L w0 w wr (needP yRp st) (DV w.heap.size gv M [bk g0 40 zS] X { d with cols:=cs } l (.slice Ac cs.length cc) v2 v3 v4 x1 x2 x3 x4) (DP { d with cols:=cs } x1 x2 x3 x4)) (fun i _=>d.cols.length- (intOf i).toNat)
   case atStart=>exact⟨0,d.cols,x1,Nat.zero_le _,rfl,rfl,E⟩
   case round=>
    clear E
    obtain⟨k,cs,y1,hk,rfl,F,E⟩:=hrel
    have a2:cs.length=d.cols.length:=by rw[F,length_append,length_map,length_take,length_drop];omega
    by_cases ax:k<d.cols.length
    ·obtain⟨⟨nm,ty,lo,hi,mx,nn⟩,hy⟩:∃y,d.cols[k]? =some y:=⟨_,getElem?_eq_getElem ax⟩
     obtain⟨b,U⟩:∃b,b=(nn||l.contains nm):=⟨_,rfl⟩
     obtain⟨V,K⟩:=tD l d.cols hy b U
     rw[←F]at V K
     obtain⟨gr,rfl⟩:=nQ (E.own (j:=0) rfl) (by omega)
     obtain⟨cz,ag,⟨rfl,ad⟩,J⟩:=E.stb.now.1.get K
     have i0:(0:Int)≤(k:Int):=by omega
     have i1:(k:Int)<(d.cols.length:Int):=by omega
     have i2:(k:Int)<(cs.length:Int):=by omega
     have Y:=hid (And.intro V (And.intro K (And.intro U ad.1)))
     replace J:=hid J
     clear V K ad hy ag F U
     go_upto_region 12 with (first|(refine E.lr [.string nm,i4 ty,i4 lo,i4 hi,i4 mx,.bool nn] (j:=0) (ty:=99) rfl rfl rfl rfl J (by kernel_rfl) ?_)|(refine E.al rfl _ rfl rfl (cs:= [.string ⟨#[]⟩,i4 0,i4 0,i4 0,i4 0,.bool false]) (t:=99) (by kernel_rfl) fun g u E=>?_)|(refine E.sw (j:=0) (ty:=99) rfl rfl rfl rfl rfl rfl (by kernel_rfl) (by kernel_rfl) rfl fun u E=>?_;have ho:=E.own (j:=1) rfl;have a4:=(ho.cellAt (k*6+5) (by omega)).trans (J 5 _ rfl);have a3:=ho.frozenAt (k*6+5);have ba:=(E.get (j:=0) rfl).cell_some (i:=0) rfl;have a7:=(E.look (j:=5) rfl).look (t:=134) underlying9 underlying134 underlying4 rfl nm Y.2.2.2))
     have E2:=(E.setr (j:=1) rfl (k*6+5) (.bool b)).pop
     have h9:cs.length=(cs.set k ⟨nm,ty,lo,hi,mx,b⟩).length:=by rw[length_set]
     have E3:=hid E2
     clear E2
     cases nn
     all_goals
      go_wp2_with (first|(refine E.l1 (j:=0) rfl rfl rfl rfl rfl (by kernel_rfl) ?_)|(refine E.l1 (j:=6) rfl rfl rfl rfl rfl (by kernel_rfl) ?_))
      have Z:=E3.out
      rw[h9]at Z
      refine⟨⟨k+1,_,y1.set (k*6+5) (.bool b),by omega,by go_num,Y.1,?_⟩,by simp[intOf];omega⟩
      first|(rw[show b=true from Y.out.2.2.1]at Z ⊢;exact Z.imp fun u h=>⟨Els.nn _ h.1 Y.2.1,h.2⟩)|(rw[show b=l.contains nm from Y.out.2.2.1]at Z ⊢;exact Z.imp fun u h=>⟨Els.nn _ h.1 Y.2.1,h.2⟩)
    ·obtain rfl:k=d.cols.length:=by omega
     rw[take_length,drop_length,append_nil]at F
     subst F
     obtain⟨B2,c2,rfl⟩:=ca (E.own (j:=1) rfl)
     obtain⟨B3,c3,rfl⟩:=ca (E.own (j:=2) rfl)
     obtain⟨B4,c4,rfl⟩:=ca (E.own (j:=3) rfl)
     go_wp2_with (first|(refine E.lw (j:=5) (ty:=40) rfl rfl rfl rfl (by kernel_rfl) ?_)|(refine E.sw (j:=6) (ty:=40) rfl rfl rfl rfl rfl rfl (by kernel_rfl) (by kernel_rfl) rfl fun u E=>?_))
     rw[HM.out]
     refine E.fi (j:=6) rfl rfl rfl rfl (by kernel_rfl) ⟨⟨⟨Ac,(d.cols.map (nnC l)).length,cc⟩,⟨B2,d.keys.length,c2⟩,⟨B3,d.frs.length,c3⟩,⟨B4,d.chk.length,c4⟩,⟨none,0,0⟩,⟨none,0,0⟩,⟨none,0,0⟩,⟨none,0,0⟩,⟨none,0,0⟩,⟨none,0,0⟩,⟨none,0,0⟩⟩,rfl,E.all2.imp fun u h=>?_⟩
     have k1:=h.1.1.lst' (h.2 0 _ rfl)
     have k2:=h.1.2.1.lst' (h.2 1 _ rfl)
     have k3:=h.1.2.2.1.lst' (h.2 2 _ rfl)
     have k4:=h.1.2.2.2.lst' (h.2 3 _ rfl)
     exact⟨by rw[length_map];exact create_st hz (by omega) (lst_cds k1) (vj k2) (lst_rfs k3) (jY k4),vg k2,vh k3⟩
end
end
section
open Lx (Tk)
section
variable {P c:Nat} {A:OA} {L:List Tk} {w0 w:World} {s:Ps}
theorem item_rd {n:Nat} {ex:M Ex} (O:Rdr 68 P A c L w0 n 39 ex) (hn:s.r.length<n) (hp:PsAt 68 P A c L w0 w s) (f:TkL L):
  Cl 103 #[.pointer (some ⟨P,0,none⟩)] w (Ran 68 P A c L w0 w (cY ex s).2 fun v w'=>ElG bA 9 w.heap.size w' (cY ex s).1 v):=by
 have e:Hid (cY ex s=match (firstP opsAgg s).1 with|some o=> (if o=2 then ifM cZ (ay (aE yRp) fun _=>aH ⟨1,exZ⟩) (itm1 ex o)else itm1 ex o) (needP yLp (firstP opsAgg s).2)|none=> (⟨0,(ex s).1⟩,(ex s).2)):=rfl
 obtain⟨R,hR⟩:∃R,cY ex s=R:=⟨_,rfl⟩
 rw[hR]at e ⊢
 have E:=En.start hp
 clear hR hp
 go_enter func103,ntmps103
 go_wp2_with (refine E.al rfl _ rfl rfl (cs:=(i4 0::zE)) (t:=84) (by kernel_rfl) fun g0 u E=>?_)
 generalize F:World.alloc _ _=w2
 replace E:=hid (dq (cs:=symCs opsAgg) E F)
 obtain⟨gs,p⟩:∃x,u.heap.size=x:=⟨_,rfl⟩
 rw[p]at E ⊢
 clear F p
 go_loopw [4,12] (fun _ U wr=> ∃k:Nat,k≤4∧U= i4 k∧firstP opsAgg s=firstP (opsAgg.drop k) s∧En 68 P A c L w0 w wr s [bk gs 120 (symCs opsAgg),bk g0 84 (i4 0::zE)] (fun _=>True)) (fun _ U _=>4- (intOf U).toNat)
 case atStart=>exact⟨0,by omega,rfl,rfl,E⟩
 case round=>
  clear E
  obtain⟨k,hk,rfl,b,E⟩:=hrel
  replace E:=hid E
  generalize wr=W at*
  by_cases C:k<4
  ·obtain⟨⟨t,q⟩,I⟩:∃x,opsAgg[k]? =some x:=⟨_,getElem?_eq_getElem (by show k<4;exact C)⟩
   have i:opsAgg.drop k=(t,q)::opsAgg.drop (k+1):=by
    obtain⟨h1,h2⟩:=List.getElem?_eq_some_iff.1 I
    rw[drop_eq_getElem_cons h1,h2]
   rw[i,firstP]at b
   have X:Hid (I64 q∧(q=2∨¬q=2)):=by
    have J:∀x∈opsAgg,I64 x.2:=by unfold I64;decide
    exact⟨J _ (mem_of_getElem? I),by omega⟩
   obtain⟨Y,Z⟩:=kM opsAgg k (t,q) I
   have s0:=(E.get (j:=0) rfl).cell_some Y
   have V:=(E.get (j:=0) rfl).cell_some Z
   have i0:(0:Int)≤(k:Int):=by omega
   have i1:(k:Int)<4:=by omega
   clear i I Y Z
   replace b:=hid b
   go_upto_region 4 with fail
   generalize F:World.alloc _ _=an
   replace E:=dq (cs:= [.string t,i4 q]) E F
   obtain⟨gy,z⟩:∃x,W.heap.size=x:=⟨_,rfl⟩
   rw[z]at E ⊢
   clear F z s0 V
   go_wp2_with (first|(refine E.l1 (j:=0) rfl rfl rfl rfl rfl (by kernel_rfl) ?_)|(go_at_call 53;refine E.tk f t rfl (fun H u E=>?_) (fun H u E=>?_)))
   ·have m:firstP opsAgg s=(some q,s.next):=by rw[b.out,if_pos H]
    rw[m]at e
    have ac:=au H
    clear b m
    have ad:=aA yLp s.next
    rcases X.out.2 with rfl|hq
    ·go_wp2_with (first|(refine E.lw (j:=0) (ty:=84) rfl rfl rfl rfl (by kernel_rfl) ?_)|(refine E.l1 (j:=0) rfl rfl rfl rfl rfl (by kernel_rfl) ?_)|(refine E.l1 (j:=1) rfl rfl rfl rfl rfl (by kernel_rfl) ?_)|(go_at_call 44;refine E.nd f yLp rfl rfl fun v u E=>?_)|(go_at_call 44;refine E.nd f yRp rfl rfl fun v u E=>?_)|(refine E.al rfl _ rfl rfl (cs:=(i4 0::zE)) (t:=84) (by kernel_rfl) fun g u E=>?_)|(refine wpList_buildTo rfl 84 _ rfl _ rfl (i4 2::zE).toArray (by kernel_rfl) ?_)|(go_at_call 53;refine E.tk f cZ rfl (fun hs u E=>?_) (fun hs u E=>?_))|(go_at_call 39;refine E.rd O (by first|omega|(have:=au hs;omega)) fun y G B k c1 u D E=>?_)|(refine E.sw (j:=0) (ty:=84) rfl rfl rfl rfl rfl rfl (by kernel_rfl) (by kernel_rfl) rfl fun u E=>?_)|(refine E.sw (j:=3) (ty:=84) rfl rfl rfl rfl rfl rfl (by kernel_rfl) (by kernel_rfl) rfl fun u E=>?_)|(refine E.sm (j:=0) rfl rfl rfl rfl rfl (by first|exact cA rfl|exact cS rfl|exact cI rfl|exact cL rfl|exact cB rfl) (by kernel_rfl) (by kernel_rfl) (by kernel_rfl) fun u E=>?_))
     ·obtain rfl:R=(⟨1,exZ⟩,needP yRp (needP yLp s.next).next):=by rw[e.out];simp only[ifM,hs,ay,aE,aH,if_true]
      exact E.outG (j:=3) rfl rfl rfl rfl (by kernel_rfl) (by kernel_rfl) (by kernel_rfl) fun u h=>⟨none,0,0,by kernel_rfl,rv,eS u⟩
     ·obtain rfl:R=(⟨2,y⟩,needP yRp G):=by rw[e.out];simp only[ifM,hs,itm1,ay,aE,aH,if_true,Bool.false_eq_true,if_false,D]
      exact E.outG (j:=3) rfl rfl rfl rfl (by kernel_rfl) (by kernel_rfl) (by kernel_rfl) fun u h=>⟨B,k,c1,by kernel_rfl,lb,h.2⟩
    ·have ag:(q==2)=false:=by simpa using hq
     have HQ:=hid hq
     clear hq
     go_wp2_with (first|(refine E.lw (j:=0) (ty:=84) rfl rfl rfl rfl (by kernel_rfl) ?_)|(refine E.l1 (j:=0) rfl rfl rfl rfl rfl (by kernel_rfl) ?_)|(refine E.l1 (j:=1) rfl rfl rfl rfl rfl (by kernel_rfl) ?_)|(go_at_call 44;refine E.nd f yLp rfl rfl fun v u E=>?_)|(go_at_call 44;refine E.nd f yRp rfl rfl fun v u E=>?_)|(refine E.al rfl _ rfl rfl (cs:=(i4 0::zE)) (t:=84) (by kernel_rfl) fun g u E=>?_)|(refine wpList_buildTo rfl 84 _ rfl _ rfl (i4 q::zE).toArray (by kernel_rfl) ?_)|(go_at_call 53;refine E.tk f cZ rfl (fun hs u E=>?_) (fun hs u E=>?_))|(go_at_call 39;refine E.rd O (by first|omega|(have:=au hs;omega)) fun y G B k c1 u D E=>?_)|(refine E.sw (j:=0) (ty:=84) rfl rfl rfl rfl rfl rfl (by kernel_rfl) (by kernel_rfl) rfl fun u E=>?_)|(refine E.sw (j:=3) (ty:=84) rfl rfl rfl rfl rfl rfl (by kernel_rfl) (by kernel_rfl) rfl fun u E=>?_)|(refine E.sm (j:=0) rfl rfl rfl rfl rfl (by first|exact cA rfl|exact cS rfl|exact cI rfl|exact cL rfl|exact cB rfl) (by kernel_rfl) (by kernel_rfl) (by kernel_rfl) fun u E=>?_))
     obtain rfl:R=(⟨q,y⟩,needP yRp G):=by rw[e.out];simp only[if_neg HQ.out,itm1,ay,aE,aH,D]
     exact E.outG (j:=3) rfl rfl rfl rfl (by kernel_rfl) (by kernel_rfl) (by kernel_rfl) fun u h=>⟨B,k,c1,by kernel_rfl,X.1,h.2⟩
   ·have K:firstP opsAgg s=firstP (opsAgg.drop (k+1)) s:=by rw[b.out,if_neg (by rw[H];simp)]
    exact⟨⟨k+1,by omega,by go_num,K,E.pop⟩,by simp[intOf];omega⟩
  ·obtain rfl:k=4:=by omega
   have l:firstP opsAgg s=(none,s):=b
   rw[l]at e
   clear l b C hk
   replace E:=E.out
   go_wp2_with (first|(go_at_call 39;refine E.rd O (by omega) fun y G B k c1 u D E=>?_)|(refine wpList_buildTo rfl 84 _ rfl _ rfl (i4 0::y.d.cells B k c1).toArray (by kernel_rfl) ?_)|(refine E.sw (j:=1) (ty:=84) rfl rfl rfl rfl rfl rfl (by kernel_rfl) (by kernel_rfl) rfl fun u E=>?_))
   obtain rfl:R=(⟨0,y⟩,G):=by rw[e.out];simp only[D]
   exact E.outG (j:=1) rfl rfl rfl rfl (by kernel_rfl) (by kernel_rfl) (by kernel_rfl) fun u h=>⟨B,k,c1,by kernel_rfl,cy,h.2⟩
end
end
section
open Lx (Tk)
abbrev qC (i f:Value) (W:LV) (g r:Value) (l:Int):LV:= i4 5:: .string ⟨#[]⟩::nl::nl::nl::nl::nl::nl::i::f::(W++ [g,r,i4 l,.string ⟨#[]⟩])
abbrev QV (n0 gv g0:Nat) (xs:List Ex) (vx:Value) (xx:LV) (fs:List Src) (vf:Value) (xf:LV) (cs:LV):List Vb:= [ow n0 37 8 vx xs.length xx,ow n0 86 2 vf fs.length xf,bk gv 40 cs,bk g0 40 zS]
abbrev QP (B:OA) (I:List Itm) (xs:List Ex) (xx:LV) (fs:List Src) (xf:LV) (u:World):Prop:=Lst bA 9 u B I∧Els cF 2 fs xf u∧Els Phiex 8 xs xx u
theorem Els.ex {e:List Ex} {f:LV} {w:World} {j:Nat} {y:Ex} (h:Els Phiex 8 e f w) (l:e[j]? =some y):∃B k c,(∀(i:Nat) (v:Value),(y.d.cells B k c)[i]? =some v→f[j*8+i]? =some v)∧∀u,Els Phiex 8 e f u→ExV u y B k c:=by
 obtain⟨_,p,⟨B,k,c,rfl,r⟩,g⟩:=h.get l
 refine⟨B,k,c,g,fun u n=>?_⟩
 obtain⟨_,m,⟨o,t,c',rfl,b⟩,a⟩:=n.get l
 cases (g 7 _ rfl).symm.trans (a 7 _ rfl)
 exact b
theorem mB:Fwd srcP:=az (fwd_tak 1) fun _=>de _ (az (fwd_tak 1) fun _=>aK _) (aK _)
theorem isS_kd {t:BA} {s:Ps} (h:isS t s=true):s.hd.kind≠0:=by
 simp[isS]at h
 omega
section
variable {P c:Nat} {A:OA} {L:List Tk} {w0 w:World} {s:Ps}
theorem En.isk {f:World} {V:List Vb} {Φ:World→Prop} {Q:Ending→World→Prop} {x:Array Value} {b:Bool} (E:En 68 P A c L w0 f w s V Φ) (g:TkL L) (t:BA) (a:x= #[.pointer (some ⟨P,0,none⟩),.string t]) (i:isS t s=b) (k:∀w',En 68 P A c L w0 f w' s V Φ→Q (.returned (.bool b)) w'):Cl 98 x w Q:=
 a ▸ (is_any E.ps g t).mono fun e w' ⟨h,a⟩=>by rw[h,i];exact k w' (E.ext a)
theorem query_rd {n:Nat} {ex:M Ex} (hr:Rdr 68 P A c L w0 n 39 ex) (ag:Fwd ex) (hn:s.r.length<n) (hE:Er w0) (hp:PsAt 68 P A c L w0 w s) (C:TkL L):
  Cl 61 #[.pointer (some ⟨P,0,none⟩)] w (Ran 68 P A c L w0 w (queryP ex posP andL s).2 fun v w'=>ElSt w.heap.size w' (queryP ex posP andL s).1 v):=by
 have E:=En.start hp
 have c8:=C.len
 have dw:=hp.le
 clear hp
 go_enter func61,ntmps61
 go_upto_region 1 with (refine E.al rfl _ rfl rfl (cs:=zS) (t:=40) (by kernel_rfl) fun g0 u E=>?_)
 go_upto_if 11 with (first|(refine E.al rfl _ rfl rfl (cs:=zS) (t:=40) (by kernel_rfl) fun gv u E=>?_)|(refine wpList_buildTo rfl 40 _ rfl _ rfl (qC nl nl zE nl nl 0).toArray (by kernel_rfl) ?_)|(refine E.sw (j:=0) (ty:=40) rfl rfl rfl rfl rfl rfl (by kernel_rfl) (by kernel_rfl) rfl fun u E=>?_)|(go_at_call 53;refine E.tkb C cZ rfl fun u E=>?_))
 obtain⟨q,U⟩:∃q,isS cZ s=q:=⟨_,rfl⟩
 rw[U]
 have J:=hid U
 clear U
 go_cut [] from 12 to 16 (fun wx=> ∃(B:OA) (k:Nat) (I:List Itm) (st:Ps),itmsP ex s=(I,st)∧I.length≤20001∧st.r.length≤s.r.length∧En 68 P A c L w0 w wx st ([bk gv 40 (qC (.slice B I.length k) nl zE nl nl 0),bk g0 40 zS]) (fun u=>Lst bA 9 u B I))
 case first=>
  cases q
  ·rw[show optP cZ s=s by simp[optP,J.out]]at E
   have ba:Fwd (cY ex):=sI _ (fun o=>az (aP _) fun _=>by split;exact de _ (az (aP _) fun _=>aK _) (az ag fun _=>az (aP _) fun _=>aK _);exact az ag fun _=>az (aP _) fun _=>aK _) (az ag fun _=>aK _)
   have HL:=hid (And.intro (fwd_list ba s) (list_len ba s))
   go_wp2_with (first|(refine E.ls (list_itm 103 (fun _ _=>rfl) (cY ex) ba E.ps C fun W st h hs=>item_rd hr (by omega) h C) fun B k u hk E=>?_)|(refine E.sm (j:=0) rfl rfl rfl rfl rfl (by first|exact cA rfl|exact cS rfl|exact cI rfl|exact cL rfl|exact cB rfl) (by kernel_rfl) (by kernel_rfl) (by kernel_rfl) fun u E=>?_))
   go_meet
   exact⟨B,k,_,_,by unfold itmsP ifM;rw[J.out];rfl,by have:=HL.2;omega,HL.1,E.imp fun u h=>h.2⟩
  ·rw[show optP cZ s=s.next by simp[optP,J.out]]at E
   go_wp2_with fail
   go_meet
   exact⟨none,0,[],s.next,by unfold itmsP ifM;rw[J.out];rfl,by simp,next_len s,E.imp fun u _ i a h=>by cases h⟩
 case rest=>
  obtain⟨B,k,I,s1,b1,b2,c7,E⟩:=hcut
  have HI:=hid (And.intro b1 b2)
  clear b1 b2
  generalize wc=d1 at*
  have cz:=aA kFROM s1
  go_upto_region 5 with (go_at_call 44;refine E.nd C kFROM rfl rfl fun v u E=>?_)
  obtain⟨s2,a1⟩:∃x,needP kFROM s1=x:=⟨_,rfl⟩
  rw[a1]at E cz
  replace E:=(E.row0 (α:=Src) w.heap.size 86 2).row0 (α:=Ex) w.heap.size 37 8
  replace E:=E.imp (Ψ:=QP B I [] [] [] []) fun u h=>⟨h,Els.nil,Els.nil⟩
  have ck:=hid a1
  clear a1
  obtain⟨⟨sr,s3⟩,K⟩:∃x,srcP s2=x:=⟨_,rfl⟩
  have F:=mB s2
  rw[K]at F
  simp only at F
  have cl:([]:List Src).length≤20001:=by first|omega|simp
  go_cut [] from 20 to 25 (fun wx=> ∃(R:List Src) (A2:OA) (c2:Nat),R= []++ [sr]∧En 68 P A c L w0 w wx s3 (QV w.heap.size gv g0 ([]:List Ex) nl [] R (.slice A2 R.length c2) ([]++ [.string sr.tb,.string sr.al]) (qC (.slice B I.length k) (.slice A2 R.length c2) zE nl nl 0)) (fun u=>QP B I ([]:List Ex) [] R ([]++ [.string sr.tb,.string sr.al]) u))
  case first=>
   have z1:=(E.get (j:=2) rfl).cell_some (i:=9) rfl
   replace E:=hid (E.ext (Ext.refl _).drew)
   have z2:=(E.get (j:=2) rfl).cell_some (i:=9) rfl
   go_region_law (first
    |(refine E.aps sr qc (j:=1) rfl rfl rfl rfl rfl rfl rfl (by simp[Value.oneCell']) (by omega) fun l' A' c' u hl E=>?_;have z9:=(E.get (j:=2) rfl).cell_some (i:=9) rfl;have y9:=(E.get (j:=2) rfl).frozen 9;replace E:=hid E)
    |(go_simp;go_at_call 104;have hc:=rF E.ps C;rw[K]at hc;(with_reducible refine hc.mono ?_);rintro _ u3 ⟨v,rfl,g1,g2,rfl,g3⟩;replace E:=hid (E.call g1 g2);have HK:=hid g3;clear g1 g2 g3 hc;have z3:=(E.get (j:=2) rfl).cell_some (i:=9) rfl;have z4:=fun o=> (x10 u3 o).keep z3))
   all_goals
    replace E:=E.set (j:=2) rfl 9 (.slice A' l'.length c')
    go_wp2_with fail
    go_meet
    exact⟨l',A',c',hl,E.imp fun u h=>⟨h.1,by rw[hl.out];exact Els.snoc h.2.1 rfl ⟨rfl,HK⟩,h.2.2⟩⟩
  case rest=>
   obtain⟨f1,Q,V,a8,E⟩:=hcut
   generalize wc=d2 at*
   obtain⟨FR,a6⟩:∃x,fromP ex s2=x:=⟨_,rfl⟩
   have be:Hid (fromGo ex (s2.r.length+1) f1 [] s3=FR):=by
    unfold Hid
    rw[←a6,from_eq,K,a8]
    rfl
   have bx:f1.length=1:=by rw[a8];rfl
   have HF:=hid a6
   clear a6 a8 K
   go_wp2_with fail
   go_loopw [4] (fun xv wr=> ∃(m:Nat) (p:List Src) (Z:List Ex) (st:Ps) (Q:OA) (V:Nat) (Ax:OA) (kx:Nat) (xx xf:LV),xv= .slice Ax Z.length kx∧fromGo ex m p Z st=FR∧st.r.length<m∧st.r.length≤s2.r.length∧p.length+st.r.length≤s2.r.length+1∧Z.length+st.r.length≤s2.r.length+1∧En 68 P A c L w0 w wr st (QV w.heap.size gv g0 Z (.slice Ax Z.length kx) xx p (.slice Q p.length V) xf (qC (.slice B I.length k) (.slice Q p.length V) zE nl nl 0)) (fun u=>QP B I Z xx p xf u)) (fun _ wr=>20001-posOf P wr)
   case atStart=>exact⟨_,f1,[],s3,Q,V,none,0,[],_,rfl,be,by omega,F,by omega,by simp only[length_nil];omega,E⟩
   case round=>
    clear E be F bx
    obtain⟨m,p,Z,st,Q,V,Ax,kx,xx,xf,rfl,z,hm,c3,c1,c4,E⟩:=hrel
    generalize wr=d3 at*
    have a3:=hid E.ps.posOf
    have bf:=hid (And.intro E.ps.le E.ps.ne)
    have a1:s2.r.length≤20000:=by omega
    by_cases a7:isS yCm st=false∧isS jx st=false
    rotate_left
    ·obtain⟨m,rfl⟩:∃x,m=x+1:=⟨m-1,by omega⟩
     obtain⟨b,a0,ac⟩:∃b,isS jx st=b∧isS yCm st=!b:=by
      cases h1:isS yCm st
      ·refine⟨true,?_,rfl⟩
       cases h2:isS jx st
       ·exact absurd ⟨h1,h2⟩ a7
       ·rfl
      ·exact⟨false,not_both h1,rfl⟩
     have df:st.next.r.length+1=st.r.length:=by cases b<;>first|exact au a0|exact au ac
     have ct:st.hd.kind≠0:=by cases b<;>first|exact isS_kd a0|exact isS_kd ac
     rw[j3]at z
     clear a7
     have ds:((L.length-st.r.length:Nat):Int)≤20000:=by omega
     cases b
     all_goals
      simp only[Bool.not_true,Bool.not_false]at ac
      go_upto_region 10 with (first|(go_at_call 98;refine E.isk C yCm rfl ac fun u E=>?_;have p1:=E.ps.blk.cell_some (i:=1) rfl;have f1:=E.ps.blk.frozen 1)|(go_at_call 98;refine E.isk C jx rfl a0 fun u E=>?_;have p1:=E.ps.blk.cell_some (i:=1) rfl;have f1:=E.ps.blk.frozen 1))
      replace E:=E.next C ct
      generalize World.setCell _ ⟨P,1,none⟩ _=d4 at*
      obtain⟨⟨sr,s3⟩,K⟩:∃x,srcP st.next=x:=⟨_,rfl⟩
      have F:=mB st.next
      rw[K]at F
      simp only at F
      have cl:(p:List Src).length≤20001:=by first|omega|simp
      go_cut [] from 42 to 47 (fun wx=> ∃(R:List Src) (A2:OA) (c2:Nat),R=p++ [sr]∧En 68 P A c L w0 w wx s3 (QV w.heap.size gv g0 Z (.slice Ax Z.length kx) xx R (.slice A2 R.length c2) (xf++ [.string sr.tb,.string sr.al]) (qC (.slice B I.length k) (.slice A2 R.length c2) zE nl nl 0)) (fun u=>QP B I Z xx R (xf++ [.string sr.tb,.string sr.al]) u))
      case first=>
       have z1:=(E.get (j:=2) rfl).cell_some (i:=9) rfl
       replace E:=hid (E.ext (Ext.refl _).drew)
       have z2:=(E.get (j:=2) rfl).cell_some (i:=9) rfl
       go_region_law (first
        |(refine E.aps sr qc (j:=1) rfl rfl rfl rfl rfl rfl rfl (by simp[Value.oneCell']) (by omega) fun l' A' c' u hl E=>?_;have z9:=(E.get (j:=2) rfl).cell_some (i:=9) rfl;have y9:=(E.get (j:=2) rfl).frozen 9;replace E:=hid E)
        |(go_simp;go_at_call 104;have hc:=rF E.ps C;rw[K]at hc;(with_reducible refine hc.mono ?_);rintro _ u3 ⟨v,rfl,g1,g2,rfl,g3⟩;replace E:=hid (E.call g1 g2);have HK:=hid g3;clear g1 g2 g3 hc;have z3:=(E.get (j:=2) rfl).cell_some (i:=9) rfl;have z4:=fun o=> (x10 u3 o).keep z3))
       all_goals
        replace E:=E.set (j:=2) rfl 9 (.slice A' l'.length c')
        go_wp2_with fail
        go_meet
        exact⟨l',A',c',hl,E.imp fun u h=>⟨h.1,by rw[hl.out];exact Els.snoc h.2.1 rfl ⟨rfl,HK⟩,h.2.2⟩⟩
      case rest=>
       obtain⟨R,A2,c2,a9,E⟩:=hcut
       generalize wc=d5 at*
       have c0:R.length=p.length+1:=by rw[a9,length_append];rfl
       have dp:=aA kON s3
       have ad:=ag (needP kON s3)
       have ax:=hid (And.intro a9 K)
       clear a9 K
       go_wp2_with (first|(go_at_call 44;refine E.nd C kON rfl rfl fun v u E=>?_)|(go_at_call 39;refine E.rd hr (by omega) fun y a2 B' k' a4 u hm E=>?_)|(refine bs1 rfl rfl _ _ _ _ rfl ?_)|(at_builtin;refine E.ap y ap_ex (j:=0) rfl rfl rfl rfl rfl rfl rfl (by simp[Nd.cells,Value.oneCell']) (by omega) fun l' A' c' u hl E=>?_))
       have bm:=E.ps.posOf
       have c6:=bf.out
       first
        |(rw[if_pos ac,ax.out.2]at z;simp only at z;rw[←ax.out.1]at z;exact⟨⟨m,R,Z,s3,A2,c2,Ax,kx,xx,_,rfl,z,by omega,by omega,by omega,by omega,E⟩,by rw[bm,a3.out];omega⟩)
        |(rw[if_neg (by rw[ac];simp),if_pos a0,ax.out.2]at z;simp only at z;rw[←ax.out.1,hm]at z;have cv:=congrArg List.length hl;rw[hm]at ad;simp only at ad;simp only[length_append,length_singleton]at cv;rw[←hl.out]at z;exact⟨⟨m,R,l',a2,A2,c2,A',c',_,_,rfl,z,by omega,by omega,by omega,by omega,E.imp fun u h=>⟨h.1.1,h.1.2.1,by rw[hl.out];exact Els.snoc h.1.2.2 rfl ⟨B',k',a4,rfl,h.2⟩⟩⟩,by rw[bm,a3.out];omega⟩)
    ·obtain⟨b9,cb⟩:=a7
     obtain⟨m,rfl⟩:∃x,m=x+1:=⟨m-1,by omega⟩
     rw[j3,if_neg (by rw[b9];simp),if_neg (by rw[cb];simp)]at z
     have HG:=hid z
     clear z a3 bf
     have bN:p.length≤20001:=by have:=E.ps.ne;omega
     go_upto_if 59 with (first|(go_at_call 98;refine E.isk C yCm rfl b9 fun u E=>?_;have p1:=E.ps.blk.cell_some (i:=1) rfl;have f1:=E.ps.blk.frozen 1)|(go_at_call 98;refine E.isk C jx rfl cb fun u E=>?_;have p1:=E.ps.blk.cell_some (i:=1) rfl;have f1:=E.ps.blk.frozen 1)|(go_at_call 53;refine E.tkb C eH rfl fun u E=>?_))
     obtain⟨q,U⟩:∃q,isS eH st=q:=⟨_,rfl⟩
     rw[U]
     have J:=hid U
     clear U
     go_cut [4] from 60 to 64 (fun xv wx=> ∃(f:List Ex) (sw:Ps) (Ay:OA) (ky:Nat) (yy:LV),xv= .slice Ay f.length ky∧cr ex andL Z st=(andL f,sw)∧f.length≤20002∧sw.r.length≤st.r.length∧En 68 P A c L w0 w wx sw (QV w.heap.size gv g0 f (.slice Ay f.length ky) yy p (.slice Q p.length V) xf (qC (.slice B I.length k) (.slice Q p.length V) zE nl nl 0)) (fun u=>QP B I f yy p xf u))
     case first=>
      cases q
      ·rw[show optP eH st=st by simp[optP,J.out]]at E
       go_wp2_with fail
       go_meet
       exact⟨Z,st,Ax,kx,xx,rfl,by unfold cr ifM;rw[J.out];rfl,by omega,Nat.le_refl _,E⟩
      ·rw[show optP eH st=st.next by simp[optP,J.out]]at E
       have bd:=next_len st
       have ad:=ag st.next
       go_wp2_with (first|(go_at_call 39;refine E.rd hr (by omega) fun y a2 B' k' a4 u hm E=>?_)|(refine bs1 rfl rfl _ _ _ _ rfl ?_)|(at_builtin;refine E.ap y ap_ex (j:=0) rfl rfl rfl rfl rfl rfl rfl (by simp[Nd.cells,Value.oneCell']) (by omega) fun l' A' c' u hl E=>?_))
       go_meet
       rw[hm]at ad
       exact⟨l',a2,A',c',_,rfl,by unfold cr ifM ay aH;rw[J.out,if_pos rfl,hm];show(andL (Z++ [y]),a2)=_;rw[hl.out],by rw[hl.out,length_append,length_singleton];omega,Nat.le_trans ad bd,E.imp fun u h=>⟨h.1.1,h.1.2.1,by rw[hl.out];exact Els.snoc h.1.2.2 rfl ⟨B',k',a4,rfl,h.2⟩⟩⟩
     case rest=>
      obtain⟨f,sw,Ay,ky,yy,rfl,bv,d0,b7,E⟩:=hcut
      have cd:=hid (And.intro bv b7)
      clear bv J
      generalize wc=d6 at*
      have zz:(0:Int)≤(f.length:Int):=by omega
      go_wp2_with fail
      go_loopw [67] (fun iv wr=> ∃(j:Nat) (Bw:OA) (bw cw:Nat),j≤f.length∧iv= i4 j∧En 68 P A c L w0 w wr sw (QV w.heap.size gv g0 f (.slice Ay f.length ky) yy p (.slice Q p.length V) xf (qC (.slice B I.length k) (.slice Q p.length V) ((andL (f.take j)).d.cells Bw bw cw) nl nl 0)) (fun u=>QP B I f yy p xf u∧ExV u (andL (f.take j)) Bw bw cw)) (fun i _=>f.length- (intOf i).toNat)
      case atStart=>exact⟨0,none,0,0,Nat.zero_le _,rfl,E.imp fun u h=>⟨h,eS u⟩⟩
      case round=>
       clear E
       obtain⟨j,Bw,bw,cw,hj,rfl,E⟩:=hrel
       generalize wr=d7 at*
       by_cases b3:j<f.length
       ·obtain⟨y,hy⟩:∃y,f[j]? =some y:=⟨_,getElem?_eq_getElem b3⟩
        obtain⟨B2,k2,c2,bo,b6⟩:=Els.ex E.stb.now.1.2.2 hy
        replace E:=E.imp fun u h=>And.intro h (b6 u h.1.2.2)
        obtain⟨gy,rfl⟩:=nQ (E.own (j:=0) rfl) (by omega)
        have bn:Hid (f.take (j+1)=f.take j++ [y]):=by
         unfold Hid
         rw[take_add_one,hy]
         rfl
        have i0:(0:Int)≤(j:Int):=by omega
        have i1:(j:Int)<(f.length:Int):=by omega
        have cc:=hid bo
        clear bo b6 hy zz
        obtain⟨X,hX⟩:∃x,andL (f.take j)=x:=⟨_,rfl⟩
        rw[hX]at E
        have HX:=hid hX
        clear hX
        go_upto_region 19 with (first|(refine E.lr (y.d.cells B2 k2 c2) (j:=0) (ty:=37) rfl rfl rfl rfl cc (by kernel_rfl) ?_)|(refine E.al rfl _ rfl rfl (cs:=zE) (t:=37) (by kernel_rfl) fun g u E=>?_)|(refine E.sw (j:=0) (ty:=37) rfl rfl rfl rfl rfl rfl (by kernel_rfl) (by kernel_rfl) rfl fun u E=>?_))
        by_cases an:j=0
        ·have cp:((j:Int)==0)=true:=by simp;omega
         have HJ:=hid an
         clear an
         go_wp2_with (first|(refine E.lw (j:=0) (ty:=37) rfl rfl rfl rfl (by kernel_rfl) ?_)|(refine E.sm (j:=3) rfl rfl rfl rfl rfl (by first|exact cA rfl|exact cS rfl|exact cI rfl|exact cL rfl|exact cB rfl) (by kernel_rfl) (by kernel_rfl) (by kernel_rfl) fun u E=>?_))
         obtain rfl:=HJ.out
         have a5:andL (f.take (0+1))=y:=by rw[bn.out];rfl
         exact⟨⟨0+1,B2,k2,c2,by omega,by go_num,by rw[a5];exact E.pop.imp fun u h=>⟨h.1.1,h.2⟩⟩,by simp[intOf];omega⟩
        ·have cp:((j:Int)==0)=false:=by simp;omega
         have HJ:=hid an
         clear an
         go_wp2_with (first|(refine E.lm (X.d.cells Bw bw cw) (j:=3) (ty:=37) rfl rfl rfl rfl rfl (by kernel_rfl) ?_)|(refine E.lw (j:=0) (ty:=37) rfl rfl rfl rfl (by kernel_rfl) ?_)|(refine bs2 rfl rfl _ _ _ _ _ _ _ _ rfl rfl ?_)|(go_at_call 105;refine E.o2 rfl rfl (fun u h=>⟨h.1.2,h.2⟩) (by unfold I64;omega) fun D u E=>?_)|(refine E.sm (j:=3) rfl rfl rfl rfl rfl (by first|exact cA rfl|exact cS rfl|exact cI rfl|exact cL rfl|exact cB rfl) (by kernel_rfl) (by kernel_rfl) (by kernel_rfl) fun u E=>?_))
         have a5:andL (f.take (j+1))=opE 18 [X,y]:=by rw[bn.out,andL_snoc (by have an:=HJ.out;intro h;have:=congrArg List.length h;rw[length_take]at this;simp only[length_nil]at this;omega),HX.out]
         exact⟨⟨j+1,D,2,2,by omega,by go_num,by rw[a5];exact E.pop.imp fun u h=>⟨h.1.1.1,h.2⟩⟩,by simp[intOf];omega⟩
       ·obtain rfl:j=f.length:=by omega
        rw[take_length]at E
        clear b3 hj zz
        obtain⟨X,hX⟩:∃x,andL f=x:=⟨_,rfl⟩
        rw[hX]at E
        have HX:=hid hX
        clear hX
        have dx:sw.r.length≤20000:=by have:=E.ps.le;omega
        go_upto_if 84 with (go_at_call 53;refine E.tkb C iw rfl fun u E=>?_)
        obtain⟨q,U⟩:∃q,isS iw sw=q:=⟨_,rfl⟩
        rw[U]
        have J:=hid U
        clear U
        go_cut [] from 85 to 92 (fun wx=> ∃(Bg:OA) (kg:Nat) (G:List Ex) (Y:Ps),fT sw=(G,Y)∧G.length≤20001∧Y.r.length≤sw.r.length∧En 68 P A c L w0 w wx Y (QV w.heap.size gv g0 f (.slice Ay f.length ky) yy p (.slice Q p.length V) xf (qC (.slice B I.length k) (.slice Q p.length V) (X.d.cells Bw bw cw) (.slice Bg G.length kg) nl 0)) (fun u=> (QP B I f yy p xf u∧ExV u X Bw bw cw)∧Lst Phiex 8 u Bg G))
        case first=>
         cases q
         ·rw[show optP iw sw=sw by simp[optP,J.out]]at E
          go_wp2_with fail
          go_meet
          exact⟨none,0,[],sw,by unfold fT ifM;rw[J.out];rfl,by simp,Nat.le_refl _,E.imp fun u h=>⟨h,fun i a h=>by cases h⟩⟩
         ·rw[show optP iw sw=sw.next by simp[optP,J.out]]at E
          have bd:=next_len sw
          have cx:=aA kBY sw.next
          have HL:=hid (And.intro (fwd_list fwd_col (needP kBY sw.next)) (list_len fwd_col (needP kBY sw.next)))
          go_wp2_with (first|(go_at_call 44;refine E.nd C kBY rfl rfl fun v u E=>?_)|(refine E.ls (list_ex 106 (fun _ _=>rfl) colP fwd_col E.ps C fun W st h hs=> (pT h C).mono fun e w' ⟨v,h0,h1,h2,h3⟩=>⟨v,h0,h1,h2,elg_ex h3⟩) fun Bg kg u hk E=>?_)|(refine E.sm (j:=2) rfl rfl rfl rfl rfl (by first|exact cA rfl|exact cS rfl|exact cI rfl|exact cL rfl|exact cB rfl) (by kernel_rfl) (by kernel_rfl) (by kernel_rfl) fun u E=>?_))
          go_meet
          have h9:=HL.out
          exact⟨Bg,kg,_,_,by unfold fT ifM ay aE;rw[J.out];rfl,by omega,by omega,E⟩
        case rest=>
         obtain⟨Bg,kg,G,Y,bY,b0,c9,E⟩:=hcut
         have ci:=hid bY
         clear bY J
         generalize wc=d8 at*
         go_upto_if 94 with (go_at_call 53;refine E.tkb C iy rfl fun u E=>?_)
         obtain⟨q,U⟩:∃q,isS iy Y=q:=⟨_,rfl⟩
         rw[U]
         have J:=hid U
         clear U
         go_cut [] from 95 to 102 (fun wx=> ∃(Bo:OA) (ko:Nat) (O:List Ord') (so:Ps),da posP Y=(O,so)∧O.length≤20001∧En 68 P A c L w0 w wx so (QV w.heap.size gv g0 f (.slice Ay f.length ky) yy p (.slice Q p.length V) xf (qC (.slice B I.length k) (.slice Q p.length V) (X.d.cells Bw bw cw) (.slice Bg G.length kg) (.slice Bo O.length ko) 0)) (fun u=> ((QP B I f yy p xf u∧ExV u X Bw bw cw)∧Lst Phiex 8 u Bg G)∧Lst fv 2 u Bo O))
         case first=>
          cases q
          ·rw[show optP iy Y=Y by simp[optP,J.out]]at E
           go_wp2_with fail
           go_meet
           exact⟨none,0,[],Y,by unfold da ifM;rw[J.out];rfl,by simp,E.imp fun u h=>⟨h,fun i a h=>by cases h⟩⟩
          ·rw[show optP iy Y=Y.next by simp[optP,J.out]]at E
           have bd:=next_len Y
           have cx:=aA kBY Y.next
           have HL:=hid (list_len vn (needP kBY Y.next))
           go_wp2_with (first|(go_at_call 44;refine E.nd C kBY rfl rfl fun v u E=>?_)|(refine E.ls (list_ord 108 (fun _ _=>rfl) (dG posP) vn E.ps C fun W st h hs=>order_rd hE h C) fun Bo ko u hk E=>?_)|(refine E.sm (j:=2) rfl rfl rfl rfl rfl (by first|exact cA rfl|exact cS rfl|exact cI rfl|exact cL rfl|exact cB rfl) (by kernel_rfl) (by kernel_rfl) (by kernel_rfl) fun u E=>?_))
           go_meet
           have h9:=HL.out
           exact⟨Bo,ko,_,_,by unfold da ifM ay aE;rw[J.out];rfl,by omega,E⟩
         case rest=>
          obtain⟨Bo,ko,O,so,b4,b5,E⟩:=hcut
          have cj:=hid b4
          clear b4 J
          generalize wc=d9 at*
          have c5:=HI.2
          have aS:∀(l:Int) (s6:Ps),limP posP so=(l,s6)→queryP ex posP andL s=(qS I p X G O l,s6):=fun l s6 h=>query_of HI.1 (by rw[ck.out,HF.out,←HG.out]) (by rw[cd.out.1,HX.out]) ci cj h
          replace aS:=hid aS
          go_wp2_with (first|(go_at_call 53;refine E.tk C ln rfl (fun hb u E=>?_) (fun hb u E=>?_))|(go_at_call 109;have cH:=hid (pos_le E.ps C);refine E.run (mz E.ps C hE) fun v u hv E=>?_;subst hv)|(refine E.sm (j:=2) rfl rfl rfl rfl rfl (by first|exact cA rfl|exact cS rfl|exact cI rfl|exact cL rfl|exact cB rfl) (by kernel_rfl) (by kernel_rfl) (by kernel_rfl) fun u E=>?_)|(refine E.lw (j:=2) (ty:=40) rfl rfl rfl rfl (by kernel_rfl) ?_)|(refine E.sw (j:=3) (ty:=40) rfl rfl rfl rfl rfl rfl (by kernel_rfl) (by kernel_rfl) rfl fun u E=>?_))
          ·rw[aS.out _ _ (show limP posP so=((posP so.next).1,(posP so.next).2) by unfold limP ifM;rw[if_pos hb])]
           exact E.fi (j:=3) rfl rfl rfl rfl (by kernel_rfl) ⟨⟨⟨none,0,0⟩,⟨none,0,0⟩,⟨none,0,0⟩,⟨none,0,0⟩,⟨none,0,0⟩,⟨none,0,0⟩,⟨B,I.length,k⟩,⟨Q,p.length,V⟩,⟨Bw,bw,cw⟩,⟨Bg,G.length,kg⟩,⟨Bo,O.length,ko⟩⟩,rfl,E.all2.imp fun u h=>StW.of (qi (by omega) bN b0 b5 cH h.1.1.1.1.1 (h.1.1.1.1.2.1.lst' (h.2 1 _ rfl)) h.1.1.1.2 h.1.1.2 h.1.2) rfl rfl⟩
          ·rw[aS.out _ _ (show limP posP so=(0,so) by unfold limP ifM;rw[if_neg (by rw[hb];simp)];rfl)]
           exact E.fi (j:=3) rfl rfl rfl rfl (by kernel_rfl) ⟨⟨⟨none,0,0⟩,⟨none,0,0⟩,⟨none,0,0⟩,⟨none,0,0⟩,⟨none,0,0⟩,⟨none,0,0⟩,⟨B,I.length,k⟩,⟨Q,p.length,V⟩,⟨Bw,bw,cw⟩,⟨Bg,G.length,kg⟩,⟨Bo,O.length,ko⟩⟩,rfl,E.all2.imp fun u h=>StW.of (qi (by omega) bN b0 b5 cy h.1.1.1.1.1 (h.1.1.1.1.2.1.lst' (h.2 1 _ rfl)) h.1.1.1.2 h.1.1.2 h.1.2) rfl rfl⟩
end
end
end Go.Proofs.YtjigcpfjhfoheaaGreatDoor
