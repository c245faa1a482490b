/- Walks: names, tuples, bounds, WHERE, numbers, sources, orders, assignments, definitions of columns; Walks: sources, orders, assignments, definitions of columns; Statements that are read, as they lie in memory; the steps of definit. -/
import Derived.Test.YtjigcpfjhfoheaaGreatDoorRcg
import Derived.Test.YtjigcpfjhfoheaaGreatDoorRai
import Derived.Test.YtjigcpfjhfoheaaGreatDoorRcf
import Derived.Test.YtjigcpfjhfoheaaGreatDoorRaj
import Derived.Test.YtjigcpfjhfoheaaGreatDoorRbj
import Derived.Great.Walk
namespace Go.Proofs.YtjigcpfjhfoheaaGreatDoor
open Go.RowKit
set_option maxHeartbeats 4000000
set_option maxRecDepth 100000
set_option linter.unusedVariables false
set_option linter.unusedSimpArgs false
section
open Lx (Tk)
theorem mz {α:Type} {el:M α} (h:Fwd el):∀(n:Nat) (o:List α) (s:Ps),(listGo el n o s).1.length≤o.length+s.r.length
 |0,o,s=>by rw[listGo];show o.length≤_;omega
 |n+1,o,s=>by
  rw[listGo]
  split
  ·next hs=>
   have b:=mz h n (o++ [(el s.next).1]) (el s.next).2
   have e:=h s.next
   have f:=ay hs
   rw[List.length_append,List.length_singleton]at b
   omega
  ·show o.length≤_
   omega
theorem list_len {α:Type} {el:M α} (h:Fwd el) (s:Ps):(listP el s).1.length≤s.r.length+1:=by
 have b:=mz h (s.r.length+1) [(el s).1] (el s).2
 have e:=h s
 unfold listP
 simp only[List.length_singleton]at b
 omega
theorem lst_strs {w:World} {B:Option Addr} {l:List ByteArray} (h:Lst oF 1 w B l):aM w B l:=fun i a hi=>by
 obtain⟨cs,_,⟨b,f,g,j⟩,e,k⟩:=h i a hi
 subst e
 refine⟨k,b,f,g,?_⟩
 have:=j 0 (.string a) rfl
 simpa using this
theorem mA {w:World} {B:Option Addr} {l:List Ex} (h:Lst Phiex 8 w B l):KidsAt w B l:=by
 unfold KidsAt
 rw[cD]
 intro j e m
 obtain⟨cs,_,k,g,n,c1,f,b⟩:=h j e m
 refine⟨cs,by simpa using k,?_⟩
 cases e with
 |mk d ks=>
  rw[ExC]
  have i:ks.length=n:=b.len
  subst i
  exact⟨b.fit,b.le,g,c1,f,b.kids⟩
def NmsG (n:Nat) (W:World) (l:List ByteArray) (v:Value):Prop:=∃B k,v= .slice B l.length k∧(l.length≤20001∧l.length≤k)∧Stb (n≤·) W (fun w2=>aM w2 B l)
theorem fL (w:World):ExV w exZ none 0 0:=⟨rfl,by omega,fit_op (o:=0) ew,by unfold KidsAt Ex.ks;trivial⟩
def Phisrc (a:Src) (cs:List Value) (w:World):Prop:=cs= [.string a.tb,.string a.al]∧a.tb.size≤20000∧a.al.size≤20000
theorem hH:Fwd namesP:=ar (aN _) fun _=>ar (fwd_list (fwd_tak 1)) fun _=>ar (aN _) fun _=>aH _
theorem qa:Fwd fd:=cF _ (ar gJ fun _=>aH _) gJ
theorem fwd_typ:Fwd typP:=cF _ (cF _ (ar qa fun _=>ar (aN _) fun _=>ar qa fun _=>ar (aN _) fun _=>aH _) (aH _)) (ar (aN _) fun _=>cF _ (ar gJ fun _=>ar (aN _) fun _=>aH _) (aH _))
theorem fwd_def:Fwd fQ:=ar (fwd_tak 1) fun _=>ar fwd_typ fun _=>cF _ (ar (aN _) fun _=>aH _) (aH _)
theorem fwd_ref:Fwd refP:=ar hH fun _=>ar (aN _) fun _=>ar (fwd_tak 1) fun _=>ar hH fun _=>aH _
section
variable {P c:Nat} {A:Option Addr} {L:List Tk} {w0 w:World} {s:Ps}
theorem En.ls {T:Nat} {i:World} {V:List Vb} {Φ:World→Prop} {Q:Ending→World→Prop} {F g:Nat} {x:Array Value} {f:Ps} {α:Type} {Ph:α→List Value→World→Prop} {l:List α} (E:En T P A c L w0 i w s V Φ) (t:Calls Tryz.prog F x w (Ran T P A c L w0 w f fun v w'=> ∃B k,v= .slice B l.length k∧l.length≤k∧Stb (w.heap.size≤·) w' (fun u=>Lst Ph g u B l)))
  (k:∀B b w',l.length≤b→En T P A c L w0 i w' f V (fun u=>Φ u∧Lst Ph g u B l)→Q (.returned (.slice B l.length b)) w'):Calls Tryz.prog F x w Q:=
 t.mono fun e w' ⟨v,h,j,m,B,b,n,p,r⟩=>by rw[h,n];exact k B b w' p (E.calls j m r)
theorem nB (f:PsAt 68 P A c L w0 w s) (b:TkL L):
  Calls Tryz.prog 176 #[.pointer (some ⟨P,0,none⟩)] w (Ran 68 P A c L w0 w (namesP s).2 fun v w'=>NmsG w.heap.size w' (namesP s).1 v):=by
 have E:=En.start f
 have m:=hid (Nat.le_trans (list_len (fwd_tak 1) (needP yLp s)) (Nat.succ_le_succ (Nat.le_trans (aF yLp s) (Nat.le_trans f.le b.len))))
 go_enter Tryz.func176,Tryz.ntmps176
 go_wp2_with (first|(go_at_call 44;refine E.nd b yLp rfl rfl fun v u E=>?_)|(go_at_call 44;refine E.nd b yRp rfl rfl fun v u E=>?_)|(refine E.ls (list_str 55 (fun _ _=>rfl) (takP 1) (fwd_tak 1) E.ps b fun W st h _=> (bF h b).mono fun e w' ⟨v,g,i,j,l⟩=>⟨v,g,i,j,[.string (takP 1 st).1],by rw[l];rfl,⟨rfl,by simp[Value.oneCell']⟩,Stb.of ⟨rfl,by have:=h.tak_size b 1;omega⟩⟩) fun B k u n E=>?_))
 go_ret
 exact⟨_,rfl,E.ps,E.chg,B,k,rfl,⟨by have:=m.out;exact this,n⟩,E.keep.imp fun u h=>lst_strs h.2⟩
theorem En.nms {f:World} {V:List Vb} {Φ:World→Prop} {Q:Ending→World→Prop} (E:En 68 P A c L w0 f w s V Φ) (n:TkL L)
  (k:∀B b w',(namesP s).1.length≤20001∧(namesP s).1.length≤b→En 68 P A c L w0 f w' (namesP s).2 V (fun u=>Φ u∧aM u B (namesP s).1)→Q (.returned (.slice B (namesP s).1.length b)) w'):Calls Tryz.prog 176 #[.pointer (some ⟨P,0,none⟩)] w Q:=
 (nB E.ps n).mono fun e w' ⟨v,h,g,i,B,b,j,l,m⟩=>by rw[h,j];exact k B b w' l (E.calls g i m)
theorem tuple_rd {n:Nat} {ex:M Ex} (b:Fwd ex) (x:Rdr 68 P A c L w0 n 39 ex) (z:s.r.length<n) (i:PsAt 68 P A c L w0 w s) (f:TkL L):
  Calls Tryz.prog 57 #[.pointer (some ⟨P,0,none⟩)] w (Ran 68 P A c L w0 w (tupP ex s).2 fun v w'=>ElG iL 1 w.heap.size w' (tupP ex s).1 v):=by
 have E:=En.start i
 have g:=aF yLp s
 have t:=hid (Nat.le_trans (list_len b (needP yLp s)) (Nat.succ_le_succ (Nat.le_trans g (Nat.le_trans i.le f.len))))
 go_enter Tryz.func57,Tryz.ntmps57
 go_wp2_with (first|(go_at_call 44;refine E.nd f yLp rfl rfl fun v u E=>?_)|(go_at_call 44;refine E.nd f yRp rfl rfl fun v u E=>?_)|(refine E.ls (list_ex 39 (fun _ _=>rfl) ex b E.ps f fun W st h hs=> (x W st h (by omega)).mono fun e w' ⟨v,j,l,m,p⟩=>⟨v,j,l,m,elg_ex p⟩) fun B k u y E=>?_))
 go_ret
 exact⟨_,rfl,E.ps,E.chg,[.slice B _ k],rfl,⟨rfl,by simp[Value.oneCell']⟩,E.keep.imp fun u h=>⟨B,k,rfl,by have:=t.out;show(tupP ex s).1.length≤_;exact Nat.le_trans this (by omega),mA h.2⟩⟩
theorem oG {L:List Tk} (e:TkL L) (s:Ps) (hs:∀a∈s.r,a∈L):0≤(numP s).1∧(numP s).1≤2147483648:=by
 unfold numP takP
 split
 ·next hk=>
  obtain⟨_,a,l,b,f,_⟩:=gI (by decide) hk
  have hd:s.hd=a:=by unfold Ps.hd;rw[b];rfl
  rw[hd]
  exact⟨by unfold fc;omega,(e.num a (hs a (by rw[b];exact List.mem_cons_self ..)) f).2.2.1⟩
 ·show(0:Int)≤0∧(0:Int)≤2147483648
  omega
theorem PsAt.sub {T:Nat} (h:PsAt T P A c L w0 w s):∀a∈s.r,a∈L:=fun a b=>by
 rw[h.suf]at b
 exact List.mem_of_mem_drop b
theorem bnd_64 {T:Nat} (h:PsAt T P A c L w0 w s) (b:TkL L):I64 (fd s).1:=by
 have f:=oG b s h.sub
 have g:=oG b s.next fun a e=>h.sub a (List.mem_of_mem_tail e)
 unfold fd ifM
 split
 ·show I64 (-(numP s.next).1)
  unfold I64
  omega
 ·unfold I64
  omega
theorem pos_le {T:Nat} (h:PsAt T P A c L w0 w s) (g:TkL L):I64 (posP s).1:=by
 have k:∀b:Ps,PsAt T P A c L w0 w b→I64 (numP b).1:=fun b f=>by
  have:=f.num_le g
  unfold I64
  omega
 unfold posP
 split
 ·have e:(numP s.fail).1=0:=by
   unfold numP
   rw[kC (s:=s.fail) rfl]
   rfl
  rw[e]
  exact ew
 ·exact k s h
def Elcol (a:Cd) (v:Value):Prop:=v= .agg #[.string a.nm,.int .i64 a.ty,.int .i64 a.lo,.int .i64 a.hi,.int .i64 a.mx,.bool a.nn]∧a.nm.size≤9223372036854775807∧I64 a.ty∧I64 a.lo∧I64 a.hi∧I64 a.mx
theorem bound_tok (f:Er w0) (e:PsAt 68 P A c L w0 w s) (b:TkL L):
  Calls Tryz.prog 233 #[.pointer (some ⟨P,0,none⟩)] w (Ran 68 P A c L w0 w (fd s).2 fun v _=>v= .int .i64 (fd s).1):=by
 have E:=En.start e
 have j:=oG b s.next fun a g=>e.sub a (List.mem_of_mem_tail g)
 go_enter Tryz.func233,Tryz.ntmps233
 go_wp2_with (first|(go_at_call 53;refine E.tk b du rfl (fun h u E=>?_) (fun h u E=>?_))|(go_at_call 178;refine E.run (dE E.ps b f) fun v u i E=>?_;subst i))
 ·go_ret
  exact⟨_,rfl,by unfold fd ifM;rw[if_pos h];exact E.ps,E.chg,by unfold fd ifM;rw[if_pos h];rfl⟩
 ·go_ret
  exact⟨_,rfl,by unfold fd ifM;rw[if_neg (by rw[h];simp)];exact E.ps,E.chg,by unfold fd ifM;rw[if_neg (by rw[h];simp)];rfl⟩
theorem qb {n:Nat} {ex:M Ex} (i:Rdr 68 P A c L w0 n 39 ex) (l:s.r.length<n) (f:PsAt 68 P A c L w0 w s) (b:TkL L):
  Calls Tryz.prog 60 #[.pointer (some ⟨P,0,none⟩)] w (Ran 68 P A c L w0 w (whrP ex s).2 fun v w'=>ExG w.heap.size w' (whrP ex s).1 v):=by
 have E:=En.start f
 go_enter Tryz.func60,Tryz.ntmps60
 go_wp2_with (first|(refine E.al rfl _ rfl rfl (cs:=zE) (t:=37) (by kernel_rfl) fun g u E=>?_)|(go_at_call 53;refine E.tk b fU rfl (fun h u E=>?_) (fun h u E=>?_))|(go_at_call 39;refine E.rd i (by have:=ay h;omega) fun y m B k c1 u e E=>?_)|(refine E.sv (j:=0) rfl rfl rfl rfl rfl rfl rfl rfl (by kernel_rfl) fun u E=>?_))
 ·exact E.done (by unfold whrP ifM;rw[if_pos h,e]) (j:=0) rfl rfl rfl rfl fun u h=>h.2
 ·exact E.done (y:=exZ) (by unfold whrP ifM;rw[if_neg (by rw[h];simp)];rfl) (j:=0) rfl rfl rfl rfl fun u _=>fL u
theorem dig_zero {L:List Tk} (e:TkL L) {a:Tk} (f:a∈L) (g:a.kind=3):(fc (tkB a)==0)=decide (tkB a=⟨#[48]⟩):=by
 obtain⟨_,_,_,b⟩:=e.num a f g
 rw[Bool.eq_iff_iff,beq_iff_eq,decide_eq_true_iff,b]
 unfold tkB
 constructor
 ·intro h;rw[h]
 ·intro h
  simp only[ByteArray.mk.injEq]at h
  have:=congrArg Array.toList h
  simpa using this
theorem jB (l:PsAt 68 P A c L w0 w s) (p:TkL L) (I:Er w0):
  Calls Tryz.prog 109 #[.pointer (some ⟨P,0,none⟩)] w (Ran 68 P A c L w0 w (posP s).2 fun v _=>v= .int .i64 (posP s).1):=by
 have j:Hid (posP s=numP (if (hasK 3 s&&fc (tkB s.hd)==0)=true then s.fail else s)):=rfl
 obtain⟨R,O⟩:∃R,posP s=R:=⟨_,rfl⟩
 rw[O]at j ⊢
 clear O
 have J:=hid l
 have n:∀x:ae w,Calls Tryz.prog 43 #[.pointer (some ⟨P,0,none⟩),.int .i64 3] x.now fun e w'=>e= .returned (.bool (hasK 3 s))∧Ext x.now w':=fun x=>jh (l.ext x.ext) p 3
 obtain⟨b,ac,hA,hb,c0,c1,c2⟩:=l.cells
 subst hA
 obtain⟨p0,W,-⟩:=cls l.blk
 have hi:=l.lti
 have hl:=p.len
 have t:Hid (hasK 3 s=true→(fc (tkB s.hd)==0)=decide (tkB s.hd=⟨#[48]⟩)):=fun h=>dig_zero p l.mem (by simp[hasK]at h;exact h.2)
 obtain⟨i,B⟩:∃i,L.length-s.r.length=i:=⟨_,rfl⟩
 rw[B]at W c0 c1 c2 hi
 have i0:(0:Int)≤(i:Int):=by omega
 have i1:(i:Int)<(L.length:Int):=by omega
 clear l B
 go_enter Tryz.func109,Tryz.ntmps109
 go_upto_region 1 with fail
 have U:=ae.keep p0
 have l1:=ae.keep W
 have V:=ae.keep c1
 generalize tkB s.hd=X at*
 cases F:hasK 3 s
 ·rw[F]at n j
  refine ab (by kernel_rfl) (by kernel_rfl) ?_
  repeat (go_big_quiet_step ((first|(go_at_call 43;exact ak (n _)))))
  refine wpQuiet_nil ?_
  intro w' k
  have m:=ah k
  have u:=hid (dE (J.ext m) p I)
  have g:R=numP s:=j.out
  have f:=hid g
  have E:=hid m
  clear k m j g U l1 V n
  go_wp2_with fail
  refine u.mono ?_
  rintro _ Y ⟨v,rfl,y,z,rfl⟩
  go_wp2_with fail
  go_ret
  exact⟨_,rfl,by rw[f.out];exact y,(Chg.of E).trans z,by rw[f.out];rfl⟩
 ·have K:=t F
  rw[F,K]at j
  rw[F]at n
  clear K t
  refine ab (by kernel_rfl) (by kernel_rfl) ?_
  repeat (go_big_quiet_step ((first|(go_at_call 43;exact ak (n _)))))
  refine wpQuiet_nil ?_
  intro w' k
  have m:=ah k
  have C:(X.toList== [48])=decide (X=⟨#[48]⟩):=by
   have:=kK X ⟨#[48]⟩
   rw[←this]
   congr 1
   rw[ByteArray.toList_eq]
  rw[C]
  clear C
  have E:=hid m
  have D:=hid (J.ext m)
  clear k m U l1 V n
  cases G:decide (X=⟨#[48]⟩)
  ·rw[G]at j
   have g:R=numP s:=j.out
   have f:=hid g
   have u:=hid (dE D p I)
   clear g j G
   go_wp2_with fail
   refine u.mono ?_
   rintro _ Y ⟨v,rfl,y,z,rfl⟩
   go_wp2_with fail
   go_ret
   exact⟨_,rfl,by rw[f.out];exact y,(Chg.of E).trans z,by rw[f.out];rfl⟩
  ·rw[G]at j
   have g:R=numP s.fail:=j.out
   have f:=hid g
   have H:=hid D.fail
   have u:=hid (dE H p I)
   have Z:=hid ((Chg.of (P:=P) E).set 2 (.bool true))
   have p2:=D.blk.cell_some (i:=2) rfl
   have f2:=D.blk.frozen 2
   clear g j G
   go_wp2_with fail
   refine u.mono ?_
   rintro _ Y ⟨v,rfl,y,z,rfl⟩
   go_wp2_with fail
   go_ret
   exact⟨_,rfl,by rw[f.out];exact y,Z.trans z,by rw[f.out];rfl⟩
end
end
section
open Lx (Tk)
section
variable {P c:Nat} {A:Option Addr} {L:List Tk} {w0 w:World} {s:Ps}
theorem nC (e:PsAt 68 P A c L w0 w s) (b:TkL L):
  Calls Tryz.prog 104 #[.pointer (some ⟨P,0,none⟩)] w (Ran 68 P A c L w0 w (srcP s).2 fun v w'=>v= .agg #[.string (srcP s).1.tb,.string (srcP s).1.al]∧(srcP s).1.tb.size≤20000∧(srcP s).1.al.size≤20000):=by
 have E:=En.start e
 have f:=hid (e.tak_size b 1)
 go_enter Tryz.func104,Tryz.ntmps104
 go_wp2_with (first|(refine E.al rfl _ rfl rfl (cs:= [.string ⟨#[]⟩,.string ⟨#[]⟩]) (t:=86) (by kernel_rfl) fun g u E=>?_)|(go_at_call 55;have k:=hid (E.ps.tak_size b 1);refine E.run (bF E.ps b) fun v u i E=>?_;subst i)|(go_at_call 53;refine E.tk b kAS rfl (fun h u E=>?_) (fun h u E=>?_))|(refine E.sw (j:=0) (ty:=86) rfl rfl rfl rfl rfl rfl (by kernel_rfl) (by kernel_rfl) rfl fun u E=>?_)|(refine E.sw (j:=1) (ty:=86) rfl rfl rfl rfl rfl rfl (by kernel_rfl) (by kernel_rfl) rfl fun u E=>?_)|(refine E.sm (j:=0) rfl rfl rfl rfl rfl (by first|exact cA rfl|exact cS rfl|exact cI rfl|exact cL rfl|exact cB rfl) (by kernel_rfl) (by kernel_rfl) (by kernel_rfl) fun u E=>?_)|(refine E.lw (j:=0) (ty:=86) rfl rfl rfl rfl (by kernel_rfl) ?_)|(refine E.l1 (j:=0) rfl rfl rfl rfl rfl (by kernel_rfl) ?_))
 all_goals
  simp only[srcP,aA,ifM,aY, *,if_true,if_false,Bool.false_eq_true]
  exact E.fi (j:=1) rfl rfl rfl rfl (by kernel_rfl) ⟨rfl,f,by first|exact k.out|exact Nat.zero_le _⟩
theorem order_rd (i:Er w0) (e:PsAt 68 P A c L w0 w s) (b:TkL L):
  Calls Tryz.prog 108 #[.pointer (some ⟨P,0,none⟩)] w (Ran 68 P A c L w0 w (hU posP s).2 fun v w'=>ElG iN 2 w.heap.size w' (hU posP s).1 v):=by
 have E:=En.start e
 have hi:=hid (pos_le e b)
 go_enter Tryz.func108,Tryz.ntmps108
 go_wp2_with (first|(refine E.al rfl _ rfl rfl (cs:= [.int .i64 0,.bool false]) (t:=88) (by kernel_rfl) fun g u E=>?_)|(go_at_call 109;refine E.run (jB E.ps b i) fun v u k E=>?_;subst k)|(go_at_call 53;refine E.tk b kASC rfl (fun h u E=>?_) (fun h u E=>?_))|(go_at_call 53;refine E.tk b kZ rfl (fun f u E=>?_) (fun f u E=>?_))|(refine E.sw (j:=0) (ty:=88) rfl rfl rfl rfl rfl rfl (by kernel_rfl) (by kernel_rfl) rfl fun u E=>?_)|(refine E.sw (j:=1) (ty:=88) rfl rfl rfl rfl rfl rfl (by kernel_rfl) (by kernel_rfl) rfl fun u E=>?_)|(refine E.sm (j:=0) rfl rfl rfl rfl rfl (by first|exact cA rfl|exact cS rfl|exact cI rfl|exact cL rfl|exact cB rfl) (by kernel_rfl) (by kernel_rfl) (by kernel_rfl) fun u E=>?_)|(refine E.lw (j:=0) (ty:=88) rfl rfl rfl rfl (by kernel_rfl) ?_))
 all_goals
  simp only[hU,aA,ifM,aY, *,if_true,if_false,Bool.false_eq_true]
  exact E.outG (j:=1) rfl rfl rfl rfl (by kernel_rfl) rfl (by kernel_rfl) fun u _=>⟨rfl,hi⟩
theorem mJ {n:Nat} {ex:M Ex} (l:Rdr 68 P A c L w0 n 39 ex) (z:s.r.length<n) (i:PsAt 68 P A c L w0 w s) (b:TkL L):
  Calls Tryz.prog 59 #[.pointer (some ⟨P,0,none⟩)] w (Ran 68 P A c L w0 w (asgP ex s).2 fun v w'=>ElG iM 10 w.heap.size w' (asgP ex s).1 v):=by
 have E:=En.start i
 have x:=fwd_tak 1 s
 have e:=aF yEq (takP 1 s).2
 go_enter Tryz.func59,Tryz.ntmps59
 go_wp2_with (first|(refine E.al rfl _ rfl rfl (cs:=(.string ⟨#[]⟩:: .int .i64 0::zE)) (t:=82) (by kernel_rfl) fun g u E=>?_)|(go_at_call 55;have p:=hid (E.ps.tak_size b 1);refine E.run (bF E.ps b) fun v u m E=>?_;subst m)|(go_at_call 44;refine E.nd b yEq rfl rfl fun v u E=>?_)|(go_at_call 39;refine E.rd l (by omega) fun y C B k c1 u f E=>?_)|(refine E.sw (j:=0) (ty:=82) rfl rfl rfl rfl rfl rfl (by kernel_rfl) (by kernel_rfl) rfl fun u E=>?_)|(refine E.sw (j:=1) (ty:=82) rfl rfl rfl rfl rfl rfl (by kernel_rfl) (by kernel_rfl) rfl fun u E=>?_)|(refine E.sm (j:=0) rfl rfl rfl rfl rfl (by first|exact cA rfl|exact cS rfl|exact cI rfl|exact cL rfl|exact cB rfl) (by kernel_rfl) (by kernel_rfl) (by kernel_rfl) fun u E=>?_)|(refine E.lw (j:=0) (ty:=82) rfl rfl rfl rfl (by kernel_rfl) ?_))
 simp only[asgP,aA,aU,aY,f]
 exact E.outG (j:=1) rfl rfl rfl rfl (by kernel_rfl) (by kernel_rfl) (by kernel_rfl) fun u h=>⟨B,k,c1,by kernel_rfl,⟨by have:=p.out;exact Nat.le_trans this (by omega),ew⟩,h.2⟩
theorem mK (l:Er w0) (m:PsAt 68 P A c L w0 w s) (e:TkL L):
  Calls Tryz.prog 177 #[.pointer (some ⟨P,0,none⟩)] w (Ran 68 P A c L w0 w (fQ s).2 fun v w'=>Elcol (fQ s).1 v):=by
 have E:=En.start m
 have p:=hid (m.tak_size e 1)
 have k:=hid trivial
 go_enter Tryz.func177,Tryz.ntmps177
 go_wp2_with (first|(refine E.al rfl _ rfl rfl (cs:= [.string ⟨#[]⟩,.int .i64 0,.int .i64 0,.int .i64 0,.int .i64 0,.bool false]) (t:=99) (by kernel_rfl) fun g u E=>?_)|(go_at_call 55;refine E.run (bF E.ps e) fun v u h E=>?_;subst h)|(go_at_call 53;refine E.tk e dG rfl (fun b u E=>?_) (fun b u E=>?_))|(go_at_call 53;refine E.tk e yLp rfl (fun i u E=>?_) (fun i u E=>?_))|(go_at_call 53;refine E.tk e kNOT rfl (fun f u E=>?_) (fun f u E=>?_))|(go_at_call 44;refine E.nd e kNULL rfl rfl fun v u E=>?_)|(go_at_call 44;refine E.nd e mQ rfl rfl fun v u E=>?_)|(go_at_call 44;refine E.nd e yCm rfl rfl fun v u E=>?_)|(go_at_call 44;refine E.nd e yRp rfl rfl fun v u E=>?_)|(go_at_call 233;replace k:=hid (And.intro (bnd_64 E.ps e) k);refine E.run (bound_tok l E.ps e) fun v u h E=>?_;subst h)|(go_at_call 178;have n:=hid (E.ps.num_le e);refine E.run (dE E.ps e l) fun v u h E=>?_;subst h)|(refine E.sw (j:=0) (ty:=99) rfl rfl rfl rfl rfl rfl (by kernel_rfl) (by kernel_rfl) rfl fun u E=>?_)|(refine E.sw (j:=1) (ty:=99) rfl rfl rfl rfl rfl rfl (by kernel_rfl) (by kernel_rfl) rfl fun u E=>?_)|(refine E.sm (j:=0) rfl rfl rfl rfl rfl (by first|exact cA rfl|exact cS rfl|exact cI rfl|exact cL rfl|exact cB rfl) (by kernel_rfl) (by kernel_rfl) (by kernel_rfl) fun u E=>?_)|(refine E.lw (j:=0) (ty:=99) rfl rfl rfl rfl (by kernel_rfl) ?_))
 all_goals
  simp only[fQ,typP,bnd2P,maxP,aA,ifM,aU,aY, *,if_true,if_false,Bool.false_eq_true]
  exact E.fi (j:=1) rfl rfl rfl rfl (by kernel_rfl) ⟨rfl,by have:=p.out;exact Nat.le_trans this (by omega),by dsimp only;unfold I64;omega,by first|exact k.2.1|(dsimp only;unfold I64;omega),by first|exact k.1|(dsimp only;unfold I64;omega),by first|(dsimp only;unfold I64;omega)|(have:=n.out;dsimp only;unfold I64;omega)⟩
end
end
section
open Lx (Tk)
def StW (w:World) (s:St) (a:SA):Prop:=StV w s a∧jS w a.keys.A a.keys.n∧jT w a.frs.A a.frs.n
def ElSt (n:Nat) (W:World) (s:St) (v:Value):Prop:=∃a,v=s.val a∧Stb (n≤·) W (fun w'=>StW w' s a)
theorem lst_capk {w:World} {B:Option Addr} {l:List (List ByteArray)} (h:Lst Phikey 1 w B l):jS w B l.length:=fun i hi=>by
 obtain⟨cs,_,⟨b,f,j,k⟩,g,n,e,m,hs⟩:=h i _ (List.getElem?_eq_getElem hi)
 subst e
 exact⟨b,f,g,_,n,j,by simpa using k 0 _ rfl,m.2⟩
theorem lst_capr {w:World} {B:Option Addr} {l:List Rf} (h:Lst Phifrn 3 w B l):jT w B l.length:=fun i hi=>by
 obtain⟨cs,_,⟨b,g,n,j⟩,k,t,m,u,e,x,p,f,hs,r⟩:=h i _ (List.getElem?_eq_getElem hi)
 subst e
 exact⟨b,g,k,_,t,m,_,u,n,by simpa using j 0 _ rfl,p.2,j 2 _ rfl,f.2⟩
theorem StW.of {w:World} {s:St} {a:SA} (h:StV w s a) (b:a.keys.n=0) (e:a.frs.n=0):StW w s a:=⟨h,fun i hi=>by omega,fun i hi=>by omega⟩
theorem lst_cds {w:World} {B:Option Addr} {l:List Cd} (h:Lst oE 6 w B l):gh w B l:=fun i a hi=>by
 obtain⟨cs,_,⟨b,g,p,e⟩,f,r,j,k,m,n⟩:=h i a hi
 subst f
 refine⟨⟨r,j,k,m,n⟩,b,g,p,?_,?_,?_,?_,?_,?_⟩
 ·have:=e 0 _ rfl;simpa using this
 ·exact e 1 _ rfl
 ·exact e 2 _ rfl
 ·exact e 3 _ rfl
 ·exact e 4 _ rfl
 ·exact e 5 _ rfl
theorem lst_keys {w:World} {B:Option Addr} {l:List (List ByteArray)} (h:Lst Phikey 1 w B l):en w B l:=fun i a hi=>by
 obtain⟨cs,_,⟨b,f,j,k⟩,g,m,e,n,hs⟩:=h i a hi
 subst e
 refine⟨b,f,g,a.length,m,j,?_,rfl,by omega,hs⟩
 have:=k 0 _ rfl
 simpa using this
theorem lst_rfs {w:World} {B:Option Addr} {l:List Rf} (h:Lst Phifrn 3 w B l):gi w B l:=fun i a hi=>by
 obtain⟨cs,_,⟨b,j,n,e⟩,k,t,m,u,f,r,x,p,hs,g⟩:=h i a hi
 subst f
 refine⟨r,b,j,k,a.cs.length,t,m,a.tg.length,u,n,?_,e 1 _ rfl,e 2 _ rfl,rfl,by omega,hs,rfl,by omega,g⟩
 have:=e 0 _ rfl
 simpa using this
theorem kp {α:Type} {el:M α} (h:Fwd el):∀(n:Nat) (o:List α) (s:Ps),(listGo el n o s).1.length+(listGo el n o s).2.r.length≤o.length+s.r.length
 |0,_,_=>Nat.le_refl _
 |n+1,o,s=>by
  rw[listGo]
  split
  ·next hs=>
   have e:=ay hs
   have f:=h s.next
   have b:=kp h n (o++ [(el s.next).1]) (el s.next).2
   rw[List.length_append,List.length_singleton]at b
   omega
  ·exact Nat.le_refl _
theorem list_room {α:Type} {el:M α} (h:Fwd el) (s:Ps):(listP el s).1.length+(listP el s).2.r.length≤s.r.length+1:=by
 have b:=kp h (s.r.length+1) [(el s).1] (el s).2
 have e:=h s
 unfold listP
 rw[List.length_singleton]at b
 omega
theorem ra (s:Ps):(namesP s).1.length+(namesP s).2.r.length≤s.r.length+1:=by
 have b:=list_room (fwd_tak 1) (needP yLp s)
 have e:=aF yLp s
 have f:=aF yRp (listP (takP 1) (needP yLp s)).2
 show(listP (takP 1) (needP yLp s)).1.length+(needP yRp (listP (takP 1) (needP yLp s)).2).r.length≤_
 omega
theorem mB {ex:M Ex} (h:Fwd ex) (d:Df) (l:List ByteArray):Fwd (elemP ex d l):=
 cF _ (ar (aN _) fun _=>ar hH fun _=>aH _) (cF _ (ar hH fun _=>aH _) (cF _ (ar (aN _) fun _=>ar h fun _=>ar (aN _) fun _=>aH _)
  (cF _ (ar (aN _) fun _=>ar fwd_ref fun _=>aH _) (ar fwd_def fun _=>aH _))))
theorem nD {ex:M Ex} (h:Fwd ex) (d:Df) (l:List ByteArray) (s:Ps):(elemP ex d l s).1.2.length+(elemP ex d l s).2.r.length≤l.length+s.r.length+1:=by
 have b:=mB h d l s
 unfold elemP ifM at b ⊢
 split
 ·show(l++(namesP (needP kKEY s.next)).1).length+(namesP (needP kKEY s.next)).2.r.length≤_
  have f:=ra (needP kKEY s.next)
  have g:=aF kKEY s.next
  have i:=next_len s
  rw[List.length_append]
  omega
 ·next f=>
  rw[if_neg f]at b
  have e:∀x:(Df×List ByteArray)×Ps,x.1.2=l→x.2.r.length≤s.r.length→x.1.2.length+x.2.r.length≤l.length+s.r.length+1:=fun x e h=>by rw[e];omega
  refine e _ ?_ b
  repeat' split
  all_goals rfl
theorem kids_nil (w:World) (A:Option Addr):KidsAt w A []:=by unfold KidsAt;exact trivial
theorem qc {ex:M Ex} (d:Df) (l:List ByteArray) (s:Ps):(elemP ex d l s).1.1.cols.length≤d.cols.length+1∧(elemP ex d l s).1.1.keys.length≤d.keys.length+1∧(elemP ex d l s).1.1.frs.length≤d.frs.length+1∧(elemP ex d l s).1.1.chk.length≤d.chk.length+1:=by
 unfold elemP ifM
 repeat' split
 all_goals simp[aA,aY]
def creS (t:ByteArray) (x:Df×List ByteArray):St:= { stZ with kd:=1,tb:=t,cols:=x.1.cols.map (nnC x.2),keys:=x.1.keys,frs:=x.1.frs,chk:=x.1.chk }
theorem elems_eq (ex:M Ex) (s:Ps):dv ex s=cr ex (s.r.length+1) (elemP ex ⟨[],[],[],[]⟩ [] s).1.1 (elemP ex ⟨[],[],[],[]⟩ [] s).1.2 (elemP ex ⟨[],[],[],[]⟩ [] s).2:=rfl
theorem qd (ex:M Ex) (m:Nat) (d:Df) (l:List ByteArray) (st:Ps):cr ex (m+1) d l st=if isS yCm st=true then cr ex m (elemP ex d l st.next).1.1 (elemP ex d l st.next).1.2 (elemP ex d l st.next).2 else ((d,l),st):=rfl
theorem create_st {w:World} {X:ByteArray} {d:Df} {l:List ByteArray} {b e f g:Option Addr} {c1 c2 c3 c4:Nat} (p:X.size≤20000) (r:d.cols.length≤20001∧d.keys.length≤20001∧d.frs.length≤20001∧d.chk.length≤20001)
  (j:gh w b (d.cols.map (nnC l))) (k:en w e d.keys) (m:gi w f d.frs) (n:KidsAt w g d.chk):
  StV w (creS X (d,l)) ⟨⟨b,d.cols.length,c1⟩,⟨e,d.keys.length,c2⟩,⟨f,d.frs.length,c3⟩,⟨g,d.chk.length,c4⟩,⟨none,0,0⟩,⟨none,0,0⟩,⟨none,0,0⟩,⟨none,0,0⟩,⟨none,0,0⟩,⟨none,0,0⟩,⟨none,0,0⟩⟩:=by
 refine⟨i64_1,by show X.size≤_;omega,ew,by show 0≤9223372036854775807;omega,⟨by simp[creS],by show d.cols.length≤_;omega,j⟩,⟨rfl,by show d.keys.length≤_;omega,k⟩,⟨rfl,by show d.frs.length≤_;omega,m⟩,⟨rfl,by show d.chk.length≤_;omega,n⟩,
  ⟨rfl,by show 0≤_;omega,?_⟩,(fun l h=>by cases h),⟨rfl,by show 0≤_;omega,fun i x h=>by cases h⟩,⟨rfl,by show 0≤_;omega,fun i x h=>by cases h⟩,⟨rfl,by show 0≤_;omega,fun i x h=>by cases h⟩,fL w,⟨rfl,by show 0≤_;omega,kids_nil _ _⟩,⟨rfl,by show 0≤_;omega,fun i x h=>by cases h⟩⟩
 intro i l h
 cases h
theorem lst_srcs {w:World} {B:Option Addr} {l:List Src} (h:Lst Phisrc 2 w B l):eU w B l:=fun i a hi=>by
 obtain⟨cs,_,⟨b,f,j,g⟩,e,m,k⟩:=h i a hi
 subst e
 refine⟨⟨by omega,by omega⟩,b,f,j,?_,g 1 _ rfl⟩
 have:=g 0 _ rfl
 simpa using this
theorem lst_itms {w:World} {B:Option Addr} {l:List Itm} (h:Lst gE 9 w B l):dN w B l:=fun i a hi=>by
 obtain⟨cs,_,⟨b,g,m,e⟩,j,r,c1,f,p,n⟩:=h i a hi
 subst f
 have k:=e 0 _ rfl
 refine⟨p,b,g,j,r,c1,m,by simpa using k,⟨?_,?_,?_,?_,?_,?_,?_,?_,n⟩⟩
 ·exact e 1 _ rfl
 ·exact e 2 _ rfl
 ·exact e 3 _ rfl
 ·exact e 4 _ rfl
 ·exact e 5 _ rfl
 ·exact e 6 _ rfl
 ·exact e 7 _ rfl
 ·exact e 8 _ rfl
theorem lst_ords {w:World} {B:Option Addr} {l:List Ord'} (h:Lst iN 2 w B l):eV w B l:=fun i a hi=>by
 obtain⟨cs,_,⟨b,f,j,g⟩,e,k⟩:=h i a hi
 subst e
 refine⟨k,b,f,j,?_,g 1 _ rfl⟩
 have:=g 0 _ rfl
 simpa using this
theorem from_eq (ex:M Ex) (s:Ps):fromP ex s=fromGo ex (s.r.length+1) [(srcP s).1] [] (srcP s).2:=rfl
theorem kq (ex:M Ex) (m:Nat) (l:List Src) (c:List Ex) (st:Ps):fromGo ex (m+1) l c st=if isS yCm st=true then fromGo ex m (l++ [(srcP st.next).1]) c (srcP st.next).2
  else if isS ia st=true then fromGo ex m (l++ [(srcP st.next).1]) (c++ [(ex (needP kON (srcP st.next).2)).1]) (ex (needP kON (srcP st.next).2)).2 else ((l,c),st):=rfl
theorem not_both {s:Ps} (h:isS yCm s=true):isS ia s=false:=by
 obtain⟨i,a,l,b,g,f,_⟩:=cu h
 have e:s.hd=a:=by unfold Ps.hd;rw[b];rfl
 unfold isS
 rw[e,f]
 have:¬yCm=ia:=by decide
 simp[this]
theorem andL_snoc {l:List Ex} (h:l≠[]) (y:Ex):andL (l++ [y])=opE 18 [andL l,y]:=by
 cases l with
 |nil=>exact absurd rfl h
 |cons a l=>
  show(l++ [y]).foldl _ a=_
  rw[List.foldl_append]
  rfl
theorem qe:Fwd (hU posP):=ar fwd_pos fun _=>cF _ (aH _) (cF _ (aH _) (aH _))
def qS (i:List Itm) (f:List Src) (W:Ex) (g:List Ex) (o:List Ord') (l:Int):St:= { stZ with kd:=5,itms:=i,frm:=f,whr:=W,grp:=g,ord:=o,lim:=l }
theorem query_of {ex:M Ex} {s b e h j k m:Ps} {i:List Itm} {f:List Src×List Ex} {W:Ex} {g:List Ex} {o:List Ord'} {l:Int} (n:itmsP ex s=(i,b)) (p:fromP ex (needP kFROM b)=(f,e)) (r:fM ex andL f.2 e=(W,h)) (t:grpP h=(g,j)) (u:fW posP j=(o,k)) (x:limP posP k=(l,m)):
  queryP ex posP andL s=(qS i f.1 W g o l,m):=by
 unfold queryP aA aU aY
 simp only[n,p,r,t,u,x]
 rfl
theorem qf {w:World} {I:List Itm} {b:List Src} {E:Ex} {G:List Ex} {O:List Ord'} {l:Int} {B g f j m:Option Addr} {k C n c1 D F:Nat} (J:I.length≤20001) (R:b.length≤20001) (H:G.length≤20001) (K:O.length≤20001) (z:I64 l)
  (p:Lst gE 9 w B I) (r:Lst Phisrc 2 w g b) (t:ExV w E f n c1) (u:Lst Phiex 8 w j G) (y:Lst iN 2 w m O):
  StV w (qS I b E G O l) ⟨⟨none,0,0⟩,⟨none,0,0⟩,⟨none,0,0⟩,⟨none,0,0⟩,⟨none,0,0⟩,⟨none,0,0⟩,⟨B,I.length,k⟩,⟨g,b.length,C⟩,⟨f,n,c1⟩,⟨j,G.length,D⟩,⟨m,O.length,F⟩⟩:=by
 have e:∀A:Option Addr,KidsAt w A []:=fun A=>by unfold KidsAt;exact trivial
 refine⟨by show I64 5;unfold I64;omega,by show 0≤9223372036854775807;omega,z,by show 0≤9223372036854775807;omega,⟨rfl,by show 0≤_;omega,fun i x h=>by cases h⟩,⟨rfl,by show 0≤_;omega,fun i x h=>by cases h⟩,⟨rfl,by show 0≤_;omega,fun i x h=>by cases h⟩,⟨rfl,by show 0≤_;omega,e _⟩,
  ⟨rfl,by show 0≤_;omega,?_⟩,(fun l h=>by cases h),⟨rfl,by show 0≤_;omega,fun i x h=>by cases h⟩,⟨rfl,by show I.length≤_;omega,lst_itms p⟩,⟨rfl,by show b.length≤_;omega,lst_srcs r⟩,t,⟨rfl,by show G.length≤_;omega,mA u⟩,⟨rfl,by show O.length≤_;omega,lst_ords y⟩⟩
 intro i l h
 cases h
abbrev nl:Value:= .slice none 0 0
abbrev zS:List Value:=(sC (a:=nl) (b:=nl) (c:=nl) (d:=nl) (v:=nl) (s:=nl) (i:=nl) (f:=nl) (e:=nl) (g:=nl) (r:=nl))
end
section
open Lx (Tk)
section
variable {ops:Array Oper} {rest:List Oper} {o:Oper} {a:Act} {w:World} {Q:Exit→Act→World→Prop}
theorem ldS {x:Operand} (b:o.guard=none) (i:o.op= .load 40 x) (g:Nat) (j:a.eval x= .pointer (some ⟨g,0,none⟩)) {cs:List Value} (e:Blk w g 40 cs) (f:cs.length=22) (h:wpList Tryz.prog ops Q rest (a.put o.dst (.agg cs.toArray)) w):wpList Tryz.prog ops Q (o::rest) a w:=
 am b 40 x i g j 40 cs _ e Tryz.underlying40 rfl (by rw[f];kernel_rfl) h
theorem stS {x y:Operand} (b:o.guard=none) (k:o.op= .store 40 x y) (hd:o.dst=none) (g:Nat) (ds:List Value) (l:a.eval x= .pointer (some ⟨g,0,none⟩)) (m:a.eval y= .agg ds.toArray) {cs:List Value} (i:Blk w g 40 cs) (j:cs.length=22) (e:ds.length=22) (f:ds.toArray.all (·.oneCell')=true)
  (h:wpList Tryz.prog ops Q rest a (w.setRow g ds.toArray)):wpList Tryz.prog ops Q (o::rest) a w:=
 wpList_store_rowTo b 40 x y k hd g ds.toArray l m 40 cs.toArray i (by rw[List.size_toArray,e];kernel_rfl) (by rw[List.size_toArray,List.size_toArray,j,e]) f h
theorem stS' {x y:Operand} (b:o.guard=none) (i:o.op= .store 40 x y) (hd:o.dst=none) (ds:List Value) (j:a.eval x= .pointer (some ⟨w.heap.size,0,none⟩)) (k:a.eval y= .agg ds.toArray) {cs:List Value} (g:cs.length=22) (e:ds.length=22) (f:ds.toArray.all (·.oneCell')=true)
  (h:wpList Tryz.prog ops Q rest a (w.alloc (.cells ds.toArray 40))):wpList Tryz.prog ops Q (o::rest) a (w.alloc (.cells cs.toArray 40)):=
 wpList_store_rowTo b 40 x y i hd w.heap.size ds.toArray j k 40 cs.toArray (heap_alloc_new w _) (by rw[List.size_toArray,e];kernel_rfl) (by rw[List.size_toArray,List.size_toArray,g,e]) f (by rw[World.setRow_alloc_new];exact h)
end
theorem lst_rows {w:World} {B:Option Addr} {l:List (List Ex)} (h:Lst iL 1 w B l):dh w B l:=fun i a hi=>by
 obtain⟨cs,_,⟨b,f,j,m⟩,g,k,e,p,n⟩:=h i a hi
 subst e
 exact⟨b,f,g,a.length,k,j,by simpa using m 0 _ rfl,rfl,n⟩
theorem lst_asgs {w:World} {B:Option Addr} {l:List Asg} (h:Lst iM 10 w B l):dM w B l:=fun i a hi=>by
 obtain⟨cs,_,⟨b,g,m,e⟩,j,k,c2,f,p,n⟩:=h i a hi
 subst f
 refine⟨p,b,g,j,k,c2,m,by simpa using e 0 _ rfl,e 1 _ rfl,⟨?_,?_,?_,?_,?_,?_,?_,?_,n⟩⟩
 ·exact e 2 _ rfl
 ·exact e 3 _ rfl
 ·exact e 4 _ rfl
 ·exact e 5 _ rfl
 ·exact e 6 _ rfl
 ·exact e 7 _ rfl
 ·exact e 8 _ rfl
 ·exact e 9 _ rfl
def lowS (k:Int) (X N:ByteArray) (V:List (List Ex)) (S:List Asg) (e:Ex):St:= { stZ with kd:=k,tb:=X,vals:=V,sets:=S,whr:=e,nm:=N }
def hZ (B C D:Option Addr) (k n m c d f:Nat):SA:=⟨⟨none,0,0⟩,⟨none,0,0⟩,⟨none,0,0⟩,⟨none,0,0⟩,⟨B,k,c⟩,⟨C,n,d⟩,⟨none,0,0⟩,⟨none,0,0⟩,⟨D,m,f⟩,⟨none,0,0⟩,⟨none,0,0⟩⟩
theorem oH {w:World} {k:Int} {X N:ByteArray} {V:List (List Ex)} {S:List Asg} {e:Ex} {B C D:Option Addr} {m c d f:Nat} (p:I64 k) (F:X.size≤20000) (y:N.size≤20000) (E:V.length≤20001) (z:S.length≤20001)
  (g:Lst iL 1 w B V) (j:Lst iM 10 w C S) (n:ExV w e D m f):StV w (lowS k X N V S e) (hZ B C D V.length S.length m c d f):=by
 have b:∀A:Option Addr,KidsAt w A []:=fun A=>by unfold KidsAt;exact trivial
 refine⟨p,by show X.size≤_;omega,ew,by show N.size≤_;omega,⟨rfl,by show 0≤_;omega,fun i x h=>by cases h⟩,⟨rfl,by show 0≤_;omega,fun i x h=>by cases h⟩,⟨rfl,by show 0≤_;omega,fun i x h=>by cases h⟩,⟨rfl,by show 0≤_;omega,b _⟩,
  ⟨rfl,by show V.length≤_;omega,lst_rows g⟩,?_,⟨rfl,by show S.length≤_;omega,lst_asgs j⟩,⟨rfl,by show 0≤_;omega,fun i x h=>by cases h⟩,⟨rfl,by show 0≤_;omega,fun i x h=>by cases h⟩,n,⟨rfl,by show 0≤_;omega,b _⟩,⟨rfl,by show 0≤_;omega,fun i x h=>by cases h⟩⟩
 intro l r
 obtain⟨i,hi⟩:=List.getElem?_of_mem r
 obtain⟨cs,_,_,u,G,_,t,_⟩:=g i l hi
 exact t
theorem dS {α:Type} {Φ:α→List Value→World→Prop} {n:Nat} {w:World} {B:Option Addr} :Lst Φ n w B []:=fun i a h=>by cases h
theorem eQ {w:World} {k:Int} {X N:ByteArray} (f:I64 k) (e:X.size≤20000) (b:N.size≤20000):StV w (lowS k X N [] [] exZ) (hZ none none none 0 0 0 0 0 0):=oH f e b (by simp) (by simp) dS dS (fL w)
section
variable {P c:Nat} {A:Option Addr} {L:List Tk} {w0 w:World} {s:Ps}
theorem pneed (i:PsAt 68 P A c L w0 w s) (h:TkL L) (t:ByteArray):
  Calls Tryz.prog 44 #[.pointer (some ⟨P,0,none⟩),.slice (some ⟨w.heap.size,0,none⟩) 1 1] (w.alloc (.cells #[.string t] 9)) fun e w'=> ∃v,e= .returned v∧PsAt 68 P A c L w0 w' (needP t s)∧Chg P w w':=
 (pF (i.ext ((Ext.refl w).alloc _)) h t w.heap.size (by simp[World.cell?_alloc_new])).mono fun e w' ⟨v,b,f,g,_⟩=>⟨v,b,f,(Chg.of ((Ext.refl w).alloc _)).trans g⟩
end
end
section
open Lx (Tk)
theorem fwd_tup {ex:M Ex} (h:Fwd ex):Fwd (tupP ex):=ar (aN _) fun _=>ar (fwd_list h) fun _=>ar (aN _) fun _=>aH _
theorem oI {ex:M Ex} (h:Fwd ex):Fwd (asgP ex):=ar (fwd_tak 1) fun _=>ar (aN _) fun _=>ar h fun _=>aH _
abbrev lC (k:Int) (X:ByteArray) (V S:Value) (W:List Value) (N:ByteArray):List Value:= .int .i64 k:: .string X::nl::nl::nl::nl::V::S::nl::nl::(W++ [nl,nl,.int .i64 0,.string N])
section
variable {P c:Nat} {A:Option Addr} {L:List Tk} {w0 w:World} {s:Ps}
theorem En.els {T:Nat} {f:World} {V:List Vb} {Φ:World→Prop} {Q:Ending→World→Prop} {F:Nat} {x:Array Value} {b:Ps} {z:St} (E:En T P A c L w0 f w s V Φ) (m:Calls Tryz.prog F x w (Ran T P A c L w0 w b fun v w'=>ElSt w.heap.size w' z v)) (k:∀a w',En T P A c L w0 f w' b V (fun u=>Φ u∧StW u z a)→Q (.returned (z.val a)) w'):Calls Tryz.prog F x w Q:=
 m.mono fun e w' ⟨v,h,g,i,a,j,l⟩=>by rw[h,j];exact k a w' (E.calls g i l)
theorem En.pf {T:Nat} {f:World} {V:List Vb} {Φ:World→Prop} {ops:Array Oper} {rest:List Oper} {o:Oper} {a:Act} {Q:Exit→Act→World→Prop} {ty:Nat} {x y:Operand} (E:En T P A c L w0 f w s V Φ) (b:o.guard=none) (i:o.op= .store ty x y) (hd:o.dst=none) (l:a.eval x= .pointer (some ⟨P,2,none⟩)) (m:a.eval y= .bool true) (hi:(Tryz.prog.info? ty).map (·.size)=some 1) (k:∀w',En T P A c L w0 f w' s.fail V Φ→wpList Tryz.prog ops Q rest a w'):wpList Tryz.prog ops Q (o::rest) a w:=
 wpList_plain b fun K g=>by
  unfold Oper.wp execOp
  simp only[i,l,Instr.storeAt,Instr.sureAddr,Sem.run_bind,Sem.run_pure,Result.andThen_ok,jA w P 2 ty (a.eval y) [.bool true] (cB m) (E.ps.blk.there (n:=1) (by simp)) hi (fun u j=>by rw[List.mem_singleton.1 j];rfl)]
  have h:=g a _ (k _ E.fail)
  have e:a.put o.dst undef=a:=by rw[hd];rfl
  rw[←e]at h
  exact h
theorem oJ {n:Nat} {ex:M Ex} (hr:Rdr 68 P A c L w0 n 39 ex) (F:Fwd ex) (hn:s.r.length<n) (X:PsAt 68 P A c L w0 w s) (b:TkL L)
  (D:isS bR s=true→∀W st,PsAt 68 P A c L w0 W st→st.r.length<n→Calls Tryz.prog 54 #[.pointer (some ⟨P,0,none⟩)] W (Ran 68 P A c L w0 W (createP ex st).2 fun v w'=>ElSt W.heap.size w' (createP ex st).1 v))
  (H:isS dd s=true→∀W st,PsAt 68 P A c L w0 W st→st.r.length<n→Calls Tryz.prog 61 #[.pointer (some ⟨P,0,none⟩)] W (Ran 68 P A c L w0 W (queryP ex posP andL st).2 fun v w'=>ElSt W.heap.size w' (queryP ex posP andL st).1 v))
  (G:isS cg s=true→∀W st,PsAt 68 P A c L w0 W st→st.r.length<n→Calls Tryz.prog 56 #[.pointer (some ⟨P,0,none⟩),.func (Fn.func 57) #[.pointer (some ⟨P,0,none⟩)] #[]] W (Ran 68 P A c L w0 W (listP (tupP ex) st).2 fun v w'=> ∃B k,v= .slice B (listP (tupP ex) st).1.length k∧(listP (tupP ex) st).1.length≤k∧Stb (W.heap.size≤·) w' (fun u=>Lst iL 1 u B (listP (tupP ex) st).1)))
  (I:isS cE s=true→∀W st,PsAt 68 P A c L w0 W st→st.r.length<n→Calls Tryz.prog 58 #[.pointer (some ⟨P,0,none⟩),.func (Fn.func 59) #[.pointer (some ⟨P,0,none⟩)] #[]] W (Ran 68 P A c L w0 W (listP (asgP ex) st).2 fun v w'=> ∃B k,v= .slice B (listP (asgP ex) st).1.length k∧(listP (asgP ex) st).1.length≤k∧Stb (W.heap.size≤·) w' (fun u=>Lst iM 10 u B (listP (asgP ex) st).1))):
  Calls Tryz.prog 29 #[.pointer (some ⟨P,0,none⟩)] w (Ran 68 P A c L w0 w (fN ex posP andL ic s).2 fun v w'=>ElSt w.heap.size w' (fN ex posP andL ic s).1 v):=by
 have e:Hid (fN ex posP andL ic s=if isS bR s=true then createP ex s.next else if isS cg s=true then
   (lowS 2 (takP 1 (needP kINTO s.next)).1 ⟨#[]⟩ (listP (tupP ex) (needP kVALUES (takP 1 (needP kINTO s.next)).2)).1 [] exZ,(listP (tupP ex) (needP kVALUES (takP 1 (needP kINTO s.next)).2)).2)
  else if isS cE s=true then (lowS 3 (takP 1 s.next).1 ⟨#[]⟩ [] (listP (asgP ex) (needP kSET (takP 1 s.next).2)).1 (whrP ex (listP (asgP ex) (needP kSET (takP 1 s.next).2)).2).1,(whrP ex (listP (asgP ex) (needP kSET (takP 1 s.next).2)).2).2)
  else if isS dc s=true then (lowS 4 (takP 1 (needP kFROM s.next)).1 ⟨#[]⟩ [] [] (whrP ex (takP 1 (needP kFROM s.next)).2).1,(whrP ex (takP 1 (needP kFROM s.next)).2).2)
  else if isS dd s=true then queryP ex posP andL s.next
  else if isS fq s=true then (lowS 6 ⟨#[]⟩ ⟨#[]⟩ [] [] exZ,s.next)
  else if isS eI s=true then (lowS 7 ⟨#[]⟩ ⟨#[]⟩ [] [] exZ,s.next)
  else if isS dt s=true then (if isS kTO s.next=true then (lowS 10 ⟨#[]⟩ (takP 1 s.next.next).1 [] [] exZ,(takP 1 s.next.next).2)else (lowS 8 ⟨#[]⟩ ⟨#[]⟩ [] [] exZ,s.next))
  else if isS eh s=true then (lowS 9 ⟨#[]⟩ (takP 1 s.next).1 [] [] exZ,(takP 1 s.next).2)
  else if isS iX s=true then (lowS 11 ⟨#[]⟩ (takP 1 s.next).1 [] [] exZ,(takP 1 s.next).2)else (lowS 0 ⟨#[]⟩ ⟨#[]⟩ [] [] exZ,s.fail)):=rfl
 obtain⟨R,hR⟩:∃R,fN ex posP andL ic s=R:=⟨_,rfl⟩
 rw[hR]at e ⊢
 have E:=En.start X
 have ad:=X.le
 have ac:=b.len
 have ag:=next_len s
 clear hR X
 replace D:=hid D
 replace H:=hid H
 replace G:=hid G
 replace I:=hid I
 go_enter Tryz.func29,Tryz.ntmps29
 go_upto_region 1 with (refine E.al rfl _ rfl rfl (cs:=zS) (t:=40) (by kernel_rfl) fun g0 u E=>?_)
 go_wp2_with (first|(go_at_call 53;refine E.tk b bR rfl (fun f u E=>?_) (fun f u E=>?_))|(go_at_call 53;refine E.tk b cg rfl (fun i u E=>?_) (fun i u E=>?_))|(go_at_call 53;refine E.tk b cE rfl (fun l u E=>?_) (fun l u E=>?_))|(go_at_call 53;refine E.tk b dc rfl (fun m u E=>?_) (fun m u E=>?_))|(go_at_call 53;refine E.tk b dd rfl (fun p u E=>?_) (fun p u E=>?_))|(go_at_call 53;refine E.tk b fq rfl (fun z u E=>?_) (fun z u E=>?_))|(go_at_call 53;refine E.tk b eI rfl (fun C u E=>?_) (fun C u E=>?_))|(go_at_call 53;refine E.tk b dt rfl (fun J u E=>?_) (fun J u E=>?_))|(go_at_call 53;refine E.tk b eh rfl (fun K u E=>?_) (fun K u E=>?_))|(go_at_call 53;refine E.tk b iX rfl (fun V u E=>?_) (fun V u E=>?_))|(go_at_call 53;refine E.tk b kTO rfl (fun Y u E=>?_) (fun Y u E=>?_))|(refine wpList_buildTo rfl 40 #[(0,.const (.int .i64 6))] rfl _ rfl (lC 6 ⟨#[]⟩ nl nl zE ⟨#[]⟩).toArray (by kernel_rfl) ?_)|(refine wpList_buildTo rfl 40 #[(0,.const (.int .i64 7))] rfl _ rfl (lC 7 ⟨#[]⟩ nl nl zE ⟨#[]⟩).toArray (by kernel_rfl) ?_)|(refine wpList_buildTo rfl 40 #[(0,.const (.int .i64 8))] rfl _ rfl (lC 8 ⟨#[]⟩ nl nl zE ⟨#[]⟩).toArray (by kernel_rfl) ?_)|(refine wpList_buildTo rfl 40 #[] rfl _ rfl (lC 0 ⟨#[]⟩ nl nl zE ⟨#[]⟩).toArray (by kernel_rfl) ?_)|(refine E.sw (j:=0) (ty:=40) rfl rfl rfl rfl rfl rfl (by kernel_rfl) (by kernel_rfl) (by rfl) fun u E=>?_)|(refine E.pf rfl rfl rfl rfl rfl (by kernel_rfl) fun u E=>?_))
 ·rw[f,if_pos rfl]at e
  have O:=ay f
  go_wp2_with (first|(go_at_call 54;refine E.els (D f _ _ E.ps (by omega)) fun a u E=>?_)|(refine E.sw (j:=0) (ty:=40) rfl rfl rfl rfl rfl rfl (by kernel_rfl) (by kernel_rfl) (by rfl) fun u E=>?_))
  rw[e.out]
  exact E.fi (j:=0) rfl rfl rfl rfl (by kernel_rfl) ⟨a,rfl,E.keep.imp fun u h=>h.2⟩
 ·rw[f,if_neg (by simp),i,if_pos rfl]at e
  have O:=ay i
  have f1:=aF kINTO s.next
  have f2:=fwd_tak 1 (needP kINTO s.next)
  have f3:=aF kVALUES (takP 1 (needP kINTO s.next)).2
  have f4:=list_len (fwd_tup F) (needP kVALUES (takP 1 (needP kINTO s.next)).2)
  go_wp2_with (first|(go_at_call 44;refine E.nd b kINTO rfl rfl fun v u E=>?_)|(go_at_call 44;refine E.nd b kVALUES rfl rfl fun v u E=>?_)|(go_at_call 55;have y:=hid (E.ps.tak_size b 1);refine E.run (bF E.ps b) fun v u x E=>?_;subst x)|(refine wpList_buildTo rfl 40 #[(0,.const (.int .i64 2)),(1,.tmp 18)] rfl _ rfl (lC 2 (takP 1 (needP kINTO s.next)).1 nl nl zE ⟨#[]⟩).toArray (by kernel_rfl) ?_)|(refine E.al rfl _ rfl rfl (cs:=zS) (t:=40) (by kernel_rfl) fun g u E=>?_)|(refine E.sw (j:=0) (ty:=40) rfl rfl rfl rfl rfl rfl (by kernel_rfl) (by kernel_rfl) (by rfl) fun u E=>?_)|(refine E.sw (j:=1) (ty:=40) rfl rfl rfl rfl rfl rfl (by kernel_rfl) (by kernel_rfl) (by rfl) fun u E=>?_)|(refine E.ls (G i _ _ E.ps (by omega)) fun B k u hk E=>?_)|(refine E.sm (j:=0) rfl rfl rfl rfl rfl (by first|exact cA rfl|exact cS rfl|exact cI rfl|exact cL rfl|exact cB rfl) (by kernel_rfl) (by kernel_rfl) (by kernel_rfl) fun u E=>?_)|(refine E.lw (j:=0) (ty:=40) rfl rfl rfl rfl (by kernel_rfl) ?_))
  rw[e.out]
  exact E.fi (j:=1) rfl rfl rfl rfl (by kernel_rfl) ⟨hZ B none none _ 0 0 k 0 0,rfl,E.keep.imp fun u h=>StW.of (oH i64_2 y (Nat.zero_le _) (by omega) (Nat.zero_le _) h.2 dS (fL u)) rfl rfl⟩
 ·rw[f,if_neg (by simp),i,if_neg (by simp),l,if_pos rfl]at e
  have O:=ay l
  have f2:=fwd_tak 1 s.next
  have f3:=aF kSET (takP 1 s.next).2
  have f4:=list_len (oI F) (needP kSET (takP 1 s.next).2)
  have f5:=fwd_list (oI F) (needP kSET (takP 1 s.next).2)
  go_wp2_with (first|(go_at_call 44;refine E.nd b kSET rfl rfl fun v u E=>?_)|(go_at_call 55;have y:=hid (E.ps.tak_size b 1);refine E.run (bF E.ps b) fun v u x E=>?_;subst x)|(refine wpList_buildTo rfl 40 #[(0,.const (.int .i64 3)),(1,.tmp 33)] rfl _ rfl (lC 3 (takP 1 s.next).1 nl nl zE ⟨#[]⟩).toArray (by kernel_rfl) ?_)|(refine E.al rfl _ rfl rfl (cs:=zS) (t:=40) (by kernel_rfl) fun g u E=>?_)|(refine E.sw (j:=0) (ty:=40) rfl rfl rfl rfl rfl rfl (by kernel_rfl) (by kernel_rfl) (by rfl) fun u E=>?_)|(refine E.sw (j:=1) (ty:=40) rfl rfl rfl rfl rfl rfl (by kernel_rfl) (by kernel_rfl) (by rfl) fun u E=>?_)|(refine E.ls (I l _ _ E.ps (by omega)) fun B k u hk E=>?_)|(go_at_call 60;refine E.rdx (qb hr (by omega) E.ps b) fun U Z c2 u E=>?_)|(refine E.sm (j:=0) rfl rfl rfl rfl rfl (by first|exact cA rfl|exact cS rfl|exact cI rfl|exact cL rfl|exact cB rfl) (by kernel_rfl) (by kernel_rfl) (by kernel_rfl) fun u E=>?_)|(refine E.lw (j:=0) (ty:=40) rfl rfl rfl rfl (by kernel_rfl) ?_))
  rw[e.out]
  exact E.fi (j:=1) rfl rfl rfl rfl (by kernel_rfl) ⟨hZ none B U 0 _ Z 0 k c2,rfl,E.keep.imp fun u h=>StW.of (oH (by unfold I64;omega) y (Nat.zero_le _) (Nat.zero_le _) (by omega) dS h.1.2 h.2) rfl rfl⟩
 ·rw[f,if_neg (by simp),i,if_neg (by simp),l,if_neg (by simp),m,if_pos rfl]at e
  have O:=ay m
  have f1:=aF kFROM s.next
  have f2:=fwd_tak 1 (needP kFROM s.next)
  go_wp2_with (first|(go_at_call 44;refine E.nd b kFROM rfl rfl fun v u E=>?_)|(go_at_call 55;have y:=hid (E.ps.tak_size b 1);refine E.run (bF E.ps b) fun v u x E=>?_;subst x)|(refine wpList_buildTo rfl 40 #[(0,.const (.int .i64 4)),(1,.tmp 54)] rfl _ rfl (lC 4 (takP 1 (needP kFROM s.next)).1 nl nl zE ⟨#[]⟩).toArray (by kernel_rfl) ?_)|(refine E.al rfl _ rfl rfl (cs:=zS) (t:=40) (by kernel_rfl) fun g u E=>?_)|(refine E.sw (j:=0) (ty:=40) rfl rfl rfl rfl rfl rfl (by kernel_rfl) (by kernel_rfl) (by rfl) fun u E=>?_)|(refine E.sw (j:=1) (ty:=40) rfl rfl rfl rfl rfl rfl (by kernel_rfl) (by kernel_rfl) (by rfl) fun u E=>?_)|(go_at_call 60;refine E.rdx (qb hr (by omega) E.ps b) fun U Z c2 u E=>?_)|(refine E.sm (j:=0) rfl rfl rfl rfl rfl (by first|exact cA rfl|exact cS rfl|exact cI rfl|exact cL rfl|exact cB rfl) (by kernel_rfl) (by kernel_rfl) (by kernel_rfl) fun u E=>?_)|(refine E.lw (j:=0) (ty:=40) rfl rfl rfl rfl (by kernel_rfl) ?_))
  rw[e.out]
  exact E.fi (j:=1) rfl rfl rfl rfl (by kernel_rfl) ⟨hZ none none U 0 0 Z 0 0 c2,rfl,E.keep.imp fun u h=>StW.of (oH (by unfold I64;omega) y (Nat.zero_le _) (Nat.zero_le _) (Nat.zero_le _) dS dS h.2) rfl rfl⟩
 ·rw[f,if_neg (by simp),i,if_neg (by simp),l,if_neg (by simp),m,if_neg (by simp),p,if_pos rfl]at e
  have O:=ay p
  go_wp2_with (first|(go_at_call 61;refine E.els (H p _ _ E.ps (by omega)) fun a u E=>?_)|(refine E.sw (j:=0) (ty:=40) rfl rfl rfl rfl rfl rfl (by kernel_rfl) (by kernel_rfl) (by rfl) fun u E=>?_))
  rw[e.out]
  exact E.fi (j:=0) rfl rfl rfl rfl (by kernel_rfl) ⟨a,rfl,E.keep.imp fun u h=>h.2⟩
 ·rw[f,if_neg (by simp),i,if_neg (by simp),l,if_neg (by simp),m,if_neg (by simp),p,if_neg (by simp),z,if_pos rfl]at e
  rw[e.out]
  exact E.fi (j:=0) rfl rfl rfl rfl (by kernel_rfl) ⟨hZ none none none 0 0 0 0 0 0,rfl,E.keep.imp fun u _=>StW.of (eQ (by unfold I64;omega) (Nat.zero_le _) (Nat.zero_le _)) rfl rfl⟩
 ·rw[f,if_neg (by simp),i,if_neg (by simp),l,if_neg (by simp),m,if_neg (by simp),p,if_neg (by simp),z,if_neg (by simp),C,if_pos rfl]at e
  rw[e.out]
  exact E.fi (j:=0) rfl rfl rfl rfl (by kernel_rfl) ⟨hZ none none none 0 0 0 0 0 0,rfl,E.keep.imp fun u _=>StW.of (eQ (by unfold I64;omega) (Nat.zero_le _) (Nat.zero_le _)) rfl rfl⟩
 ·rw[f,if_neg (by simp),i,if_neg (by simp),l,if_neg (by simp),m,if_neg (by simp),p,if_neg (by simp),z,if_neg (by simp),C,if_neg (by simp),J,if_pos rfl]at e
  rw[Y,if_pos rfl]at e
  go_wp2_with (first|(go_at_call 55;have y:=hid (E.ps.tak_size b 1);refine E.run (bF E.ps b) fun v u x E=>?_;subst x)|(refine wpList_buildTo rfl 40 #[(0,.const (.int .i64 10)),(11,.tmp 79)] rfl _ rfl (lC 10 ⟨#[]⟩ nl nl zE (takP 1 s.next.next).1).toArray (by kernel_rfl) ?_)|(refine E.sw (j:=0) (ty:=40) rfl rfl rfl rfl rfl rfl (by kernel_rfl) (by kernel_rfl) (by rfl) fun u E=>?_))
  rw[e.out]
  exact E.fi (j:=0) rfl rfl rfl rfl (by kernel_rfl) ⟨hZ none none none 0 0 0 0 0 0,rfl,E.keep.imp fun u _=>StW.of (eQ (by unfold I64;omega) (Nat.zero_le _) y) rfl rfl⟩
 ·rw[f,if_neg (by simp),i,if_neg (by simp),l,if_neg (by simp),m,if_neg (by simp),p,if_neg (by simp),z,if_neg (by simp),C,if_neg (by simp),J,if_pos rfl]at e
  rw[Y,if_neg (by simp)]at e
  rw[e.out]
  exact E.fi (j:=0) rfl rfl rfl rfl (by kernel_rfl) ⟨hZ none none none 0 0 0 0 0 0,rfl,E.keep.imp fun u _=>StW.of (eQ (by unfold I64;omega) (Nat.zero_le _) (Nat.zero_le _)) rfl rfl⟩
 ·rw[f,if_neg (by simp),i,if_neg (by simp),l,if_neg (by simp),m,if_neg (by simp),p,if_neg (by simp),z,if_neg (by simp),C,if_neg (by simp),J,if_neg (by simp),K,if_pos rfl]at e
  go_wp2_with (first|(go_at_call 55;have y:=hid (E.ps.tak_size b 1);refine E.run (bF E.ps b) fun v u x E=>?_;subst x)|(refine wpList_buildTo rfl 40 #[(0,.const (.int .i64 9)),(11,.tmp 86)] rfl _ rfl (lC 9 ⟨#[]⟩ nl nl zE (takP 1 s.next).1).toArray (by kernel_rfl) ?_)|(refine E.sw (j:=0) (ty:=40) rfl rfl rfl rfl rfl rfl (by kernel_rfl) (by kernel_rfl) (by rfl) fun u E=>?_))
  rw[e.out]
  exact E.fi (j:=0) rfl rfl rfl rfl (by kernel_rfl) ⟨hZ none none none 0 0 0 0 0 0,rfl,E.keep.imp fun u _=>StW.of (eQ (by unfold I64;omega) (Nat.zero_le _) y) rfl rfl⟩
 ·rw[f,if_neg (by simp),i,if_neg (by simp),l,if_neg (by simp),m,if_neg (by simp),p,if_neg (by simp),z,if_neg (by simp),C,if_neg (by simp),J,if_neg (by simp),K,if_neg (by simp),V,if_pos rfl]at e
  go_wp2_with (first|(go_at_call 55;have y:=hid (E.ps.tak_size b 1);refine E.run (bF E.ps b) fun v u x E=>?_;subst x)|(refine wpList_buildTo rfl 40 #[(0,.const (.int .i64 11)),(11,.tmp 92)] rfl _ rfl (lC 11 ⟨#[]⟩ nl nl zE (takP 1 s.next).1).toArray (by kernel_rfl) ?_)|(refine E.sw (j:=0) (ty:=40) rfl rfl rfl rfl rfl rfl (by kernel_rfl) (by kernel_rfl) (by rfl) fun u E=>?_))
  rw[e.out]
  exact E.fi (j:=0) rfl rfl rfl rfl (by kernel_rfl) ⟨hZ none none none 0 0 0 0 0 0,rfl,E.keep.imp fun u _=>StW.of (eQ (by unfold I64;omega) (Nat.zero_le _) y) rfl rfl⟩
 ·rw[f,if_neg (by simp),i,if_neg (by simp),l,if_neg (by simp),m,if_neg (by simp),p,if_neg (by simp),z,if_neg (by simp),C,if_neg (by simp),J,if_neg (by simp),K,if_neg (by simp),V,if_neg (by simp)]at e
  rw[e.out]
  exact E.fi (j:=0) rfl rfl rfl rfl (by kernel_rfl) ⟨hZ none none none 0 0 0 0 0 0,rfl,E.keep.imp fun u _=>StW.of (eQ (by unfold I64;omega) (Nat.zero_le _) (Nat.zero_le _)) rfl rfl⟩
end
end
end Go.Proofs.YtjigcpfjhfoheaaGreatDoor
