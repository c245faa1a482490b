/- Walk: a SELECT statement. -/
import Derived.Test.YtjigcpfjhfoheaaGreatDoorYcg
namespace Go.Proofs.YtjigcpfjhfoheaaGreatDoor
open Go.RowKit
set_option maxHeartbeats 16000000
set_option maxRecDepth 100000
set_option linter.unusedVariables false
set_option linter.unusedSimpArgs false
section
open Lx (Tk)
theorem from_eq (ex:M Ex) (s:Ps):fromP ex s=fromGo ex (s.r.length+1) [(srcP s).1] [] (srcP s).2:=rfl
theorem nl (ex:M Ex) (m:Nat) (l:List Src) (c:List Ex) (st:Ps):fromGo ex (m+1) l c st=if isS yCm st=true then fromGo ex m (l++ [(srcP st.next).1]) c (srcP st.next).2
  else if isS fv st=true then fromGo ex m (l++ [(srcP st.next).1]) (c++ [(ex (needP kON (srcP st.next).2)).1]) (ex (needP kON (srcP st.next).2)).2 else ((l,c),st):=rfl
theorem not_both {s:Ps} (h:isS yCm s=true):isS fv s=false:=by
 obtain⟨i,a,l,b,g,f,_⟩:=ce h
 have e:s.hd=a:=by unfold Ps.hd;rw[b];rfl
 unfold isS
 rw[e,f]
 have:¬yCm=fv:=by decide
 simp[this]
theorem phi_stb {S:Nat→Prop} {w:World} {y:Ex} {cs:List Value} (h:Stb S w (cu y cs)):∃B k c,cs=y.d.cells B k c∧Stb S w (fun i=>ExV i y B k c):=by
 obtain⟨B,k,c,b,_⟩:=h.now
 refine⟨B,k,c,b,h.imp fun i ⟨f,g,c2,a,l⟩=>?_⟩
 have j:(y.d.cells B k c)[7]? =(y.d.cells f g c2)[7]? :=by rw[←b,←a]
 have e:some (Value.slice B k c)=some (Value.slice f g c2):=j
 injection e with e
 injection e with e1 e2 e3
 subst e1 e2 e3
 exact l
theorem andL_snoc {l:List Ex} (h:l≠[]) (y:Ex):andL (l++ [y])=opE 18 [andL l,y]:=by
 cases l with
 |nil=>exact absurd rfl h
 |cons a l=>
  show(l++ [y]).foldl _ a=_
  rw[List.foldl_append]
  rfl
theorem j8:Fwd (fE posP):=ay fwd_pos fun _=>cM _ (aT _) (cM _ (aT _) (aT _))
theorem pos_le {T P c:Nat} {A:Option Addr} {L:List Tk} {w0 w:World} {s:Ps} (h:PsAt T P A c L w0 w s) (f:TkL L):I64 (posP s).1:=by
 have k:∀a:Ps,PsAt T P A c L w0 w a→I64 (numP a).1:=fun a b=>by
  have:=b.num_le f
  unfold I64
  omega
 unfold posP
 split
 ·have e:(numP s.fail).1=0:=by
   unfold numP
   rw[iK (s:=s.fail) rfl]
   rfl
  rw[e]
  exact bG
 ·exact k s h
def qS (i:List Itm) (f:List Src) (W:Ex) (g:List Ex) (o:List Ord') (l:Int):St:= { stZ with kd:=5,itms:=i,frm:=f,whr:=W,grp:=g,ord:=o,lim:=l }
theorem query_of {ex:M Ex} {s b k j h a e:Ps} {i:List Itm} {f:List Src×List Ex} {W:Ex} {g:List Ex} {o:List Ord'} {l:Int} (n:itmsP ex s=(i,b)) (m:fromP ex (needP kFROM b)=(f,k)) (q:ep ex andL f.2 k=(W,j)) (r:grpP j=(g,h)) (p:gg posP h=(o,a)) (t:limP posP a=(l,e)):
  queryP ex posP andL s=(qS i f.1 W g o l,e):=by
 unfold queryP aB aY bb
 simp only[n,m,q,r,p,t]
 rfl
theorem query_st {w:World} {I:List Itm} {a:List Src} {E:Ex} {G:List Ex} {O:List Ord'} {l:Int} {B g f m b:Option Addr} {k t j c1 r n:Nat} (F:I.length≤20001) (H:a.length≤20001) (C:G.length≤20001) (D:O.length≤20001) (q:I64 l)
  (z:Lst bO 9 w B I) (y:Lst eJ 2 w g a) (u:ExV w E f j c1) (p:Lst cu 8 w m G) (o:Lst ea 2 w b O):
  StV w (qS I a E G O l) ⟨⟨none,0,0⟩,⟨none,0,0⟩,⟨none,0,0⟩,⟨none,0,0⟩,⟨none,0,0⟩,⟨none,0,0⟩,⟨B,I.length,k⟩,⟨g,a.length,t⟩,⟨f,j,c1⟩,⟨m,G.length,r⟩,⟨b,O.length,n⟩⟩:=by
 have e:∀A:Option Addr,KidsAt w A []:=fun A=>by unfold KidsAt;exact trivial
 refine⟨by show I64 5;unfold I64;omega,by show 0≤9223372036854775807;omega,q,by show 0≤9223372036854775807;omega,⟨rfl,by show 0≤_;omega,fun i x h=>by cases h⟩,⟨rfl,by show 0≤_;omega,fun i x h=>by cases h⟩,⟨rfl,by show 0≤_;omega,fun i x h=>by cases h⟩,⟨rfl,by show 0≤_;omega,e _⟩,
  ⟨rfl,by show 0≤_;omega,?_⟩,(fun l h=>by cases h),⟨rfl,by show 0≤_;omega,fun i x h=>by cases h⟩,⟨rfl,by show I.length≤_;omega,lst_itms z⟩,⟨rfl,by show a.length≤_;omega,lst_srcs y⟩,u,⟨rfl,by show G.length≤_;omega,j4 p⟩,⟨rfl,by show O.length≤_;omega,lst_ords o⟩⟩
 intro i l h
 cases h
section
variable {P c:Nat} {A:Option Addr} {L:List Tk} {w0 w:World} {s:Ps}
theorem query_rd {n:Nat} {ex:M Ex} (hr:Rdr 68 P A c L w0 n 39 ex) (n0:Fwd ex) (hn:s.r.length<n) (hE:Er w0) (hp:PsAt 68 P A c L w0 w s) (hL:TkL L):
  Calls Tryz.prog 61 #[.pointer (some ⟨P,0,none⟩)] w (Ran 68 P A c L w0 w (queryP ex posP andL s).2 fun v w'=>ElSt w.heap.size w' (queryP ex posP andL s).1 v):=by
 have oX:=(Ext.refl w).alloc (.cells #[.int .i64 0,.string ⟨#[]⟩,.slice none 0 0,.slice none 0 0,.slice none 0 0,.slice none 0 0,.slice none 0 0,.slice none 0 0,.slice none 0 0,.slice none 0 0,.int .i64 0,.string ⟨#[]⟩,.string ⟨#[]⟩,.int .i64 0,.int .i64 0,.int .i64 0,.string ⟨#[]⟩,.slice none 0 0,.slice none 0 0,.slice none 0 0,.int .i64 0,.string ⟨#[]⟩] 40)
 have qZ:=hid (hp.ext oX)
 have qQ:Hid (P<w.heap.size):=hp.lt
 have oP:=hid (Blk.of_new w 40 sC)
 have rt:=hid (Chg.of (P:=P) oX)
 have rT:Hid (w.heap.size≤(w.alloc (.cells #[.int .i64 0,.string ⟨#[]⟩,.slice none 0 0,.slice none 0 0,.slice none 0 0,.slice none 0 0,.slice none 0 0,.slice none 0 0,.slice none 0 0,.slice none 0 0,.int .i64 0,.string ⟨#[]⟩,.string ⟨#[]⟩,.int .i64 0,.int .i64 0,.int .i64 0,.string ⟨#[]⟩,.slice none 0 0,.slice none 0 0,.slice none 0 0,.int .i64 0,.string ⟨#[]⟩] 40)).heap.size):=oX.size
 have r8:=hL.len
 have oT:=hp.le
 clear hp oX
 go_enter Tryz.func61,Tryz.ntmps61
 go_upto_region 1 with fail
 generalize w.alloc (.cells #[.int .i64 0,.string ⟨#[]⟩,.slice none 0 0,.slice none 0 0,.slice none 0 0,.slice none 0 0,.slice none 0 0,.slice none 0 0,.slice none 0 0,.slice none 0 0,.int .i64 0,.string ⟨#[]⟩,.string ⟨#[]⟩,.int .i64 0,.int .i64 0,.int .i64 0,.string ⟨#[]⟩,.slice none 0 0,.slice none 0 0,.slice none 0 0,.int .i64 0,.string ⟨#[]⟩] 40)=wz at*
 obtain⟨g0,i3⟩:∃g,w.heap.size=g:=⟨_,rfl⟩
 have bx:=hid i3
 rw[i3]at qQ oP rT ⊢
 clear i3
 have Z:=qQ
 go_upto_region 2 with (first
  |(refine wpList_buildTo rfl 40 _ rfl (some 8) rfl #[.int .i64 5,.string ⟨#[]⟩,.slice none 0 0,.slice none 0 0,.slice none 0 0,.slice none 0 0,.slice none 0 0,.slice none 0 0,.slice none 0 0,.slice none 0 0,.int .i64 0,.string ⟨#[]⟩,.string ⟨#[]⟩,.int .i64 0,.int .i64 0,.int .i64 0,.string ⟨#[]⟩,.slice none 0 0,.slice none 0 0,.slice none 0 0,.int .i64 0,.string ⟨#[]⟩] (by kernel_rfl) ?_)
  |(refine Great.wpList_allocTo rfl (some 3) rfl (.pointer (some ⟨wz.heap.size,0,none⟩)) (.cells #[.int .i64 0,.string ⟨#[]⟩,.slice none 0 0,.slice none 0 0,.slice none 0 0,.slice none 0 0,.slice none 0 0,.slice none 0 0,.slice none 0 0,.slice none 0 0,.int .i64 0,.string ⟨#[]⟩,.string ⟨#[]⟩,.int .i64 0,.int .i64 0,.int .i64 0,.string ⟨#[]⟩,.slice none 0 0,.slice none 0 0,.slice none 0 0,.int .i64 0,.string ⟨#[]⟩] 40) (by kernel_rfl) ?_)
  |(refine wpList_store_rowTo rfl 40 (.tmp 3) (.tmp 8) rfl rfl wz.heap.size #[.int .i64 5,.string ⟨#[]⟩,.slice none 0 0,.slice none 0 0,.slice none 0 0,.slice none 0 0,.slice none 0 0,.slice none 0 0,.slice none 0 0,.slice none 0 0,.int .i64 0,.string ⟨#[]⟩,.string ⟨#[]⟩,.int .i64 0,.int .i64 0,.int .i64 0,.string ⟨#[]⟩,.slice none 0 0,.slice none 0 0,.slice none 0 0,.int .i64 0,.string ⟨#[]⟩] rfl rfl 40 #[.int .i64 0,.string ⟨#[]⟩,.slice none 0 0,.slice none 0 0,.slice none 0 0,.slice none 0 0,.slice none 0 0,.slice none 0 0,.slice none 0 0,.slice none 0 0,.int .i64 0,.string ⟨#[]⟩,.string ⟨#[]⟩,.int .i64 0,.int .i64 0,.int .i64 0,.string ⟨#[]⟩,.slice none 0 0,.slice none 0 0,.slice none 0 0,.int .i64 0,.string ⟨#[]⟩] (heap_alloc_new wz _) (by kernel_rfl) (by kernel_rfl) (by kernel_rfl) ?_;rw[World.setRow_alloc_new]))
 simp only[Act.put,List.setIfInBounds_toArray,List.set_cons_succ,List.set_cons_zero]
 have hx:=(Ext.refl wz).alloc (.cells #[.int .i64 5,.string ⟨#[]⟩,.slice none 0 0,.slice none 0 0,.slice none 0 0,.slice none 0 0,.slice none 0 0,.slice none 0 0,.slice none 0 0,.slice none 0 0,.int .i64 0,.string ⟨#[]⟩,.string ⟨#[]⟩,.int .i64 0,.int .i64 0,.int .i64 0,.string ⟨#[]⟩,.slice none 0 0,.slice none 0 0,.slice none 0 0,.int .i64 0,.string ⟨#[]⟩] 40)
 have rp:=hid (oP.ext hx)
 have rg:=hid (rt.ext hx)
 have q3:=hid (qZ.ext hx)
 have oG:=hid (Blk.of_new wz 40 (sC (k:=5)))
 have R:Hid (g0<wz.heap.size):=oP.lt
 clear hx
 clear oP rt qZ
 generalize wz.alloc (.cells #[.int .i64 5,.string ⟨#[]⟩,.slice none 0 0,.slice none 0 0,.slice none 0 0,.slice none 0 0,.slice none 0 0,.slice none 0 0,.slice none 0 0,.slice none 0 0,.int .i64 0,.string ⟨#[]⟩,.string ⟨#[]⟩,.int .i64 0,.int .i64 0,.int .i64 0,.string ⟨#[]⟩,.slice none 0 0,.slice none 0 0,.slice none 0 0,.int .i64 0,.string ⟨#[]⟩] 40)=w1 at*
 generalize wz.heap.size=gv at*
 go_wp2_with fail
 refine(ai q3 hL dK).mono ?_
 rintro _ w2 ⟨v,rfl,U,D,rfl⟩
 have m2:=hid U
 have ou:=hid (D.blk rp (by have:=Z.out;omega))
 have o4:=hid (rg.trans D)
 have a6:=hid (D.blk oG (by have:=Z.out;have:=R.out;omega))
 clear U D
 clear rp rg q3 oG
 obtain⟨q,J⟩:∃q,isS dK s=q:=⟨_,rfl⟩
 rw[J]
 have HQ:=hid J
 clear J
 go_upto_if 11 with fail
 go_cut [] from 12 to 16 (fun wx=> ∃(B:Option Addr) (k:Nat) (I:List Itm) (st:Ps),itmsP ex s=(I,st)∧I.length≤20001∧st.r.length≤s.r.length∧PsAt 68 P A c L w0 wx st∧Chg P w wx∧Blk wx g0 40 sC∧Blk wx gv 40 (sC (k:=5) (i:= .slice B I.length k))∧Stb (Sx g0 gv) wx (fun w2=>Lst bO 9 w2 B I))
 case first=>
  cases q
  ·have e:(aq dK s).2=s:=by have hb:=HQ.out;simp[aq,hb]
   rw[e]at m2
   clear e
   have qv:Fwd (fF ex):=fwd_fst _ (fun o=>ay (a7 _) fun _=>by split;exact cM _ (ay (a7 _) fun _=>aT _) (ay n0 fun _=>ay (a7 _) fun _=>aT _);exact ay n0 fun _=>ay (a7 _) fun _=>aT _) (ay n0 fun _=>aT _)
   have hN:=hid (dN qv s)
   have hh:=hid (dw qv s)
   have z9:=a6.cell_some (i:=8) rfl
   have y9:=a6.frozen 8
   go_wp2_with fail
   refine(list_itm 103 entK_item (fF ex) qv m2 hL (fun W st hS hl=>item_rd hr (by omega) hS hL)).mono ?_
   rintro _ w3 ⟨v,rfl,U,D,B,k,rfl,h3⟩
   clear z9 y9
   obtain⟨I,hI⟩:∃x,(listP (fF ex) s).1=x:=⟨_,rfl⟩
   obtain⟨s1,qr⟩:∃x,(listP (fF ex) s).2=x:=⟨_,rfl⟩
   rw[hI]at h3 hh ⊢
   rw[qr]at U hN
   have pK:Hid (itmsP ex s=(I,s1)):=by
    unfold Hid itmsP ifM
    rw[HQ.out,if_neg (by simp)]
    exact Prod.ext hI qr
   clear hI qr
   have os:=hid U
   have m7:=hid (D.blk ou (by have:=Z.out;omega))
   have oz:=hid (o4.trans D)
   have a0:=hid (D.blk a6 (by have:=Z.out;have:=R.out;omega))
   have pT:Hid (Stb (Sx g0 gv) w3 fun w2=>Lst bO 9 w2 B I):=h3.weak fun q _ J=>⟨Nat.le_trans ou.lt J,by have h8:=a6.lt;have h9:w2.heap.size≤q:=J;omega⟩
   clear U D h3
   clear ou o4 m2 a6
   have z9:=a0.cell_some (i:=8) rfl
   have y9:=a0.frozen 8
   have Q:=aC w3 gv 8 (.slice B I.length k)
   have kb:=hid (os.grown Q (fun q J=>by have:=Option.some.inj J;have:=Z.out;have:=R.out;omega))
   have i5:=hid (m7.grown Q (fun e=>by have:=Option.some.inj e;have:=R.out;omega))
   have h0:=hid (oz.own Q (fun q J=>by have:=Option.some.inj J;have:=R.out;rw[bx.out];omega))
   have kc:=hid (a0.set 8 (.slice B I.length k))
   have qm:=hid (Stb.grown pT Q (fun q J e=>J.2 (Option.some.inj e).symm))
   clear Q
   go_wp2_with fail
   go_meet
   exact⟨B,k,I,s1,pK,by have:=hh.out;omega,hN,kb,h0,i5,kc,qm⟩
  ·have e:(aq dK s).2=s.next:=by have hb:=HQ.out;simp[aq,hb]
   rw[e]at m2
   clear e
   go_wp2_with fail
   go_meet
   exact⟨none,0,[],s.next,by unfold itmsP ifM;rw[HQ.out,if_pos rfl];rfl,by simp,next_len s,m2,o4,ou,a6,fun w2 _ _ j a h=>by cases h⟩
 case rest=>
  obtain⟨B,k,I,s1,qJ,rL,sa,U,D,h3,h4,h5⟩:=hcut
  clear m2 o4 ou a6 HQ
  have pd:=hid U
  have pk:=hid D
  have pt:=hid h3
  have k3:=hid h4
  have l5:=hid h5
  have pK:=hid qJ
  have rQ:=hid rL
  clear U D h3 h4 h5 qJ
  generalize wc=oV at*
  have rU:=aH kFROM s1
  go_wp2_with fail
  refine(az (pd.ext ((Ext.refl oV).alloc (.cells #[.string kFROM] 9))) hL kFROM oV.heap.size (by simp[World.cell?_alloc_new])).mono ?_
  rintro _ es ⟨v,rfl,U,D,_⟩
  replace D:Chg P oV es:=(Chg.of ((Ext.refl oV).alloc (.cells #[.string kFROM] 9))).trans D
  have ov:=hid U
  have k6:=hid (D.blk pt (by have:=Z.out;omega))
  have pC:=hid (pk.trans D)
  have k0:=hid (Stb.chg2 l5 D (by have:=Z.out;omega))
  have bk:=hid (D.blk k3 (by have:=Z.out;have:=R.out;omega))
  clear U D
  clear pt pk pd l5 k3
  obtain⟨s2,o3⟩:∃x,needP kFROM s1=x:=⟨_,rfl⟩
  rw[o3]at ov rU
  have rH:=hid o3
  clear o3
  obtain⟨n1,rI⟩:∃n,es.heap.size=n:=⟨_,rfl⟩
  have ba:Hid (gv<n1):=by have:=bk.lt;unfold Hid;omega
  have cb:Hid (P<n1):=by have:=Z.out;have:=k6.lt;unfold Hid;omega
  have a4:Hid (g0<n1):=by have:=k6.lt;unfold Hid;omega
  have pa:Hid (Stb (fun q=>g0+1≤q∧q≠gv∧q<n1) es fun w2=>Lst bO 9 w2 B I):=k0.weak fun q J hs=>⟨hs.1,hs.2,by omega⟩
  have np:Hid (n1≤es.heap.size):=by unfold Hid;omega
  have pF:=hid (FrW.start n1 es)
  clear k0 rI
  obtain⟨iq,q0,qL,m4,ru⟩:=aX info_src
  obtain⟨iz,qX,rs,q5,rn⟩:=aX info_exq
  have gs:Fwd srcP:=ay (fwd_tak 1) fun _=>cM _ (ay (fwd_tak 1) fun _=>aT _) (aT _)
  obtain⟨⟨tb,al⟩,i2⟩:∃x,(srcP s2).1=x:=⟨_,rfl⟩
  obtain⟨sr,bn⟩:∃x,(srcP s2).2=x:=⟨_,rfl⟩
  have il:=kP (ov.ext (Ext.refl es).drew) hL
  rw[i2,bn]at il
  have m5:Hid (srcP s2=(⟨tb,al⟩,sr)):=Prod.ext i2 bn
  have ds:=gs s2
  rw[bn]at ds
  clear i2 bn
  have oD:Hid (Calls Tryz.prog 104 #[.pointer (some ⟨P,0,none⟩)] es.drew fun e w3=>e= .returned (.agg #[.string tb,.string al])∧(tb.size≤20000∧al.size≤20000)∧PsAt 68 P A c L w0 w3 sr∧Chg P es w3):=il.mono fun e w3 ⟨v,he,h5,h6,hv,hz⟩=>⟨by rw[he,hv],hz,h5,(Chg.of (Ext.refl es).drew).trans h6⟩
  clear il
  have hX:Hid ((([]:List Src)).length≤20001):=by unfold Hid;first|omega|simp
  have z1:=bk.cell_some (i:=9) rfl
  have qg:=(bk.ext (Ext.refl es).drew).cell_some (i:=9) rfl
  go_upto_region 5 with fail
  go_cut [] from 20 to 25 (fun wx=> ∃(A7:Option Addr) (c7:Nat),(tb.size≤20000∧al.size≤20000)∧PsAt 68 P A c L w0 wx sr∧Chg P w wx∧Blk wx g0 40 sC∧Blk wx gv 40 [.int .i64 5,.string ⟨#[]⟩,.slice none 0 0,.slice none 0 0,.slice none 0 0,.slice none 0 0,.slice none 0 0,.slice none 0 0,.slice B I.length k,.slice A7 ((([]:List Src)).length+1) c7,.int .i64 0,.string ⟨#[]⟩,.string ⟨#[]⟩,.int .i64 0,.int .i64 0,.int .i64 0,.string ⟨#[]⟩,.slice none 0 0,.slice none 0 0,.slice none 0 0,.int .i64 0,.string ⟨#[]⟩]∧Stb (fun q=>g0+1≤q∧q≠gv∧q<n1) wx (fun w2=>Lst bO 9 w2 B I)∧n1≤wx.heap.size∧∃cf cx,FrW n1 wx (.slice A7 ((([]:List Src)).length+1) c7) (.slice none 0 0) cf cx ((([]:List Src))++ [⟨tb,al⟩]) ([]:List Ex))
  case first=>
   go_region_law (first
    |(refine aS _ rfl (.tmp 21) (.tmp 24) 33 rfl n1 86 iq _ 2 32 Tryz.underlying33 q0 qL m4 ru rfl (by decide) _ (([]:List Src)).length _ rfl ie.f.own _ _ 1 1 [.string tb,.string al] rfl (bW w3 [.string tb,.string al] 86 2 rfl) (by simp[Value.oneCell']) (by have:=hX.out;unfold maxLen;omega) (by have:=hX.out;omega) hw ?_;intro v7 w7 Y H ac;obtain⟨A7,c7,rfl⟩:=bJ Y;have K:=ie.gef;have hY:=a5.grown H (fun e=>by have:=K gv e.symm;have:=ba.out;omega);have z9:=hY.cell_some (i:=9) rfl;have y9:=hY.frozen 9;clear hY)
    |(go_simp;go_at_call 104;(with_reducible refine oD.out.mono ?_);rintro _ w3 ⟨rfl,hz,h5,h6⟩;have os:=hid h5;have m7:=hid (h6.blk k6 (by have:=Z.out;omega));have oz:=hid (pC.trans h6);have a0:=hid (h6.blk bk (by have:=Z.out;have:=R.out;omega));have p8:=hid (Stb.grown pa h6 (fun q J e=>by have:=Option.some.inj e;have:=Z.out;have:=J.1;omega));have oM:=hid (Nat.le_trans np (h6).size);have qf:=hid (pF.chg h6 cb);have V:=(Ext.refl w3).alloc (.cells #[.string tb,.string al] 86);have qB:=hid (m7.ext V);have qn:=hid (oz.ext V);have pX:=hid (os.ext V);have a5:=hid (a0.ext V);have p7:=hid (Stb.ext p8 V);have hw:=hid (Nat.le_trans oM (V).size);have ie:=hid (qf.ext V);have z3:=a0.cell_some (i:=9) rfl;have z4:=a5.cell_some (i:=9) rfl;have oC:=hid hz;clear V h5 h6 hz))
   all_goals
    have qd:=hid (ie.pushf (y:=⟨tb,al⟩) rfl Y H ac ⟨rfl,oC⟩)
    have pR:=hid (qB.grown H (fun e=>by have:=K g0 e.symm;have:=a4.out;omega))
    have qA:=hid (qn.own H (fun q e=>by have:=K q e;have:=a4.out;rw[bx.out];omega))
    have pU:=hid (pX.grown H (fun q e=>Nat.lt_of_lt_of_le cb (K q e)))
    have ik:=hid (a5.grown H (fun e=>by have:=K gv e.symm;have:=ba.out;omega))
    have qz:=hid (Stb.grown p7 H (fun q J e=>by have:=K q e;have:=J.2.2;omega))
    have n2:=hid (Nat.le_trans hw (World.grownBy.size H))
    have hgs:=aC w7 gv 9 (.slice A7 ((([]:List Src)).length+1) c7)
    have qk:=hid (pR.grown hgs (fun e=>by have:=Option.some.inj e;have:=R.out;omega))
    have pP:=hid (qA.own hgs (fun q e=>by have:=Option.some.inj e;have:=R.out;rw[bx.out];omega))
    have pS:=hid (pU.grown hgs (fun q e=>by have:=Option.some.inj e;have:=Z.out;have:=R.out;omega))
    have qi:=hid (Stb.grown qz hgs (fun q J e=>by have:=Option.some.inj e;have:=J.2.1;omega))
    have no:=hid (Nat.le_trans n2 (World.grownBy.size hgs))
    have qx:=hid (qd.turn hgs (fun q e=>by have:=Option.some.inj e;have:=ba.out;omega))
    have ih:=hid (ik.set 9 (.slice A7 ((([]:List Src)).length+1) c7))
    clear Y H ac K hgs
    go_wp2_with fail
    go_meet
    exact⟨A7,c7,oC,pS,pP,qk,ih,qi,no,_,_,qx⟩
  case rest=>
   obtain⟨Af,kf,p0,U,D,h3,h4,h5,h6,cf,cx,h7⟩:=hcut
   clear p0 oD hX z1 qg
   clear k6 pC ov bk pa np pF
   obtain⟨pJ,bf⟩:∃x,(([]:List Src))++ [⟨tb,al⟩]=x:=⟨_,rfl⟩
   have bY:(([]:List Src)).length+1=pJ.length:=by rw[←bf];simp
   rw[bf,bY]at h7
   rw[bY]at h4
   have qM:=hid bf
   have p4:=hid bY
   clear bf bY
   have pb:=hid U
   have ph:=hid D
   have pu:=hid h3
   have l6:=hid h4
   have pw:=hid h5
   have ng:=hid h6
   have pc:=hid h7
   clear U D h3 h4 h5 h6 h7
   generalize wc=r3 at*
   obtain⟨FR,pG⟩:∃x,fromP ex s2=x:=⟨_,rfl⟩
   have rJ:=hid pG
   have rx:fromGo ex (s2.r.length+1) pJ [] sr=FR:=by
    rw[←pG,from_eq,m5.out,←qM.out]
    rfl
   have re:=hid rx
   clear pG rx m5
   have o3:s2.r.length≤20000:=by omega
   have gm:=hid ds
   go_wp2_with fail
   go_loopw [4] (fun xv wr=> ∃(m:Nat) (fs:List Src) (xs:List Ex) (st:Ps) (Af:Option Addr) (kf:Nat) (Ax:Option Addr) (kx:Nat),xv= .slice Ax xs.length kx∧fromGo ex m fs xs st=FR∧st.r.length<m∧st.r.length≤s2.r.length∧fs.length+st.r.length≤s2.r.length+1∧xs.length+st.r.length≤s2.r.length+1∧PsAt 68 P A c L w0 wr st∧Chg P w wr∧Blk wr g0 40 sC∧Blk wr gv 40 (sC (k:=5) (i:= .slice B I.length k) (f:= .slice Af fs.length kf))∧Stb (fun q=>g0+1≤q∧q≠gv∧q<n1) wr (fun w2=>Lst bO 9 w2 B I)∧n1≤wr.heap.size∧∃cf cx,FrW n1 wr (.slice Af fs.length kf) (.slice Ax xs.length kx) cf cx fs xs) (fun _ wr=>20001-posOf P wr)
   case atStart=>exact⟨_,pJ,[],sr,Af,kf,none,0,rfl,re,by have:=gm.out;omega,gm,by have h9:=p4.out;have:=gm.out;simp only[List.length_nil]at h9;omega,by have:=gm.out;simp only[List.length_nil];omega,pb,ph,pu,l6,pw,ng,_,_,pc⟩
   case round=>
    clear pb ph pu l6 pw ng pc re gm ds
    obtain⟨m,fs,xs,st,Af,kf,Ax,kx,rfl,i3,hm,qP,q9,ri,U,D,h3,h4,h5,h6,cf,cx,h7⟩:=hrel
    have qD:Hid (posOf P wr=L.length-st.r.length):=U.posOf
    have rW:=U.le
    have r0:=U.ne
    have l2:=hid U
    have px:=hid D
    have pj:=hid h3
    have m0:=hid h4
    have ps:=hid h5
    have n9:=hid h6
    have pg:=hid h7
    clear U D h3 h4 h5 h6 h7
    generalize wr=rF at*
    obtain⟨m,rfl⟩:∃x,m=x+1:=⟨m-1,by omega⟩
    rw[nl]at i3
    have oZ:=hid i3
    clear i3
    go_upto_region 7 with fail
    go_cut [32] from 27 to 32 (fun cv wx=>cv= .bool (isS yCm st||isS fv st)∧Ext rF wx)
    case first=>
     go_wp2_with fail
     refine(lx l2 hL yCm).mono ?_
     rintro _ rV ⟨rfl,hx⟩
     have pp:=hid hx
     have cj:=hid (l2.ext hx)
     clear hx
     obtain⟨q1,m4⟩:∃q,isS yCm st=q:=⟨_,rfl⟩
     rw[m4]
     have q8:=hid m4
     clear m4
     cases q1
     ·go_wp2_with fail
      refine(lx cj hL fv).mono ?_
      rintro _ oY ⟨rfl,hx⟩
      have qT:=hid (pp.trans hx)
      clear hx
      go_wp2_with fail
      go_meet
      exact⟨by rw[q8.out];rfl,qT⟩
     ·go_wp2_with fail
      go_meet
      exact⟨by rw[q8.out];rfl,pp⟩
    case rest=>
     obtain⟨rfl,hx⟩:=hcut
     have l3:=hid (pj.ext hx)
     have k5:=hid (px.ext hx)
     have cj:=hid (l2.ext hx)
     have b6:=hid (m0.ext hx)
     have l9:=hid (Stb.ext ps hx)
     have f3:=hid (Nat.le_trans n9 (hx).size)
     have l1:=hid (pg.ext hx)
     clear hx
     clear pj px l2 m0 ps n9 pg
     generalize wc=rV at*
     obtain⟨qj,qq⟩:∃q,isS fv st=q:=⟨_,rfl⟩
     obtain⟨qc,qh⟩:∃q,isS yCm st=q:=⟨_,rfl⟩
     rw[qq,qh]
     have hT:=hid qq
     have oL:=hid qh
     clear qq qh
     obtain⟨qa,ql⟩:∃q,(qc||qj)=q:=⟨_,rfl⟩
     rw[ql]
     have p6:=hid ql
     clear ql
     cases qa
     ·skip
      have rS:qc=false∧qj=false:=by have:=p6.out;revert this;cases qc<;>cases qj<;>simp
      obtain⟨rfl,rfl⟩:=rS
      have rD:Hid (fromP ex s2=((fs,xs),st)):=by
       have:=oZ.out
       rw[oL.out,hT.out,if_neg (by simp),if_neg (by simp)]at this
       unfold Hid
       rw[rJ.out,←this]
      clear oZ p6 oL hT qD
      have q4:fs.length≤20001:=by omega
      have r7:xs.length≤20001:=by omega
      have b2:st.r.length≤s2.r.length:=qP
      have ag:Hid (st.r.length<n):=by unfold Hid;omega
      have rN:Hid (fs.length≤20001):=q4
      clear hm q9 ri q4
      go_wp2_with fail
      refine(ai cj hL dj).mono ?_
      rintro _ oY ⟨v,rfl,U,D,rfl⟩
      have a1:=hid U
      have dc:=hid (D.blk l3 (by have:=Z.out;omega))
      have dk:=hid (k5.trans D)
      have an:=hid (D.blk b6 (by have:=Z.out;have:=R.out;omega))
      have b7:=hid (Stb.grown l9 D (fun q J e=>by have:=Option.some.inj e;have:=Z.out;have:=J.1;omega))
      have a3:=hid (Nat.le_trans f3 (D).size)
      have b3:=hid (l1.chg D cb)
      clear U D
      clear l3 k5 cj b6 l9 f3 l1
      obtain⟨q,J⟩:∃q,isS dj st=q:=⟨_,rfl⟩
      rw[J]
      have HQ:=hid J
      clear J
      go_upto_if 59 with fail
      go_cut [4] from 60 to 64 (fun xv wx=> ∃(ys:List Ex) (sw:Ps) (Ay:Option Addr) (ky:Nat),xv= .slice Ay ys.length ky∧ep ex andL xs st=(andL ys,sw)∧ys.length≤20002∧sw.r.length≤st.r.length∧PsAt 68 P A c L w0 wx sw∧Chg P w wx∧Blk wx g0 40 sC∧Blk wx gv 40 (sC (k:=5) (i:= .slice B I.length k) (f:= .slice Af fs.length kf))∧Stb (fun q=>g0+1≤q∧q≠gv∧q<n1) wx (fun w2=>Lst bO 9 w2 B I)∧n1≤wx.heap.size∧∃cf cx,FrW n1 wx (.slice Af fs.length kf) (.slice Ay ys.length ky) cf cx fs ys)
      case first=>
       cases q
       ·skip
        have e:(aq dj st).2=st:=by have hb:=HQ.out;simp[aq,hb]
        rw[e]at a1
        clear e
        go_wp2_with fail
        go_meet
        exact⟨xs,st,Ax,kx,rfl,by unfold ep ifM;rw[HQ.out,if_neg (by simp)];rfl,by omega,Nat.le_refl _,a1,dk,dc,an,b7,a3,_,_,b3⟩
       ·skip
        have e:(aq dj st).2=st.next:=by have hb:=HQ.out;simp[aq,hb]
        rw[e]at a1
        clear e
        have pZ:=next_len st
        go_wp2_with fail
        refine(hr _ _ a1 (by have:=ag.out;omega)).mono ?_
        rintro _ gc ⟨v,rfl,U,D,A1,k1,c1,rfl,h3⟩
        obtain⟨e1,ic⟩:∃e,(ex st.next).1=e:=⟨_,rfl⟩
        obtain⟨hK,b2⟩:∃e,(ex st.next).2=e:=⟨_,rfl⟩
        have hV:=n0 st.next
        rw[b2]at U hV
        rw[ic]at h3 ⊢
        have qy:Hid (ex st.next=(e1,hK)):=Prod.ext ic b2
        have eb:=hid hV
        clear ic b2 hV
        have hD:=hid U
        have gr:=hid (D.blk dc (by have:=Z.out;omega))
        have gd:=hid (dk.trans D)
        have ax:=hid (D.blk an (by have:=Z.out;have:=R.out;omega))
        have hf:=hid (Stb.grown b7 D (fun q J e=>by have:=Option.some.inj e;have:=Z.out;have:=J.1;omega))
        have ci:=hid (Nat.le_trans a3 (D).size)
        have g8:=hid (b3.chg D cb)
        have qH:=hid (b3.fine (Nat.le_refl _) a3 h3)
        clear U D h3
        clear dc dk a1 an b7 a3 b3
        obtain⟨⟨op,tb,nm,ix,vk,vi,vt⟩,ks⟩:=e1
        unfold Nd.val
        simp only[Ex.d]
        have V:=(Ext.refl gc).alloc (.cells #[.int .i64 op,.string tb,.string nm,.int .i64 ix,.int .i64 vk,.int .i64 vi,.string vt,.slice A1 k1 c1] 37)
        have oh:=hid (gr.ext V)
        have oq:=hid (gd.ext V)
        have om:=hid (hD.ext V)
        have fr:=hid (ax.ext V)
        have nj:=hid (Stb.ext hf V)
        have cl:=hid (Nat.le_trans ci (V).size)
        have df:=hid (g8.ext V)
        have oo:=hid (Stb.ext qH V)
        clear V
        have m6:Hid ((xs).length≤20002):=by unfold Hid;omega
        go_wp2_with (at_builtin;refine ap _ rfl (.tmp 60) (.tmp 63) 27 rfl n1 37 iz _ 8 104 Tryz.underlying27 qX rs q5 rn rfl (by decide) _ (xs).length _ rfl df.x.own _ _ 1 1 (eC op tb nm ix vk vi vt A1 k1 c1) rfl (bW gc (eC op tb nm ix vk vi vt A1 k1 c1) 37 8 rfl) (by simp[Value.oneCell']) (by have:=m6.out;unfold maxLen;omega) (by have:=m6.out;omega) cl ?_;intro v7 w7 Y H ac;obtain⟨A7,c7,rfl⟩:=bJ Y)
        have cc:=hid (df.pushx (y:=(.mk ⟨op,tb,nm,ix,vk,vi,vt⟩ ks)) rfl Y H ac (oo.imp fun w2 h=>⟨A1,k1,c1,rfl,h⟩))
        have K:=df.gex
        have on:=hid (oh.grown H (fun e=>by have:=K g0 e.symm;have:=a4.out;omega))
        have oK:=hid (oq.own H (fun q e=>by have:=K q e;have:=a4.out;rw[bx.out];omega))
        have k9:=hid (om.grown H (fun q e=>Nat.lt_of_lt_of_le cb (K q e)))
        have f2:=hid (fr.grown H (fun e=>by have:=K gv e.symm;have:=ba.out;omega))
        have ox:=hid (Stb.grown nj H (fun q J e=>by have:=K q e;have:=J.2.2;omega))
        have kk:=hid (Nat.le_trans cl (World.grownBy.size H))
        clear Y H ac K
        obtain⟨jl,dd⟩:∃x,(xs)++ [(.mk ⟨op,tb,nm,ix,vk,vi,vt⟩ ks)]=x:=⟨_,rfl⟩
        have bY:(xs).length+1=jl.length:=by rw[←dd];simp
        rw[dd]at cc
        rw[bY]at cc ⊢
        go_meet
        have pM:ep ex andL xs st=(andL jl,hK):=by
         unfold ep ifM aB bb
         rw[HQ.out,if_pos rfl,qy.out]
         show(andL (xs++ [_]),hK)=_
         rw[dd]
        exact⟨jl,hK,A7,c7,rfl,pM,by omega,by have:=eb.out;omega,k9,oK,on,f2,ox,kk,_,_,cc⟩
      case rest=>
       obtain⟨ys,sw,Ay,ky,rfl,rq,r5,rZ,U,D,h3,h4,h5,h6,rR,cy,h7⟩:=hcut
       clear HQ
       clear dc dk a1 an b7 a3 b3
       have pE:=hid U
       have pi:=hid D
       have pv:=hid h3
       have k4:=hid h4
       have pm:=hid h5
       have oF:=hid h6
       have pr:=hid h7
       clear U D h3 h4 h5 h6 h7
       generalize wc=r2 at*
       have pM:=hid rq
       clear rq
       have zz:(0:Int)≤(ys.length:Int):=by omega
       go_wp2_with fail
       go_loopw [67] (fun iv wr=> ∃j:Nat,j≤ys.length∧iv= .int .i64 j∧PsAt 68 P A c L w0 wr sw∧Chg P w wr∧Blk wr g0 40 sC∧(∃(Bw:Option Addr) (bw cw:Nat),Blk wr gv 40 (.int .i64 5:: .string ⟨#[]⟩:: .slice none 0 0:: .slice none 0 0:: .slice none 0 0:: .slice none 0 0:: .slice none 0 0:: .slice none 0 0:: .slice B I.length k:: .slice Af fs.length kf::((andL (ys.take j)).d.cells Bw bw cw++ [.slice none 0 0,.slice none 0 0,.int .i64 0,.string ⟨#[]⟩]))∧Stb (Sq n1 (.slice Af fs.length kf) (.slice Ay ys.length ky)) wr (fun w2=>ExV w2 (andL (ys.take j)) Bw bw cw))∧Stb (fun q=>g0+1≤q∧q≠gv∧q<n1) wr (fun w2=>Lst bO 9 w2 B I)∧n1≤wr.heap.size∧FrW n1 wr (.slice Af fs.length kf) (.slice Ay ys.length ky) rR cy fs ys) (fun i _=>ys.length- (intOf i).toNat)
       case atStart=>exact⟨0,Nat.zero_le _,rfl,pE,pi,pv,⟨none,0,0,k4,fun w2 _ _=>⟨rfl,by omega,ez (o:=0) bG,by unfold KidsAt Ex.ks;trivial⟩⟩,pm,oF,pr⟩
       case round=>
        clear pE pi pv k4 pm oF pr
        obtain⟨j,hj,rfl,U,D,h3,⟨A1,k1,c1,h4,h8⟩,h5,h6,h7⟩:=hrel
        obtain⟨E,hE⟩:∃x,andL (ys.take j)=x:=⟨_,rfl⟩
        rw[hE]at h4 h8
        have pY:=hid hE
        clear hE
        obtain⟨⟨op,tb,nm,ix,vk,vi,vt⟩,ks⟩:=E
        unfold Nd.cells at h4
        simp only[Ex.d,List.cons_append,List.nil_append]at h4
        have k7:=hid U
        have l7:=hid D
        have l4:=hid h3
        have b4:=hid h4
        have mx:=hid h5
        have ga:=hid h6
        have X:=hid h7
        clear U D h3 h4 h5 h6 h7
        have o7:=hid h8
        clear h8
        generalize wr=m1 at*
        by_cases qu:j<ys.length
        ·skip
         obtain⟨y,hy⟩:∃y,ys[j]? =some y:=⟨_,List.getElem?_eq_getElem qu⟩
         have ry:j<cy.length:=by rw[X.out.x.len];exact qu
         obtain⟨cs,el⟩:∃cs,cy[j]? =some cs:=⟨_,List.getElem?_eq_getElem ry⟩
         obtain⟨A2,k2,c2,rv,qN⟩:=phi_stb (X.x.at_ j y cs hy el)
         have py:=hid qN
         have rf:Hid (ys.take (j+1)=ys.take j++ [y]):=by
          unfold Hid
          rw[List.take_add_one,hy]
          rfl
         obtain⟨⟨ee,c4,c8,dx,ck,c6,c3⟩,oU⟩:=y
         subst rv
         obtain⟨m9,qE⟩:∃m,ys.length=m+1:=⟨ys.length-1,by omega⟩
         obtain⟨gy,c9,rM⟩:∃gy c9,Value.slice Ay ys.length ky= .slice (some ⟨gy,0,none⟩) ys.length c9:=by
          have qV:=X.x.own
          rw[qE]at qV ⊢
          exact eE qV
         injection rM with e1 e2 e3
         subst e1 e3
         clear qE
         have e0:=bK X.x.own (bH cy X.x.each j 0 _ _ el rfl)
         have e1:=bK X.x.own (bH cy X.x.each j 1 _ _ el rfl)
         have e2:=bK X.x.own (bH cy X.x.each j 2 _ _ el rfl)
         have e3:=bK X.x.own (bH cy X.x.each j 3 _ _ el rfl)
         have e4:=bK X.x.own (bH cy X.x.each j 4 _ _ el rfl)
         have e5:=bK X.x.own (bH cy X.x.each j 5 _ _ el rfl)
         have e6:=bK X.x.own (bH cy X.x.each j 6 _ _ el rfl)
         have e7:=bK X.x.own (bH cy X.x.each j 7 _ _ el rfl)
         rw[Nat.add_zero]at e0
         simp only[Ex.d]at e0 e1 e2 e3 e4 e5 e6 e7
         clear el ry hy qN
         have i0:(0:Int)≤(j:Int):=by omega
         have i1:(j:Int)<(ys.length:Int):=by omega
         go_upto_region 19 with fail
         have hx:=(Ext.refl m1).alloc (.cells #[.int .i64 ee,.string c4,.string c8,.int .i64 dx,.int .i64 ck,.int .i64 c6,.string c3,.slice A2 k2 c2] 37)
         have cd:=hid (l4.ext hx)
         have c0:=hid (l7.ext hx)
         have bN:=hid (k7.ext hx)
         have C:=hid (b4.ext hx)
         have pq:=hid (Stb.ext mx hx)
         have kp:=hid (Nat.le_trans ga (hx).size)
         have k8:=hid (X.ext hx)
         have q6:=hid (Stb.ext o7 hx)
         have po:=hid (Stb.ext py hx)
         have f9:=hid (Blk.of_new m1 37 (eC ee c4 c8 dx ck c6 c3 A2 k2 c2))
         have r6:Hid (n1≤m1.heap.size):=ga.out
         clear hx e0 e1 e2 e3 e4 e5 e6 e7 o7 py
         clear l4 l7 k7 b4 mx ga X
         generalize m1.alloc (.cells #[.int .i64 ee,.string c4,.string c8,.int .i64 dx,.int .i64 ck,.int .i64 c6,.string c3,.slice A2 k2 c2] 37)=b1 at*
         generalize m1.heap.size=gk at*
         by_cases n3:j=0
         ·have rG:((j:Int)==0)=true:=by simp;omega
          have pO:=hid n3
          clear n3 zz
          obtain⟨d0,d1,d2,d3,d4,d5,d6,d7,-⟩:=cls f9
          have z0:=C.cell_some (i:=10) rfl
          have y0:=C.frozen 10
          have z1:=C.cell_some (i:=11) rfl
          have y1:=C.frozen 11
          have z2:=C.cell_some (i:=12) rfl
          have y2:=C.frozen 12
          have z3:=C.cell_some (i:=13) rfl
          have y3:=C.frozen 13
          have z4:=C.cell_some (i:=14) rfl
          have y4:=C.frozen 14
          have z5:=C.cell_some (i:=15) rfl
          have y5:=C.frozen 15
          have z6:=C.cell_some (i:=16) rfl
          have y6:=C.frozen 16
          have z7:=C.cell_some (i:=17) rfl
          have y7:=C.frozen 17
          have Q:=ak gv (eC ee c4 c8 dx ck c6 c3 A2 k2 c2) b1 10
          have ha:=hid (cd.grown Q (fun e=>by have:=Option.some.inj e;have:=R.out;omega))
          have gl:=hid (c0.own Q (fun q e=>by have:=Option.some.inj e;have:=R.out;rw[bx.out];omega))
          have hR:=hid (bN.grown Q (fun q e=>by have:=Option.some.inj e;have:=Z.out;have:=R.out;omega))
          have hF:=hid (Stb.grown pq Q (fun q J e=>by have:=Option.some.inj e;have:=J.2.1;omega))
          have cA:=hid (Nat.le_trans kp (World.grownBy.size Q))
          have hg:=hid (k8.turn Q (fun q e=>by have:=Option.some.inj e;have:=ba.out;omega))
          have hA:=hid (Stb.grown (po) Q (fun q J e=>by have:=Option.some.inj e;have:=J.1;have:=ba.out;omega))
          have hM:Hid (Blk (sts b1 gv 10 (eC ee c4 c8 dx ck c6 c3 A2 k2 c2)) gv 40 (.int .i64 5:: .string ⟨#[]⟩:: .slice none 0 0:: .slice none 0 0:: .slice none 0 0:: .slice none 0 0:: .slice none 0 0:: .slice none 0 0:: .slice B I.length k:: .slice Af fs.length kf::((eC ee c4 c8 dx ck c6 c3 A2 k2 c2)++ [.slice none 0 0,.slice none 0 0,.int .i64 0,.string ⟨#[]⟩]))):=by
           have h9:=lD (pre:= [.int .i64 5,.string ⟨#[]⟩,.slice none 0 0,.slice none 0 0,.slice none 0 0,.slice none 0 0,.slice none 0 0,.slice none 0 0,.slice B I.length k,.slice Af fs.length kf]) (old:=(eC op tb nm ix vk vi vt A1 k1 c1)) (post:= [.slice none 0 0,.slice none 0 0,.int .i64 0,.string ⟨#[]⟩]) (vs:=(eC ee c4 c8 dx ck c6 c3 A2 k2 c2)) C rfl
           exact h9
          clear Q
          simp only[sts]at hR ha gl hM hF cA hg hA
          go_wp2_with fail
          obtain rfl:j=0:=pO.out
          have oJ:andL (ys.take (0+1))=(.mk ⟨ee,c4,c8,dx,ck,c6,c3⟩ oU):=by rw[rf.out];rfl
          exact⟨⟨0+1,by omega,by go_num,hR,gl,ha,⟨A2,k2,c2,by rw[oJ];exact hM,by rw[oJ];exact hA⟩,hF,cA,hg⟩,by simp[intOf];omega⟩
         ·have rG:((j:Int)==0)=false:=by simp;omega
          have pO:=hid n3
          clear n3 zz
          have d0:=f9.cell_some (i:=0) rfl
          have g0:=C.cell_some (i:=10) rfl
          have d1:=f9.cell_some (i:=1) rfl
          have g1:=C.cell_some (i:=11) rfl
          have d2:=f9.cell_some (i:=2) rfl
          have g2:=C.cell_some (i:=12) rfl
          have d3:=f9.cell_some (i:=3) rfl
          have g3:=C.cell_some (i:=13) rfl
          have d4:=f9.cell_some (i:=4) rfl
          have g4:=C.cell_some (i:=14) rfl
          have d5:=f9.cell_some (i:=5) rfl
          have g5:=C.cell_some (i:=15) rfl
          have d6:=f9.cell_some (i:=6) rfl
          have g6:=C.cell_some (i:=16) rfl
          have d7:=f9.cell_some (i:=7) rfl
          have g7:=C.cell_some (i:=17) rfl
          go_wp2_with fail
          refine(cR 18 _ _ _ _).mono ?_
          rintro _ m3 ⟨rfl,pQ⟩
          have hQ:Ext b1 m3:=((Ext.refl b1).alloc (.cells #[.int .i64 op,.string tb,.string nm,.int .i64 ix,.int .i64 vk,.int .i64 vi,.string vt,.slice A1 k1 c1,.int .i64 ee,.string c4,.string c8,.int .i64 dx,.int .i64 ck,.int .i64 c6,.string c3,.slice A2 k2 c2] 37)).trans pQ
          have pn:=Stb.ext (cS (T:=37) (o:=18) (a:=(.mk ⟨op,tb,nm,ix,vk,vi,vt⟩ ks)) (b:=(.mk ⟨ee,c4,c8,dx,ck,c6,c3⟩ oU)) (by unfold I64;omega) ⟨kp,fun e=>Nat.lt_irrefl _ (k8.f.own.lt _ e).2,fun e=>Nat.lt_irrefl _ (k8.x.own.lt _ e).2⟩ q6 po) pQ
          have hB:=hid (cd.ext hQ)
          have ll:=hid (c0.ext hQ)
          have e8:=hid (bN.ext hQ)
          have F:=hid (C.ext hQ)
          have rc:=hid (Stb.ext pq hQ)
          have pI:=hid (Nat.le_trans kp (hQ).size)
          have ra:=hid (k8.ext hQ)
          have ro:=hid pn
          clear pQ hQ pn
          have z0:=F.cell_some (i:=10) rfl
          have y0:=F.frozen 10
          have z1:=F.cell_some (i:=11) rfl
          have y1:=F.frozen 11
          have z2:=F.cell_some (i:=12) rfl
          have y2:=F.frozen 12
          have z3:=F.cell_some (i:=13) rfl
          have y3:=F.frozen 13
          have z4:=F.cell_some (i:=14) rfl
          have y4:=F.frozen 14
          have z5:=F.cell_some (i:=15) rfl
          have y5:=F.frozen 15
          have z6:=F.cell_some (i:=16) rfl
          have y6:=F.frozen 16
          have z7:=F.cell_some (i:=17) rfl
          have y7:=F.frozen 17
          have Q:=ak gv (eC 18 ⟨#[]⟩ ⟨#[]⟩ 0 0 0 ⟨#[]⟩ (some ⟨b1.heap.size,0,none⟩) 2 2) m3 10
          have ha:=hid (hB.grown Q (fun e=>by have:=Option.some.inj e;have:=R.out;omega))
          have gl:=hid (ll.own Q (fun q e=>by have:=Option.some.inj e;have:=R.out;rw[bx.out];omega))
          have hR:=hid (e8.grown Q (fun q e=>by have:=Option.some.inj e;have:=Z.out;have:=R.out;omega))
          have hF:=hid (Stb.grown rc Q (fun q J e=>by have:=Option.some.inj e;have:=J.2.1;omega))
          have cA:=hid (Nat.le_trans pI (World.grownBy.size Q))
          have hg:=hid (ra.turn Q (fun q e=>by have:=Option.some.inj e;have:=ba.out;omega))
          have hA:=hid (Stb.grown (ro) Q (fun q J e=>by have:=Option.some.inj e;have:=J.1;have:=ba.out;omega))
          have hM:Hid (Blk (sts m3 gv 10 (eC 18 ⟨#[]⟩ ⟨#[]⟩ 0 0 0 ⟨#[]⟩ (some ⟨b1.heap.size,0,none⟩) 2 2)) gv 40 (.int .i64 5:: .string ⟨#[]⟩:: .slice none 0 0:: .slice none 0 0:: .slice none 0 0:: .slice none 0 0:: .slice none 0 0:: .slice none 0 0:: .slice B I.length k:: .slice Af fs.length kf::((eC 18 ⟨#[]⟩ ⟨#[]⟩ 0 0 0 ⟨#[]⟩ (some ⟨b1.heap.size,0,none⟩) 2 2)++ [.slice none 0 0,.slice none 0 0,.int .i64 0,.string ⟨#[]⟩]))):=by
           have h9:=lD (pre:= [.int .i64 5,.string ⟨#[]⟩,.slice none 0 0,.slice none 0 0,.slice none 0 0,.slice none 0 0,.slice none 0 0,.slice none 0 0,.slice B I.length k,.slice Af fs.length kf]) (old:=(eC op tb nm ix vk vi vt A1 k1 c1)) (post:= [.slice none 0 0,.slice none 0 0,.int .i64 0,.string ⟨#[]⟩]) (vs:=(eC 18 ⟨#[]⟩ ⟨#[]⟩ 0 0 0 ⟨#[]⟩ (some ⟨b1.heap.size,0,none⟩) 2 2)) F rfl
           exact h9
          clear Q
          simp only[sts]at hR ha gl hM hF cA hg hA
          go_wp2_with fail
          have oJ:andL (ys.take (j+1))=opE 18 [(.mk ⟨op,tb,nm,ix,vk,vi,vt⟩ ks),(.mk ⟨ee,c4,c8,dx,ck,c6,c3⟩ oU)]:=by rw[rf.out,andL_snoc (by have n3:=pO.out;intro h;have:=congrArg List.length h;rw[List.length_take]at this;simp only[List.length_nil]at this;omega),pY.out]
          exact⟨⟨j+1,by omega,by go_num,hR,gl,ha,⟨_,2,2,by rw[oJ];exact hM,by rw[oJ];exact hA⟩,hF,cA,hg⟩,by simp[intOf];omega⟩
        ·skip
         obtain rfl:j=ys.length:=by omega
         rw[List.take_length]at pY
         clear qu hj zz
         obtain⟨Bs,oU,rC,t2⟩:=X.f.fin fun q J=>J.1
         injection rC with e1 e2 e3
         subst e1 e3
         clear e2
         have kA:Hid (Stb (Sx g0 gv) m1 fun w2=> (Lst bO 9 w2 B I∧Lst eJ 2 w2 Af fs)∧ExV w2 (.mk ⟨op,tb,nm,ix,vk,vi,vt⟩ ks) A1 k1 c1):=((mx.weak fun q _ J=>⟨J.1,J.2.1⟩).and (t2.weak fun q _ J=>⟨Nat.le_trans (Nat.succ_le_of_lt a4) J,fun e=>by have:=ba.out;have h9:n1≤q:=J;omega⟩)).and (o7.weak fun q _ J=>⟨Nat.le_trans (Nat.succ_le_of_lt a4) J.1,fun e=>by have:=ba.out;have h9:=J.1;omega⟩)
         clear t2 mx X ga o7
         go_wp2_with fail
         refine(ai k7 hL jg).mono ?_
         rintro _ b1 ⟨v,rfl,U,D,rfl⟩
         have bN:=hid U
         have cd:=hid (D.blk l4 (by have:=Z.out;omega))
         have c0:=hid (l7.trans D)
         have b5:=hid (Stb.chg2 kA D (by have:=Z.out;omega))
         have C:=hid (D.blk b4 (by have:=Z.out;have:=R.out;omega))
         clear U D
         clear l4 l7 k7 kA b4
         obtain⟨q,J⟩:∃q,isS jg sw=q:=⟨_,rfl⟩
         rw[J]
         have HQ:=hid J
         clear J
         go_upto_if 84 with fail
         go_cut [] from 85 to 92 (fun wx=> ∃(Bg:Option Addr) (kg:Nat) (G:List Ex) (sg:Ps),grpP sw=(G,sg)∧G.length≤20001∧sg.r.length≤sw.r.length∧PsAt 68 P A c L w0 wx sg∧Chg P w wx∧Blk wx g0 40 sC∧Blk wx gv 40 (sC (k:=5) (i:= .slice B I.length k) (f:= .slice Af fs.length kf) (o:=op) (q:=tb) (m:=nm) (x:=ix) (y:=vk) (z:=vi) (u:=vt) (e:= .slice A1 k1 c1) (g:= .slice Bg G.length kg))∧Stb (Sx g0 gv) wx (fun w2=> ((Lst bO 9 w2 B I∧Lst eJ 2 w2 Af fs)∧ExV w2 (.mk ⟨op,tb,nm,ix,vk,vi,vt⟩ ks) A1 k1 c1)∧Lst cu 8 w2 Bg G))
         case first=>
          cases q
          ·skip
           have e:(aq jg sw).2=sw:=by have hb:=HQ.out;simp[aq,hb]
           rw[e]at bN
           clear e
           go_wp2_with fail
           go_meet
           exact⟨none,0,[],sw,by unfold grpP ifM;rw[HQ.out,if_neg (by simp)];rfl,by simp,Nat.le_refl _,bN,c0,cd,C,b5.and (fun w2 _ _ j a h=>by cases h)⟩
          ·skip
           have e:(aq jg sw).2=sw.next:=by have hb:=HQ.out;simp[aq,hb]
           rw[e]at bN
           clear e
           have pZ:=next_len sw
           go_wp2_with fail
           refine(az (bN.ext ((Ext.refl b1).alloc (.cells #[.string kBY] 9))) hL kBY b1.heap.size (by simp[World.cell?_alloc_new])).mono ?_
           rintro _ m3 ⟨v,rfl,U,D,_⟩
           replace D:Chg P b1 m3:=(Chg.of ((Ext.refl b1).alloc (.cells #[.string kBY] 9))).trans D
           have e8:=hid U
           have hB:=hid (D.blk cd (by have:=Z.out;omega))
           have ll:=hid (c0.trans D)
           have lw:=hid (Stb.chg2 b5 D (by have:=Z.out;omega))
           have F:=hid (D.blk C (by have:=Z.out;have:=R.out;omega))
           clear U D
           clear cd c0 bN b5 C
           have qb:=aH kBY sw.next
           obtain⟨sb,kd⟩:∃x,(needP kBY sw.next)=x:=⟨_,rfl⟩
           rw[kd]at e8 qb
           have qw:=hid kd
           clear kd
           have hN:=hid (dN (iN) sb)
           have hh:=hid (dw (iN) sb)
           have qe:=hid e8.le
           have z9:=F.cell_some (i:=18) rfl
           have y9:=F.frozen 18
           go_wp2_with fail
           refine(list_ex 106 entK_col dV (iN) e8 hL (fun W st hS hl=>jR hS hL)).mono ?_
           rintro _ rk ⟨v,rfl,U,D,Bg,kg,rfl,h3⟩
           clear z9 y9
           obtain⟨G,hG⟩:∃x,(listP dV sb).1=x:=⟨_,rfl⟩
           obtain⟨sg,i9⟩:∃x,(listP dV sb).2=x:=⟨_,rfl⟩
           rw[hG]at h3 hh ⊢
           rw[i9]at U hN
           have qC:Hid (grpP sw=(G,sg)):=by
            unfold Hid
            unfold grpP ifM
            rw[HQ.out,if_pos rfl]
            show listP dV (needP kBY _)=_
            rw[qw.out]
            exact Prod.ext hG i9
           clear hG i9
           have rj:=hid U
           have qI:=hid (D.blk hB (by have:=Z.out;omega))
           have rr:=hid (ll.trans D)
           have oW:=hid (Stb.chg2 lw D (by have:=Z.out;omega))
           have f4:=hid (D.blk F (by have:=Z.out;have:=R.out;omega))
           have o2:Hid (Stb (Sx g0 gv) rk fun w2=>Lst cu 8 w2 Bg G):=h3.weak fun q _ J=>⟨Nat.le_trans hB.lt J,by have h8:=F.lt;have h9:m3.heap.size≤q:=J;omega⟩
           clear U D h3
           clear hB ll e8 lw F
           have z9:=f4.cell_some (i:=18) rfl
           have y9:=f4.frozen 18
           have Q:=aC rk gv 18 (.slice Bg G.length kg)
           have kb:=hid (rj.grown Q (fun q J=>by have:=Option.some.inj J;have:=Z.out;have:=R.out;omega))
           have i5:=hid (qI.grown Q (fun e=>by have:=Option.some.inj e;have:=R.out;omega))
           have h0:=hid (rr.own Q (fun q J=>by have:=Option.some.inj J;have:=R.out;rw[bx.out];omega))
           have kc:=hid (f4.set 18 (.slice Bg G.length kg))
           have b9:=hid (Stb.grown oW Q (fun q J e=>J.2 (Option.some.inj e).symm))
           have it:=hid (Stb.grown o2 Q (fun q J e=>J.2 (Option.some.inj e).symm))
           clear Q
           go_wp2_with fail
           go_meet
           exact⟨Bg,kg,G,sg,qC,by have:=hh.out;have:=qe.out;omega,by have:=hN.out;omega,kb,h0,i5,kc,b9.and it⟩
         case rest=>
          obtain⟨Bg,kg,G,sg,gt,ht,hO,U,D,h3,h4,h5⟩:=hcut
          clear bN c0 cd C b5 HQ
          have nb:=hid U
          have ni:=hid D
          have ol:=hid h3
          have hP:=hid h4
          have ho:=hid h5
          have oS:=hid gt
          have o8:=hid ht
          have rA:=hid hO
          clear U D h3 h4 h5 gt ht hO
          generalize wc=r1 at*
          go_wp2_with fail
          refine(ai nb hL jh).mono ?_
          rintro _ kw ⟨v,rfl,U,D,rfl⟩
          have b0:=hid U
          have fA:=hid (D.blk ol (by have:=Z.out;omega))
          have f0:=hid (ni.trans D)
          have bd:=hid (Stb.chg2 ho D (by have:=Z.out;omega))
          have bm:=hid (D.blk hP (by have:=Z.out;have:=R.out;omega))
          clear U D
          clear ol ni nb ho hP
          obtain⟨q,J⟩:∃q,isS jh sg=q:=⟨_,rfl⟩
          rw[J]
          have HQ:=hid J
          clear J
          go_upto_if 94 with fail
          go_cut [] from 95 to 102 (fun wx=> ∃(Bo:Option Addr) (ko:Nat) (O:List Ord') (so:Ps),gg posP sg=(O,so)∧O.length≤20001∧so.r.length≤sg.r.length∧PsAt 68 P A c L w0 wx so∧Chg P w wx∧Blk wx g0 40 sC∧Blk wx gv 40 (sC (k:=5) (i:= .slice B I.length k) (f:= .slice Af fs.length kf) (o:=op) (q:=tb) (m:=nm) (x:=ix) (y:=vk) (z:=vi) (u:=vt) (e:= .slice A1 k1 c1) (g:= .slice Bg G.length kg) (r:= .slice Bo O.length ko))∧Stb (Sx g0 gv) wx (fun w2=> (((Lst bO 9 w2 B I∧Lst eJ 2 w2 Af fs)∧ExV w2 (.mk ⟨op,tb,nm,ix,vk,vi,vt⟩ ks) A1 k1 c1)∧Lst cu 8 w2 Bg G)∧Lst ea 2 w2 Bo O))
          case first=>
           cases q
           ·skip
            have e:(aq jh sg).2=sg:=by have hb:=HQ.out;simp[aq,hb]
            rw[e]at b0
            clear e
            go_wp2_with fail
            go_meet
            exact⟨none,0,[],sg,by unfold gg ifM;rw[HQ.out,if_neg (by simp)];rfl,by simp,Nat.le_refl _,b0,f0,fA,bm,bd.and (fun w2 _ _ j a h=>by cases h)⟩
           ·skip
            have e:(aq jh sg).2=sg.next:=by have hb:=HQ.out;simp[aq,hb]
            rw[e]at b0
            clear e
            have pZ:=next_len sg
            go_wp2_with fail
            refine(az (b0.ext ((Ext.refl kw).alloc (.cells #[.string kBY] 9))) hL kBY kw.heap.size (by simp[World.cell?_alloc_new])).mono ?_
            rintro _ pz ⟨v,rfl,U,D,_⟩
            replace D:Chg P kw pz:=(Chg.of ((Ext.refl kw).alloc (.cells #[.string kBY] 9))).trans D
            have e9:=hid U
            have i4:=hid (D.blk fA (by have:=Z.out;omega))
            have oH:=hid (f0.trans D)
            have hu:=hid (Stb.chg2 bd D (by have:=Z.out;omega))
            have a2:=hid (D.blk bm (by have:=Z.out;have:=R.out;omega))
            clear U D
            clear fA f0 b0 bd bm
            have qb:=aH kBY sg.next
            obtain⟨sb,kd⟩:∃x,(needP kBY sg.next)=x:=⟨_,rfl⟩
            rw[kd]at e9 qb
            have qw:=hid kd
            clear kd
            have hN:=hid (dN (j8) sb)
            have hh:=hid (dw (j8) sb)
            have qe:=hid e9.le
            have z9:=a2.cell_some (i:=19) rfl
            have y9:=a2.frozen 19
            go_wp2_with fail
            refine(list_ord 108 entK_ord (fE posP) (j8) e9 hL (fun W st hS hl=>order_rd hE hS hL)).mono ?_
            rintro _ o9 ⟨v,rfl,U,D,Bo,ko,rfl,h3⟩
            clear z9 y9
            obtain⟨O,hG⟩:∃x,(listP (fE posP) sb).1=x:=⟨_,rfl⟩
            obtain⟨so,i9⟩:∃x,(listP (fE posP) sb).2=x:=⟨_,rfl⟩
            rw[hG]at h3 hh ⊢
            rw[i9]at U hN
            have qC:Hid (gg posP sg=(O,so)):=by
             unfold Hid
             unfold gg ifM
             rw[HQ.out,if_pos rfl]
             show listP (fE posP) (needP kBY _)=_
             rw[qw.out]
             exact Prod.ext hG i9
            clear hG i9
            have pV:=hid U
            have qs:=hid (D.blk i4 (by have:=Z.out;omega))
            have p3:=hid (oH.trans D)
            have oy:=hid (Stb.chg2 hu D (by have:=Z.out;omega))
            have cH:=hid (D.blk a2 (by have:=Z.out;have:=R.out;omega))
            have ow:Hid (Stb (Sx g0 gv) o9 fun w2=>Lst ea 2 w2 Bo O):=h3.weak fun q _ J=>⟨Nat.le_trans i4.lt J,by have h8:=a2.lt;have h9:pz.heap.size≤q:=J;omega⟩
            clear U D h3
            clear i4 oH e9 hu a2
            have z9:=cH.cell_some (i:=19) rfl
            have y9:=cH.frozen 19
            have Q:=aC o9 gv 19 (.slice Bo O.length ko)
            have kb:=hid (pV.grown Q (fun q J=>by have:=Option.some.inj J;have:=Z.out;have:=R.out;omega))
            have i5:=hid (qs.grown Q (fun e=>by have:=Option.some.inj e;have:=R.out;omega))
            have h0:=hid (p3.own Q (fun q J=>by have:=Option.some.inj J;have:=R.out;rw[bx.out];omega))
            have kc:=hid (cH.set 19 (.slice Bo O.length ko))
            have b9:=hid (Stb.grown oy Q (fun q J e=>J.2 (Option.some.inj e).symm))
            have it:=hid (Stb.grown ow Q (fun q J e=>J.2 (Option.some.inj e).symm))
            clear Q
            go_wp2_with fail
            go_meet
            exact⟨Bo,ko,O,so,qC,by have:=hh.out;have:=qe.out;omega,by have:=hN.out;omega,kb,h0,i5,kc,b9.and it⟩
          case rest=>
           obtain⟨Bo,ko,O,so,gt,ht,hO,U,D,h3,h4,h5⟩:=hcut
           clear b0 f0 fA bm bd HQ
           have oA:=hid U
           have oi:=hid D
           have oj:=hid h3
           have gb:=hid h4
           have hC:=hid h5
           have o0:=hid gt
           have oO:=hid ht
           have rz:=hid hO
           clear U D h3 h4 h5 gt ht hO
           generalize wc=rY at*
           go_wp2_with fail
           refine(ai oA hL ji).mono ?_
           rintro _ rX ⟨v,rfl,U,D,rfl⟩
           have a9:=hid U
           have f7:=hid (D.blk oj (by have:=Z.out;omega))
           have f6:=hid (oi.trans D)
           have be:=hid (Stb.chg2 hC D (by have:=Z.out;omega))
           have ad:=hid (D.blk gb (by have:=Z.out;have:=R.out;omega))
           clear U D
           clear oj oi oA hC gb
           obtain⟨q,J⟩:∃q,isS ji so=q:=⟨_,rfl⟩
           rw[J]
           have HQ:=hid J
           clear J
           go_upto_if 104 with fail
           go_cut [] from 105 to 107 (fun wx=> ∃(l:Int) (sl:Ps),limP posP so=(l,sl)∧I64 l∧sl.r.length≤so.r.length∧PsAt 68 P A c L w0 wx sl∧Chg P w wx∧Blk wx g0 40 sC∧Blk wx gv 40 (sC (k:=5) (i:= .slice B I.length k) (f:= .slice Af fs.length kf) (o:=op) (q:=tb) (m:=nm) (x:=ix) (y:=vk) (z:=vi) (u:=vt) (e:= .slice A1 k1 c1) (g:= .slice Bg G.length kg) (r:= .slice Bo O.length ko) (l:=l))∧Stb (Sx g0 gv) wx (fun w2=> ((((Lst bO 9 w2 B I∧Lst eJ 2 w2 Af fs)∧ExV w2 (.mk ⟨op,tb,nm,ix,vk,vi,vt⟩ ks) A1 k1 c1)∧Lst cu 8 w2 Bg G)∧Lst ea 2 w2 Bo O)))
           case first=>
            cases q
            ·skip
             have e:(aq ji so).2=so:=by have hb:=HQ.out;simp[aq,hb]
             rw[e]at a9
             clear e
             go_wp2_with fail
             go_meet
             exact⟨0,so,by unfold limP ifM;rw[HQ.out,if_neg (by simp)];rfl,bG,Nat.le_refl _,a9,f6,f7,ad,be⟩
            ·skip
             have e:(aq ji so).2=so.next:=by have hb:=HQ.out;simp[aq,hb]
             rw[e]at a9
             clear e
             have pZ:=next_len so
             have qR:=hid (pos_le a9 hL)
             have z9:=ad.cell_some (i:=20) rfl
             have y9:=ad.frozen 20
             go_wp2_with fail
             refine(gE a9 hL hE).mono ?_
             rintro _ qU ⟨v,rfl,U,D,rfl⟩
             clear z9 y9
             obtain⟨l,hl⟩:∃x,(posP so.next).1=x:=⟨_,rfl⟩
             obtain⟨sl,oT⟩:∃x,(posP so.next).2=x:=⟨_,rfl⟩
             have rK:=fwd_pos so.next
             rw[hl]at qR ⊢
             rw[oT]at U rK
             have rP:Hid (limP posP so=(l,sl)):=by
              unfold Hid limP ifM
              rw[HQ.out,if_pos rfl]
              exact Prod.ext hl oT
             clear hl oT
             have pL:=hid U
             have p5:=hid (D.blk f7 (by have:=Z.out;omega))
             have pW:=hid (f6.trans D)
             have n5:=hid (Stb.chg2 be D (by have:=Z.out;omega))
             have c5:=hid (D.blk ad (by have:=Z.out;have:=R.out;omega))
             clear U D
             clear f7 f6 a9 be ad
             have z9:=c5.cell_some (i:=20) rfl
             have y9:=c5.frozen 20
             have Q:=aC qU gv 20 (.int .i64 l)
             have kb:=hid (pL.grown Q (fun q J=>by have:=Option.some.inj J;have:=Z.out;have:=R.out;omega))
             have i5:=hid (p5.grown Q (fun e=>by have:=Option.some.inj e;have:=R.out;omega))
             have h0:=hid (pW.own Q (fun q J=>by have:=Option.some.inj J;have:=R.out;rw[bx.out];omega))
             have kc:=hid (c5.set 20 (.int .i64 l))
             have b9:=hid (Stb.grown n5 Q (fun q J e=>J.2 (Option.some.inj e).symm))
             clear Q
             go_wp2_with fail
             go_meet
             exact⟨l,sl,rP,qR,by omega,kb,h0,i5,kc,b9⟩
           case rest=>
            obtain⟨l,sl,gt,ht,hO,U,D,h3,h4,h5⟩:=hcut
            clear a9 f6 f7 ad be HQ
            have qp:=hid U
            have p9:=hid D
            have ot:=hid h3
            have oN:=hid h4
            have og:=hid h5
            have o6:=hid gt
            have oQ:=hid ht
            have rB:=hid hO
            clear U D h3 h4 h5 gt ht hO
            generalize wc=q7 at*
            have qK:Hid (queryP ex posP andL s=(qS I fs (.mk ⟨op,tb,nm,ix,vk,vi,vt⟩ ks) G O l,sl)):=by
             unfold Hid
             have D:fromP ex (needP kFROM s1)=((fs,xs),st):=by rw[rH.out];exact rD
             have h3:ep ex andL xs st=(.mk ⟨op,tb,nm,ix,vk,vi,vt⟩ ks,sw):=by rw[pM.out,pY.out]
             exact query_of pK D h3 oS o0 o6
            have qO:=ot.out
            unfold Blk at qO
            go_upto_region 31 with fail
            apply wp_region_lit
            refine aw rfl 40 (.tmp 3) rfl gv rfl 40 _ _ oN Tryz.underlying40 rfl (by kernel_rfl) ?_
            refine wpList_store_rowTo rfl 40 (.tmp 2) (.tmp 108) rfl rfl g0 #[.int .i64 5,.string ⟨#[]⟩,.slice none 0 0,.slice none 0 0,.slice none 0 0,.slice none 0 0,.slice none 0 0,.slice none 0 0,.slice B I.length k,.slice Af fs.length kf,.int .i64 op,.string tb,.string nm,.int .i64 ix,.int .i64 vk,.int .i64 vi,.string vt,.slice A1 k1 c1,.slice Bg G.length kg,.slice Bo O.length ko,.int .i64 l,.string ⟨#[]⟩] rfl rfl 40 _ qO (by kernel_rfl) (by kernel_rfl) (by kernel_rfl) ?_
            apply wpList_nil
            simp only[Act.put,List.setIfInBounds_toArray,List.set_cons_succ,List.set_cons_zero]
            go_wp2_with fail
            have qo:=hid (kQ q7 g0 #[.int .i64 5,.string ⟨#[]⟩,.slice none 0 0,.slice none 0 0,.slice none 0 0,.slice none 0 0,.slice none 0 0,.slice none 0 0,.slice B I.length k,.slice Af fs.length kf,.int .i64 op,.string tb,.string nm,.int .i64 ix,.int .i64 vk,.int .i64 vi,.string vt,.slice A1 k1 c1,.slice Bg G.length kg,.slice Bo O.length ko,.int .i64 l,.string ⟨#[]⟩])
            have rE:=hid (row_blk ot (sC (k:=5) (i:= .slice B I.length k) (f:= .slice Af fs.length kf) (o:=op) (q:=tb) (m:=nm) (x:=ix) (y:=vk) (z:=vi) (u:=vt) (e:= .slice A1 k1 c1) (g:= .slice Bg G.length kg) (r:= .slice Bo O.length ko) (l:=l)))
            refine bodyPost_ret (v:= .agg #[.int .i64 5,.string ⟨#[]⟩,.slice none 0 0,.slice none 0 0,.slice none 0 0,.slice none 0 0,.slice none 0 0,.slice none 0 0,.slice B I.length k,.slice Af fs.length kf,.int .i64 op,.string tb,.string nm,.int .i64 ix,.int .i64 vk,.int .i64 vi,.string vt,.slice A1 k1 c1,.slice Bg G.length kg,.slice Bo O.length ko,.int .i64 l,.string ⟨#[]⟩]) ?_ ?_ ?_
            ·exact results_cell_row (p:=2) (ty:=40) rfl _ _ g0 40 _ _ _ (by rfl) rE Tryz.underlying40 rfl (by kernel_rfl)
            ·rfl
            ·skip
             exact⟨_,rfl,by rw[qK.out];exact qp.grown qo (fun q J=>by have:=Z.out;have:=Option.some.inj J;omega),p9.own qo (fun q J=>by have:=Option.some.inj J;rw[bx.out];omega),by rw[qK.out,bx.out];exact⟨⟨⟨none,0,0⟩,⟨none,0,0⟩,⟨none,0,0⟩,⟨none,0,0⟩,⟨none,0,0⟩,⟨none,0,0⟩,⟨B,I.length,k⟩,⟨Af,fs.length,kf⟩,⟨A1,k1,c1⟩,⟨Bg,G.length,kg⟩,⟨Bo,O.length,ko⟩⟩,rfl,(Stb.weak (Stb.grown og qo (fun q J e=>by have:=Option.some.inj e;have:=J.1;omega)) (fun q _ J=>Nat.le_of_succ_le J.1)).imp fun w2 h=>StW.of (query_st (by have:=rQ.out;omega) (by have:=rN.out;omega) (by have:=o8.out;omega) (by have:=oO.out;omega) oQ h.1.1.1.1 h.1.1.1.2 h.1.1.2 h.1.2 h.2) rfl rfl⟩⟩
     ·skip
      have p2:qc=true∨qj=true:=by have:=p6.out;revert this;cases qc<;>cases qj<;>simp
      have hk:st.hd.kind≠0:=by
       intro e
       have e1:=oL.out
       have e2:=hT.out
       rcases p2 with h|h
       ·rw[h]at e1;simp[isS,e]at e1
       ·rw[h]at e2;simp[isS,e]at e2
      have sc:st.next.r.length+1=st.r.length:=by
       rcases p2 with h|h
       ·exact aM (t:=yCm) (by rw[oL.out,h])
       ·exact aM (t:=fv) (by rw[hT.out,h])
      go_wp2_with fail
      refine(lx cj hL fv).mono ?_
      rintro _ oY ⟨rfl,hx⟩
      rw[hT.out]
      have dc:=hid (l3.ext hx)
      have dk:=hid (k5.ext hx)
      have a1:=hid (cj.ext hx)
      have an:=hid (b6.ext hx)
      have b7:=hid (Stb.ext l9 hx)
      have a3:=hid (Nat.le_trans f3 (hx).size)
      have b3:=hid (l1.ext hx)
      clear hx
      clear l3 k5 cj b6 l9 f3 l1
      have p1:=a1.blk.cell_some (i:=1) rfl
      have f1:=a1.blk.frozen 1
      have qF:=hid (a1.next hL hk)
      have hi:=a1.lti
      have hW:=(Chg.refl P oY).set 1 (.int .i64 (((L.length-st.r.length:Nat):Int)+1))
      have gr:=hid (hW.blk dc (by have:=Z.out;omega))
      have gd:=hid (dk.trans hW)
      have ax:=hid (hW.blk an (by have:=Z.out;have:=R.out;omega))
      have hf:=hid (Stb.grown b7 hW (fun q J e=>by have:=Option.some.inj e;have:=Z.out;have:=J.1;omega))
      have ci:=hid (Nat.le_trans a3 (hW).size)
      have g8:=hid (b3.chg hW cb)
      have hD:=hid qF
      clear hW qF
      clear dc dk a1 an b7 a3 b3
      obtain⟨ip,pN⟩:∃n,L.length-st.r.length=n:=⟨_,rfl⟩
      rw[pN]at p1 hi hD gr gd ax hf ci g8
      have r4:=hid pN
      clear pN
      go_upto_region 10 with fail
      clear p1 f1
      generalize oY.setCell ⟨P,1,none⟩ (.int .i64 ((ip:Int)+1))=gc at*
      obtain⟨⟨tb,al⟩,i2⟩:∃x,(srcP st.next).1=x:=⟨_,rfl⟩
      obtain⟨sr,bn⟩:∃x,(srcP st.next).2=x:=⟨_,rfl⟩
      have il:=kP (hD.ext (Ext.refl gc).drew) hL
      rw[i2,bn]at il
      have m5:Hid (srcP st.next=(⟨tb,al⟩,sr)):=Prod.ext i2 bn
      have ds:=gs st.next
      rw[bn]at ds
      clear i2 bn
      have oD:Hid (Calls Tryz.prog 104 #[.pointer (some ⟨P,0,none⟩)] gc.drew fun e w3=>e= .returned (.agg #[.string tb,.string al])∧(tb.size≤20000∧al.size≤20000)∧PsAt 68 P A c L w0 w3 sr∧Chg P gc w3):=il.mono fun e w3 ⟨v,he,h5,h6,hv,hz⟩=>⟨by rw[he,hv],hz,h5,(Chg.of (Ext.refl gc).drew).trans h6⟩
      clear il
      have hX:Hid ((fs).length≤20001):=by unfold Hid;first|omega|simp
      have z1:=ax.cell_some (i:=9) rfl
      have qg:=(ax.ext (Ext.refl gc).drew).cell_some (i:=9) rfl
      go_upto_region 10 with fail
      go_cut [] from 42 to 47 (fun wx=> ∃(A7:Option Addr) (c7:Nat),(tb.size≤20000∧al.size≤20000)∧PsAt 68 P A c L w0 wx sr∧Chg P w wx∧Blk wx g0 40 sC∧Blk wx gv 40 (sC (k:=5) (i:= .slice B I.length k) (f:= .slice A7 ((fs).length+1) c7))∧Stb (fun q=>g0+1≤q∧q≠gv∧q<n1) wx (fun w2=>Lst bO 9 w2 B I)∧n1≤wx.heap.size∧∃cf cx,FrW n1 wx (.slice A7 ((fs).length+1) c7) (.slice Ax xs.length kx) cf cx ((fs)++ [⟨tb,al⟩]) xs)
      case first=>
       go_region_law (first
        |(refine aS _ rfl (.tmp 43) (.tmp 46) 33 rfl n1 86 iq _ 2 32 Tryz.underlying33 q0 qL m4 ru rfl (by decide) _ (fs).length _ rfl ie.f.own _ _ 1 1 [.string tb,.string al] rfl (bW w3 [.string tb,.string al] 86 2 rfl) (by simp[Value.oneCell']) (by have:=hX.out;unfold maxLen;omega) (by have:=hX.out;omega) hw ?_;intro v7 w7 Y H ac;obtain⟨A7,c7,rfl⟩:=bJ Y;have K:=ie.gef;have hY:=a5.grown H (fun e=>by have:=K gv e.symm;have:=ba.out;omega);have z9:=hY.cell_some (i:=9) rfl;have y9:=hY.frozen 9;clear hY)
        |(go_simp;go_at_call 104;(with_reducible refine oD.out.mono ?_);rintro _ w3 ⟨rfl,hz,h5,h6⟩;have os:=hid h5;have m7:=hid (h6.blk gr (by have:=Z.out;omega));have oz:=hid (gd.trans h6);have a0:=hid (h6.blk ax (by have:=Z.out;have:=R.out;omega));have p8:=hid (Stb.grown hf h6 (fun q J e=>by have:=Option.some.inj e;have:=Z.out;have:=J.1;omega));have oM:=hid (Nat.le_trans ci (h6).size);have qf:=hid (g8.chg h6 cb);have V:=(Ext.refl w3).alloc (.cells #[.string tb,.string al] 86);have qB:=hid (m7.ext V);have qn:=hid (oz.ext V);have pX:=hid (os.ext V);have a5:=hid (a0.ext V);have p7:=hid (Stb.ext p8 V);have hw:=hid (Nat.le_trans oM (V).size);have ie:=hid (qf.ext V);have z3:=a0.cell_some (i:=9) rfl;have z4:=a5.cell_some (i:=9) rfl;have oC:=hid hz;clear V h5 h6 hz))
       all_goals
        have qd:=hid (ie.pushf (y:=⟨tb,al⟩) rfl Y H ac ⟨rfl,oC⟩)
        have pR:=hid (qB.grown H (fun e=>by have:=K g0 e.symm;have:=a4.out;omega))
        have qA:=hid (qn.own H (fun q e=>by have:=K q e;have:=a4.out;rw[bx.out];omega))
        have pU:=hid (pX.grown H (fun q e=>Nat.lt_of_lt_of_le cb (K q e)))
        have ik:=hid (a5.grown H (fun e=>by have:=K gv e.symm;have:=ba.out;omega))
        have qz:=hid (Stb.grown p7 H (fun q J e=>by have:=K q e;have:=J.2.2;omega))
        have n2:=hid (Nat.le_trans hw (World.grownBy.size H))
        have hgs:=aC w7 gv 9 (.slice A7 ((fs).length+1) c7)
        have qk:=hid (pR.grown hgs (fun e=>by have:=Option.some.inj e;have:=R.out;omega))
        have pP:=hid (qA.own hgs (fun q e=>by have:=Option.some.inj e;have:=R.out;rw[bx.out];omega))
        have pS:=hid (pU.grown hgs (fun q e=>by have:=Option.some.inj e;have:=Z.out;have:=R.out;omega))
        have qi:=hid (Stb.grown qz hgs (fun q J e=>by have:=Option.some.inj e;have:=J.2.1;omega))
        have no:=hid (Nat.le_trans n2 (World.grownBy.size hgs))
        have qx:=hid (qd.turn hgs (fun q e=>by have:=Option.some.inj e;have:=ba.out;omega))
        have ih:=hid (ik.set 9 (.slice A7 ((fs).length+1) c7))
        clear Y H ac K hgs
        go_wp2_with fail
        go_meet
        exact⟨A7,c7,oC,pS,pP,qk,ih,qi,no,_,_,qx⟩
      case rest=>
       obtain⟨Af,kf,p0,U,D,h3,h4,h5,h6,cf,cx,h7⟩:=hcut
       clear p0 oD hX z1 qg
       clear gr gd hD ax hf ci g8
       obtain⟨n7,bf⟩:∃x,(fs)++ [⟨tb,al⟩]=x:=⟨_,rfl⟩
       have bY:(fs).length+1=n7.length:=by rw[←bf];simp
       rw[bf,bY]at h7
       rw[bY]at h4
       have pf:=hid bf
       have nv:=hid bY
       clear bf bY
       have l0:=hid U
       have n6:=hid D
       have oE:=hid h3
       have fn:=hid h4
       have n4:=hid h5
       have is:=hid h6
       have oB:=hid h7
       clear U D h3 h4 h5 h6 h7
       generalize wc=oR at*
       have ag:=hid ds
       clear ds
       cases qj
       ·skip
        obtain rfl:qc=true:=by rcases p2 with h|h;exact h;cases h
        have pH:Hid (fromGo ex m n7 xs sr=FR):=by
         have:=oZ.out
         rw[oL.out,if_pos rfl,m5.out]at this
         unfold Hid
         rw[←pf.out]
         exact this
        go_wp2_with fail
        exact⟨⟨m,n7,xs,sr,Af,kf,Ax,kx,rfl,pH,by have:=ag.out;omega,by have:=ag.out;omega,by have:=ag.out;have:=nv.out;omega,by have:=ag.out;omega,l0,n6,oE,fn,n4,is,_,_,oB⟩,by rw[l0.out.posOf,qD.out];have:=ag.out;have:=hL.len;omega⟩
       ·skip
        have rh:Hid (isS yCm st=false):=by
         unfold Hid
         cases hc:isS yCm st with
         |false=>rfl
         |true=>have:=not_both hc;rw[hT.out]at this;cases this
        have r9:=aH kON sr
        go_wp2_with fail
        refine(az (l0.ext ((Ext.refl oR).alloc (.cells #[.string kON] 9))) hL kON oR.heap.size (by simp[World.cell?_alloc_new])).mono ?_
        rintro _ rO ⟨v,rfl,U,D,_⟩
        replace D:Chg P oR rO:=(Chg.of ((Ext.refl oR).alloc (.cells #[.string kON] 9))).trans D
        have pD:=hid U
        have pB:=hid (D.blk oE (by have:=Z.out;omega))
        have pA:=hid (n6.trans D)
        have lo:=hid (D.blk fn (by have:=Z.out;have:=R.out;omega))
        have pe:=hid (Stb.grown n4 D (fun q J e=>by have:=Option.some.inj e;have:=Z.out;have:=J.1;omega))
        have ka:=hid (Nat.le_trans is (D).size)
        have oI:=hid (oB.chg D cb)
        clear U D
        clear oE n6 l0 fn n4 is oB
        go_wp2_with fail
        refine(hr _ _ pD (by have:=ag.out;omega)).mono ?_
        rintro _ rb ⟨v,rfl,U,D,A1,k1,c1,rfl,h3⟩
        obtain⟨e1,ic⟩:∃e,(ex (needP kON sr)).1=e:=⟨_,rfl⟩
        obtain⟨hK,b2⟩:∃e,(ex (needP kON sr)).2=e:=⟨_,rfl⟩
        have hV:=n0 (needP kON sr)
        rw[b2]at U hV
        rw[ic]at h3 ⊢
        have qy:Hid (ex (needP kON sr)=(e1,hK)):=Prod.ext ic b2
        have eb:=hid hV
        clear ic b2 hV
        have qW:=hid U
        have q2:=hid (D.blk pB (by have:=Z.out;omega))
        have qY:=hid (pA.trans D)
        have o5:=hid (D.blk lo (by have:=Z.out;have:=R.out;omega))
        have rm:=hid (Stb.grown pe D (fun q J e=>by have:=Option.some.inj e;have:=Z.out;have:=J.1;omega))
        have qt:=hid (Nat.le_trans ka (D).size)
        have rl:=hid (oI.chg D cb)
        have qG:=hid (oI.fine (Nat.le_refl _) ka h3)
        clear U D h3
        clear pB pA pD lo pe ka oI
        obtain⟨⟨op,tb,nm,ix,vk,vi,vt⟩,ks⟩:=e1
        unfold Nd.val
        simp only[Ex.d]
        have V:=(Ext.refl rb).alloc (.cells #[.int .i64 op,.string tb,.string nm,.int .i64 ix,.int .i64 vk,.int .i64 vi,.string vt,.slice A1 k1 c1] 37)
        have oh:=hid (q2.ext V)
        have oq:=hid (qY.ext V)
        have om:=hid (qW.ext V)
        have fr:=hid (o5.ext V)
        have nj:=hid (Stb.ext rm V)
        have cl:=hid (Nat.le_trans qt (V).size)
        have df:=hid (rl.ext V)
        have oo:=hid (Stb.ext qG V)
        clear V
        have m6:Hid ((xs).length≤20002):=by unfold Hid;omega
        go_wp2_with (at_builtin;refine ap _ rfl (.tmp 53) (.tmp 56) 27 rfl n1 37 iz _ 8 104 Tryz.underlying27 qX rs q5 rn rfl (by decide) _ (xs).length _ rfl df.x.own _ _ 1 1 (eC op tb nm ix vk vi vt A1 k1 c1) rfl (bW rb (eC op tb nm ix vk vi vt A1 k1 c1) 37 8 rfl) (by simp[Value.oneCell']) (by have:=m6.out;unfold maxLen;omega) (by have:=m6.out;omega) cl ?_;intro v7 w7 Y H ac;obtain⟨A7,c7,rfl⟩:=bJ Y)
        have cc:=hid (df.pushx (y:=(.mk ⟨op,tb,nm,ix,vk,vi,vt⟩ ks)) rfl Y H ac (oo.imp fun w2 h=>⟨A1,k1,c1,rfl,h⟩))
        have K:=df.gex
        have on:=hid (oh.grown H (fun e=>by have:=K g0 e.symm;have:=a4.out;omega))
        have oK:=hid (oq.own H (fun q e=>by have:=K q e;have:=a4.out;rw[bx.out];omega))
        have k9:=hid (om.grown H (fun q e=>Nat.lt_of_lt_of_le cb (K q e)))
        have f2:=hid (fr.grown H (fun e=>by have:=K gv e.symm;have:=ba.out;omega))
        have ox:=hid (Stb.grown nj H (fun q J e=>by have:=K q e;have:=J.2.2;omega))
        have kk:=hid (Nat.le_trans cl (World.grownBy.size H))
        clear Y H ac K
        obtain⟨jl,dd⟩:∃x,(xs)++ [(.mk ⟨op,tb,nm,ix,vk,vi,vt⟩ ks)]=x:=⟨_,rfl⟩
        have bY:(xs).length+1=jl.length:=by rw[←dd];simp
        rw[dd]at cc
        rw[bY]at cc ⊢
        have pH:Hid (fromGo ex m n7 jl hK=FR):=by
         have:=oZ.out
         rw[rh.out,hT.out,if_neg (by simp),if_pos rfl,m5.out]at this
         simp only[qy.out,pf.out]at this
         rw[dd]at this
         exact this
        exact⟨⟨m,n7,jl,hK,Af,kf,A7,c7,rfl,pH,by have:=ag.out;have:=eb.out;omega,by have:=ag.out;have:=eb.out;omega,by have:=ag.out;have:=eb.out;have:=nv.out;omega,by have:=ag.out;have:=eb.out;omega,k9,oK,on,f2,ox,kk,_,_,cc⟩,by rw[k9.out.posOf,qD.out];have:=ag.out;have:=eb.out;have:=hL.len;omega⟩
end
end
end Go.Proofs.YtjigcpfjhfoheaaGreatDoor
