/- Walk over the reference: a statement. -/
import Derived.Test.YtjigcpfjhfoheaaGreatDoorVca
namespace Go.Proofs.YtjigcpfjhfoheaaGreatDoor
open Go.RowKit List Go.Proofs.Tryz
set_option maxHeartbeats 4000000
set_option maxRecDepth 100000
set_option linter.unusedVariables false
set_option linter.unusedSimpArgs false
section
open Lx (Tk)
def crS (t:BA) (d:Df):St:= { stZ with kd:=1,tb:=t,cols:=d.cols,keys:=d.keys,frs:=d.frs,chk:=d.chk }
theorem cr_st {w:World} {X:BA} {d:Df} {a b e f:OA} {c1 c2 c3 c4:Nat} (n:X.size≤20000) (o:d.cols.length≤20001∧d.keys.length≤20001∧d.frs.length≤20001∧d.chk.length≤20001)
  (g:jz w a d.cols) (j:fL w b d.keys) (k:jA w e d.frs) (m:KidsAt w f d.chk):
  StV w (crS X d) ⟨⟨a,d.cols.length,c1⟩,⟨b,d.keys.length,c2⟩,⟨e,d.frs.length,c3⟩,⟨f,d.chk.length,c4⟩,⟨none,0,0⟩,⟨none,0,0⟩,⟨none,0,0⟩,⟨none,0,0⟩,⟨none,0,0⟩,⟨none,0,0⟩,⟨none,0,0⟩⟩:=by
 refine⟨rv,by show X.size≤_;omega,cy,by show 0≤9223372036854775807;omega,⟨rfl,by show d.cols.length≤_;omega,g⟩,⟨rfl,by show d.keys.length≤_;omega,j⟩,⟨rfl,by show d.frs.length≤_;omega,k⟩,⟨rfl,by show d.chk.length≤_;omega,m⟩,
  ⟨rfl,by show 0≤_;omega,?_⟩,(fun l h=>by cases h),⟨rfl,by show 0≤_;omega,fun i x h=>by cases h⟩,⟨rfl,by show 0≤_;omega,fun i x h=>by cases h⟩,⟨rfl,by show 0≤_;omega,fun i x h=>by cases h⟩,eS w,⟨rfl,by show 0≤_;omega,vl _ _⟩,⟨rfl,by show 0≤_;omega,fun i x h=>by cases h⟩⟩
 intro i l h
 cases h
section
variable {P c:Nat} {A:OA} {L:List Tk} {w0 w:World} {s:Ps}
theorem En.rdf {j:World} {V:List Vb} {Φ:World→Prop} {Q:Ending→World→Prop} {n:Nat} {ex:M Ex} (z:RX P A c L w0 41 #[.pointer (some ⟨P,0,none⟩),i4 1] n ex) (i:Fwd ex) (E:En 77 P A c L w0 j w s V Φ) (y:s.r.length<n) (x:TkL L) (k:∀a c1 b c2 f c3 g c4 w',((dfP ex s).1.cols.length≤20001∧(dfP ex s).1.keys.length≤20001∧(dfP ex s).1.frs.length≤20001∧(dfP ex s).1.chk.length≤20001)→En 77 P A c L w0 j w' (dfP ex s).2 V (fun u=>Φ u∧Lst nR 6 u a (dfP ex s).1.cols∧Lst qd 1 u b (dfP ex s).1.keys∧Lst qe 3 u f (dfP ex s).1.frs∧Lst Phiex 8 u g (dfP ex s).1.chk)→Q (.returned (.agg #[.slice a (dfP ex s).1.cols.length c1,.slice b (dfP ex s).1.keys.length c2,.slice f (dfP ex s).1.frs.length c3,.slice g (dfP ex s).1.chk.length c4])) w'):
  Cl 68 #[.pointer (some ⟨P,0,none⟩)] w Q:=
 (qt z i y E.ps x).mono fun e w' ⟨v,h,l,m,a,c1,b,c2,f,c3,g,c4,o,p,t⟩=>by rw[h,o];exact k a c1 b c2 f c3 g c4 w' p (E.calls l m t)
theorem lf {n:Nat} {ex:M Ex} (hr:RX P A c L w0 41 #[.pointer (some ⟨P,0,none⟩),i4 1] n ex) (Q:Fwd ex) (hn:s.r.length<n) (a3:n≤30000) (hp:PsAt 77 P A c L w0 w s) (e:TkL L):
  Cl 33 #[.pointer (some ⟨P,0,none⟩)] w (Ran 77 P A c L w0 w (dj ex cg bZ lc s).2 fun v w'=>ElSt w.heap.size w' (dj ex cg bZ lc s).1 v):=by
 have f:Hid (dj ex cg bZ lc s=if isS cq s=true then (crS (takP 1 (needP kTABLE s.next)).1 (dfP ex (takP 1 (needP kTABLE s.next)).2).1,(dfP ex (takP 1 (needP kTABLE s.next)).2).2)else if isS cM s=true then
   (lowS 2 (takP 1 (needP kINTO s.next)).1 ⟨#[]⟩ (listP (tupP ex) (needP kVALUES (takP 1 (needP kINTO s.next)).2)).1 [] exZ,(listP (tupP ex) (needP kVALUES (takP 1 (needP kINTO s.next)).2)).2)
  else if isS dd s=true then (lowS 3 (takP 1 s.next).1 ⟨#[]⟩ [] (listP (asgP ex) (needP kSET (takP 1 s.next).2)).1 (whrP ex (listP (asgP ex) (needP kSET (takP 1 s.next).2)).2).1,(whrP ex (listP (asgP ex) (needP kSET (takP 1 s.next).2)).2).2)
  else if isS dP s=true then (lowS 4 (takP 1 (needP kFROM s.next)).1 ⟨#[]⟩ [] [] (whrP ex (takP 1 (needP kFROM s.next)).2).1,(whrP ex (takP 1 (needP kFROM s.next)).2).2)
  else if isS dQ s=true then queryP ex cg bZ s.next
  else if isS gC s=true then (lowS 6 ⟨#[]⟩ ⟨#[]⟩ [] [] exZ,s.next)
  else if isS fB s=true then (lowS 7 ⟨#[]⟩ ⟨#[]⟩ [] [] exZ,s.next)
  else if isS dR s=true then (if isS kTO s.next=true then (lowS 10 ⟨#[]⟩ (takP 1 s.next.next).1 [] [] exZ,(takP 1 s.next.next).2)else (lowS 8 ⟨#[]⟩ ⟨#[]⟩ [] [] exZ,s.next))
  else if isS ej s=true then (lowS 9 ⟨#[]⟩ (takP 1 s.next).1 [] [] exZ,(takP 1 s.next).2)
  else (lowS 11 ⟨#[]⟩ (takP 1 (needP eG s)).1 [] [] exZ,(takP 1 (needP eG s)).2)):=rfl
 obtain⟨R,hR⟩:∃R,dj ex cg bZ lc s=R:=⟨_,rfl⟩
 rw[hR]at f ⊢
 have E:=En.start hp
 have a5:=hp.le
 have a4:=e.len
 have a6:=next_len s
 clear hR hp
 go_enter func33,ntmps33
 go_upto_region 1 with (refine E.al rfl _ rfl rfl (cs:=zS) (t:=40) (by kernel_rfl) fun J u E=>?_)
 go_wp2_with (first|(refine E.al rfl _ rfl rfl (cs:=zS) (t:=40) (by kernel_rfl) fun gs u E=>?_)|(refine wpList_buildTo rfl 40 _ rfl _ rfl zS.toArray (by kernel_rfl) ?_)|(refine E.sw (j:=0) (ty:=40) rfl rfl rfl rfl rfl rfl (by kernel_rfl) (by kernel_rfl) rfl fun u E=>?_)|(go_at_call 66;refine E.rtk e cq rfl (fun O u E=>?_) (fun O u E=>?_))|(go_at_call 66;refine E.rtk e cM rfl (fun U u E=>?_) (fun U u E=>?_))|(go_at_call 66;refine E.rtk e dd rfl (fun Z u E=>?_) (fun Z u E=>?_))|(go_at_call 66;refine E.rtk e dP rfl (fun h3 u E=>?_) (fun h3 u E=>?_))|(go_at_call 66;refine E.rtk e dQ rfl (fun h4 u E=>?_) (fun h4 u E=>?_))|(go_at_call 66;refine E.rtk e gC rfl (fun h5 u E=>?_) (fun h5 u E=>?_))|(go_at_call 66;refine E.rtk e fB rfl (fun h6 u E=>?_) (fun h6 u E=>?_))|(go_at_call 66;refine E.rtk e dR rfl (fun h7 u E=>?_) (fun h7 u E=>?_))|(go_at_call 66;refine E.rtk e ej rfl (fun h8 u E=>?_) (fun h8 u E=>?_))|(go_at_call 66;refine E.rtk e kTO rfl (fun ht u E=>?_) (fun ht u E=>?_))|(refine E.sm (j:=0) rfl rfl rfl rfl rfl (by first|exact cA rfl|exact cS rfl|exact cI rfl|exact cL rfl|exact cB rfl) (by kernel_rfl) (by kernel_rfl) (by kernel_rfl) fun u E=>?_)|(refine E.lw (j:=0) (ty:=40) rfl rfl rfl rfl (by kernel_rfl) ?_)|(refine E.sw (j:=1) (ty:=40) rfl rfl rfl rfl rfl rfl (by kernel_rfl) (by kernel_rfl) rfl fun u E=>?_))
 ·rw[O,if_pos rfl]at f
  have H:=au O
  have f1:=aA kTABLE s.next
  have f2:=fwd_tak 1 (needP kTABLE s.next)
  go_wp2_with (first|(go_at_call 45;refine E.rnd e kTABLE rfl fun u E=>?_)|(go_at_call 67;refine E.rnm e fun u b E=>?_;replace b:=hid b)|(go_at_call 68;refine E.rdf hr Q (by omega) e fun B1 c1 B2 c2 B3 c3 B4 c4 u hb E=>?_)|(refine E.sm (j:=0) rfl rfl rfl rfl rfl (by first|exact cA rfl|exact cS rfl|exact cI rfl|exact cL rfl|exact cB rfl) (by kernel_rfl) (by kernel_rfl) (by kernel_rfl) fun u E=>?_)|(refine E.lw (j:=0) (ty:=40) rfl rfl rfl rfl (by kernel_rfl) ?_)|(refine E.sw (j:=1) (ty:=40) rfl rfl rfl rfl rfl rfl (by kernel_rfl) (by kernel_rfl) rfl fun u E=>?_))
  rw[f.out]
  exact E.fi (j:=1) rfl rfl rfl rfl (by kernel_rfl) ⟨⟨⟨B1,_,c1⟩,⟨B2,_,c2⟩,⟨B3,_,c3⟩,⟨B4,_,c4⟩,⟨none,0,0⟩,⟨none,0,0⟩,⟨none,0,0⟩,⟨none,0,0⟩,⟨none,0,0⟩,⟨none,0,0⟩,⟨none,0,0⟩⟩,rfl,E.keep.imp fun u h=>⟨cr_st b hb (lst_cds h.2.1) (vj h.2.2.1) (lst_rfs h.2.2.2.1) (jY h.2.2.2.2),vg h.2.2.1,vh h.2.2.2.1⟩⟩
 ·rw[O,if_neg (by simp),U,if_pos rfl]at f
  have H:=au U
  have f1:=aA kINTO s.next
  have f2:=fwd_tak 1 (needP kINTO s.next)
  have f3:=aA kVALUES (takP 1 (needP kINTO s.next)).2
  have D:=tz Q
  go_upto_region 15 with (first|(go_at_call 45;refine E.rnd e kINTO rfl fun u E=>?_)|(go_at_call 45;refine E.rnd e kVALUES rfl fun u E=>?_)|(go_at_call 67;refine E.rnm e fun u b E=>?_;replace b:=hid b)|(refine E.sm (j:=0) rfl rfl rfl rfl rfl (by first|exact cA rfl|exact cS rfl|exact cI rfl|exact cL rfl|exact cB rfl) (by kernel_rfl) (by kernel_rfl) (by kernel_rfl) fun u E=>?_))
  obtain⟨X,hX⟩:∃x,(takP 1 (needP kINTO s.next)).1=x:=⟨_,rfl⟩
  obtain⟨p,ad⟩:∃x,needP kVALUES (takP 1 (needP kINTO s.next)).2=x:=⟨_,rfl⟩
  rw[ad]at f E f3
  rw[hX]at f E b
  clear hX ad
  have y:Hid (listP (tupP ex) p=listGo (tupP ex) (p.r.length+1) [((tupP ex) p).1] ((tupP ex) p).2):=rfl
  have V:=list_len D p
  have ag:=fwd_list D p
  have ac:=D p
  obtain⟨Rv,I⟩:∃R,listP (tupP ex) p=R:=⟨_,rfl⟩
  rw[I]at y V ag
  have aS:=hid I
  clear I
  obtain⟨⟨z,s5⟩,b⟩:∃x,(tupP ex) p=x:=⟨_,rfl⟩
  rw[b]at y ac
  simp only at y ac
  replace E:=(E.row0 (α:=List Ex) w.heap.size 27 1).imp (Ψ:=fun u=> (True)∧Els gW 1 ([]:List (List Ex)) [] u) fun u h=>⟨h,Els.nil⟩
  go_upto_region 15 with fail
  go_cut [] from 34 to 40 (fun wx=> ∃(g:OA) (c':Nat) (G:LV),En 77 P A c L w0 w wx s5 [ow w.heap.size 27 1 (.slice g [(z:List Ex)].length c') [(z:List Ex)].length G,bk gs 40 (lC 2 X (.slice g [(z:List Ex)].length c') nl zE ⟨#[]⟩),bk J 40 zS] (fun u=> (True)∧Els gW 1 [(z:List Ex)] G u))
  case first=>
   have z1:=(E.get (j:=1) rfl).cell_some (i:=6) rfl
   replace E:=hid (E.ext (Ext.refl _).drew)
   have z2:=(E.get (j:=1) rfl).cell_some (i:=6) rfl
   go_region_law (first
    |(refine E.aps (z:List Ex) ap_row (j:=0) rfl rfl rfl rfl rfl rfl rfl (by simp[Value.oneCell']) (by first|omega|simp) fun l' g c' u H E=>?_;have z9:=(E.get (j:=1) rfl).cell_some (i:=6) rfl;have y9:=(E.get (j:=1) rfl).frozen 6;replace E:=hid E)
    |(go_simp;(go_at_call 69;have C:=rP hr (by omega) Q E.ps e;rw[b]at C;simp only[Ex.d,Nd.cells]at C;(with_reducible refine C.mono ?_);rintro _ u3 ⟨v,rfl,W,Y,B,k,rfl,J,g3⟩;replace E:=hid (E.calls W Y g3);clear W Y C);have z3:=(E.get (j:=1) rfl).cell_some (i:=6) rfl;have z4:=fun o=> (x10 u3 o).keep z3))
   all_goals
    replace E:=E.set (j:=1) rfl 6 (.slice g l'.length c')
    go_wp2_with fail
    go_meet
    obtain rfl:=H.out
    exact⟨_,_,_,E.imp fun u h=>⟨h.1.1,Els.snoc h.1.2 rfl ⟨B,k,rfl,Nat.le_trans J (by omega),h.2⟩⟩⟩
  case rest=>
   obtain⟨A1,c1,G,E⟩:=hcut
   generalize wc=wv at*
   clear b
   go_wp2_with fail
   go_loopw [42] (fun _ wr=>Hid (∃(m:Nat) (st:Ps) (l:List (List Ex)) (G:LV) (g:OA) (c':Nat),st.r.length<m∧l.length+st.r.length≤p.r.length+1∧Rv=listGo (tupP ex) m l st∧En 77 P A c L w0 w wr st [ow w.heap.size 27 1 (.slice g l.length c') l.length G,bk gs 40 (lC 2 X (.slice g l.length c') nl zE ⟨#[]⟩),bk J 40 zS] (fun u=> (True)∧Els gW 1 l G u))) (fun _ wr=>20001-posO P wr)
   case atStart=>exact hid ⟨_,s5,_,G,A1,c1,by omega,by show 1+_≤_;omega,y,E⟩
   case round=>
    clear E
    obtain⟨m,st,l,G,A1,c1,hm,a1,hI,E⟩:=hrel.out
    obtain⟨m,rfl⟩:∃x,m=x+1:=⟨m-1,by omega⟩
    rw[listGo]at hI
    have K:=hid hI
    have an:=hid E.ps.posO
    have a0:=E.ps.le
    clear hI
    go_wp2_with (first|(go_at_call 66;refine E.rtk e yCm rfl (fun hb u E=>?_) (fun hb u E=>?_))|(refine E.lw (j:=1) (ty:=40) rfl rfl rfl rfl (by kernel_rfl) ?_)|(refine E.sw (j:=2) (ty:=40) rfl rfl rfl rfl rfl rfl (by kernel_rfl) (by kernel_rfl) rfl fun u E=>?_))
    ·rw[hb,if_pos rfl]at K
     have a2:=au hb
     have F:=D st.next
     obtain⟨⟨z,s6⟩,b⟩:∃x,(tupP ex) st.next=x:=⟨_,rfl⟩
     rw[b]at K F
     simp only at K F
     have z1:=(E.get (j:=1) rfl).cell_some (i:=6) rfl
     replace E:=hid (E.ext (Ext.refl _).drew)
     have z2:=(E.get (j:=1) rfl).cell_some (i:=6) rfl
     go_region_law (first
      |(refine E.aps (z:List Ex) ap_row (j:=0) rfl rfl rfl rfl rfl rfl rfl (by simp[Value.oneCell']) (by first|omega|simp) fun l' g c' u H E=>?_;have z9:=(E.get (j:=1) rfl).cell_some (i:=6) rfl;have y9:=(E.get (j:=1) rfl).frozen 6;replace E:=hid E)
      |(go_simp;(go_at_call 69;have C:=rP hr (by omega) Q E.ps e;rw[b]at C;simp only[Ex.d,Nd.cells]at C;(with_reducible refine C.mono ?_);rintro _ u3 ⟨v,rfl,W,Y,B,k,rfl,J,g3⟩;replace E:=hid (E.calls W Y g3);clear W Y C);have z3:=(E.get (j:=1) rfl).cell_some (i:=6) rfl;have z4:=fun o=> (x10 u3 o).keep z3))
     all_goals
      replace E:=E.set (j:=1) rfl 6 (.slice g l'.length c')
      go_wp2_with fail
      have ax:=E.ps.posO
      go_roundw
      case rel=>
       first|refine⟨_,_,_,_,_,_,_,_,_,?_,rfl⟩|skip
       exact hid ⟨m,s6,l',_,g,c',by omega,by rw[H.out];simp;omega,by rw[H.out];exact K,E.imp fun u h=>⟨h.1.1,H.out ▸ Els.snoc h.1.2 rfl ⟨B,k,rfl,Nat.le_trans J (by omega),h.2⟩⟩⟩
      case measure=>rw[ax,an.out];omega
    ·rw[hb,if_neg (by simp)]at K
     obtain rfl:Rv=(l,st):=K.out
     replace E:=E.give.imp (Ψ:=fun u=> (True)∧Lst gW 1 u A1 l) fun u h=>⟨h.1.1,h.1.2.lst' h.2⟩
     rw[f.out,aS.out]
     exact E.fi (j:=1) rfl rfl rfl rfl (by kernel_rfl) ⟨fb A1 none none _ 0 0 c1 0 0,rfl,E.keep.imp fun u h=>StW.of (lK lb b (Nat.zero_le _) (by have:l.length≤_:=V;show l.length≤_;omega) (Nat.zero_le _) h.2 cN (eS u)) rfl rfl⟩
 ·rw[O,if_neg (by simp),U,if_neg (by simp),Z,if_pos rfl]at f
  have H:=au Z
  have f2:=fwd_tak 1 s.next
  have f3:=aA kSET (takP 1 s.next).2
  have D:=o4 Q
  go_upto_region 22 with (first|(go_at_call 45;refine E.rnd e kSET rfl fun u E=>?_)|(go_at_call 67;refine E.rnm e fun u b E=>?_;replace b:=hid b)|(refine E.sm (j:=0) rfl rfl rfl rfl rfl (by first|exact cA rfl|exact cS rfl|exact cI rfl|exact cL rfl|exact cB rfl) (by kernel_rfl) (by kernel_rfl) (by kernel_rfl) fun u E=>?_))
  obtain⟨X,hX⟩:∃x,(takP 1 s.next).1=x:=⟨_,rfl⟩
  obtain⟨p,ad⟩:∃x,needP kSET (takP 1 s.next).2=x:=⟨_,rfl⟩
  rw[ad]at f E f3
  rw[hX]at f E b
  clear hX ad
  have y:Hid (listP (asgP ex) p=listGo (asgP ex) (p.r.length+1) [((asgP ex) p).1] ((asgP ex) p).2):=rfl
  have V:=list_len D p
  have ag:=fwd_list D p
  have ac:=D p
  obtain⟨Rv,I⟩:∃R,listP (asgP ex) p=R:=⟨_,rfl⟩
  rw[I]at y V ag
  have aS:=hid I
  clear I
  obtain⟨⟨⟨cl,ia,⟨⟨op,tb,nm,ix,vk,vi,vt⟩,ks⟩⟩,s5⟩,b⟩:∃x,(asgP ex) p=x:=⟨_,rfl⟩
  rw[b]at y ac
  simp only at y ac
  replace E:=(E.row0 (α:=Asg) w.heap.size 82 10).imp (Ψ:=fun u=> (True)∧Els gX 10 ([]:List (Asg)) [] u) fun u h=>⟨h,Els.nil⟩
  go_upto_region 22 with fail
  go_cut [] from 59 to 65 (fun wx=> ∃(g:OA) (c':Nat) (G:LV),En 77 P A c L w0 w wx s5 [ow w.heap.size 82 10 (.slice g [(⟨cl,ia,⟨⟨op,tb,nm,ix,vk,vi,vt⟩,ks⟩⟩:Asg)].length c') [(⟨cl,ia,⟨⟨op,tb,nm,ix,vk,vi,vt⟩,ks⟩⟩:Asg)].length G,bk gs 40 (lC 3 X nl (.slice g [(⟨cl,ia,⟨⟨op,tb,nm,ix,vk,vi,vt⟩,ks⟩⟩:Asg)].length c') zE ⟨#[]⟩),bk J 40 zS] (fun u=> (True)∧Els gX 10 [(⟨cl,ia,⟨⟨op,tb,nm,ix,vk,vi,vt⟩,ks⟩⟩:Asg)] G u))
  case first=>
   have z1:=(E.get (j:=1) rfl).cell_some (i:=7) rfl
   replace E:=hid (E.ext (Ext.refl _).drew)
   have z2:=(E.get (j:=1) rfl).cell_some (i:=7) rfl
   go_region_law (first
    |(refine E.aps (⟨cl,ia,⟨⟨op,tb,nm,ix,vk,vi,vt⟩,ks⟩⟩:Asg) ap_asg (j:=0) rfl rfl rfl rfl rfl rfl rfl (by simp[Value.oneCell']) (by first|omega|simp) fun l' g c' u H E=>?_;have z9:=(E.get (j:=1) rfl).cell_some (i:=7) rfl;have y9:=(E.get (j:=1) rfl).frozen 7;replace E:=hid E)
    |(go_simp;(go_at_call 70;have C:=j5 hr (by omega) E.ps e;rw[b]at C;simp only[Ex.d,Nd.cells]at C;(with_reducible refine C.mono ?_);rintro _ u3 ⟨v,rfl,W,Y,B,k,c1,rfl,J,g3⟩;replace E:=hid (E.calls W Y g3);clear W Y C);have z3:=(E.get (j:=1) rfl).cell_some (i:=7) rfl;have z4:=fun o=> (x10 u3 o).keep z3))
   all_goals
    replace E:=E.set (j:=1) rfl 7 (.slice g l'.length c')
    go_wp2_with fail
    go_meet
    obtain rfl:=H.out
    exact⟨_,_,_,E.imp fun u h=>⟨h.1.1,Els.snoc h.1.2 rfl ⟨B,k,c1,rfl,⟨Nat.le_trans J.1 (by omega),J.2⟩,h.2⟩⟩⟩
  case rest=>
   obtain⟨A1,c1,G,E⟩:=hcut
   generalize wc=wv at*
   clear b
   go_wp2_with fail
   go_loopw [67] (fun _ wr=>Hid (∃(m:Nat) (st:Ps) (l:List (Asg)) (G:LV) (g:OA) (c':Nat),st.r.length<m∧l.length+st.r.length≤p.r.length+1∧Rv=listGo (asgP ex) m l st∧En 77 P A c L w0 w wr st [ow w.heap.size 82 10 (.slice g l.length c') l.length G,bk gs 40 (lC 3 X nl (.slice g l.length c') zE ⟨#[]⟩),bk J 40 zS] (fun u=> (True)∧Els gX 10 l G u))) (fun _ wr=>20001-posO P wr)
   case atStart=>exact hid ⟨_,s5,_,G,A1,c1,by omega,by show 1+_≤_;omega,y,E⟩
   case round=>
    clear E
    obtain⟨m,st,l,G,A1,c1,hm,a1,hI,E⟩:=hrel.out
    obtain⟨m,rfl⟩:∃x,m=x+1:=⟨m-1,by omega⟩
    rw[listGo]at hI
    have K:=hid hI
    have an:=hid E.ps.posO
    have a0:=E.ps.le
    clear hI
    go_wp2_with (first|(go_at_call 66;refine E.rtk e yCm rfl (fun hb u E=>?_) (fun hb u E=>?_))|(go_at_call 71;refine E.rdx (rM hr (by omega) E.ps e) fun B2 k2 c2 u E=>?_)|(refine E.sm (j:=1) rfl rfl rfl rfl rfl (by first|exact cA rfl|exact cS rfl|exact cI rfl|exact cL rfl|exact cB rfl) (by kernel_rfl) (by kernel_rfl) (by kernel_rfl) fun u E=>?_)|(refine E.lw (j:=1) (ty:=40) rfl rfl rfl rfl (by kernel_rfl) ?_)|(refine E.sw (j:=2) (ty:=40) rfl rfl rfl rfl rfl rfl (by kernel_rfl) (by kernel_rfl) rfl fun u E=>?_))
    ·rw[hb,if_pos rfl]at K
     have a2:=au hb
     have F:=D st.next
     obtain⟨⟨⟨cl,ia,⟨⟨op,tb,nm,ix,vk,vi,vt⟩,ks⟩⟩,s6⟩,b⟩:∃x,(asgP ex) st.next=x:=⟨_,rfl⟩
     rw[b]at K F
     simp only at K F
     have z1:=(E.get (j:=1) rfl).cell_some (i:=7) rfl
     replace E:=hid (E.ext (Ext.refl _).drew)
     have z2:=(E.get (j:=1) rfl).cell_some (i:=7) rfl
     go_region_law (first
      |(refine E.aps (⟨cl,ia,⟨⟨op,tb,nm,ix,vk,vi,vt⟩,ks⟩⟩:Asg) ap_asg (j:=0) rfl rfl rfl rfl rfl rfl rfl (by simp[Value.oneCell']) (by first|omega|simp) fun l' g c' u H E=>?_;have z9:=(E.get (j:=1) rfl).cell_some (i:=7) rfl;have y9:=(E.get (j:=1) rfl).frozen 7;replace E:=hid E)
      |(go_simp;(go_at_call 70;have C:=j5 hr (by omega) E.ps e;rw[b]at C;simp only[Ex.d,Nd.cells]at C;(with_reducible refine C.mono ?_);rintro _ u3 ⟨v,rfl,W,Y,B,k,c1,rfl,J,g3⟩;replace E:=hid (E.calls W Y g3);clear W Y C);have z3:=(E.get (j:=1) rfl).cell_some (i:=7) rfl;have z4:=fun o=> (x10 u3 o).keep z3))
     all_goals
      replace E:=E.set (j:=1) rfl 7 (.slice g l'.length c')
      go_wp2_with fail
      have ax:=E.ps.posO
      go_roundw
      case rel=>
       first|refine⟨_,_,_,_,_,_,_,_,_,?_,rfl⟩|skip
       exact hid ⟨m,s6,l',_,g,c',by omega,by rw[H.out];simp;omega,by rw[H.out];exact K,E.imp fun u h=>⟨h.1.1,H.out ▸ Els.snoc h.1.2 rfl ⟨B,k,c1,rfl,⟨Nat.le_trans J.1 (by omega),J.2⟩,h.2⟩⟩⟩
      case measure=>rw[ax,an.out];omega
    ·rw[hb,if_neg (by simp)]at K
     obtain rfl:Rv=(l,st):=K.out
     replace E:=E.give.imp (Ψ:=fun u=> (True∧Lst gX 10 u A1 l)∧ExV u (whrP ex st).1 B2 k2 c2) fun u h=>⟨⟨trivial,h.1.1.2.lst' h.2⟩,h.1.2⟩
     rw[f.out,aS.out]
     exact E.fi (j:=1) rfl rfl rfl rfl (by kernel_rfl) ⟨fb none A1 B2 0 _ k2 0 c1 c2,rfl,E.keep.imp fun u h=>StW.of (lK (by unfold I64;omega) b (Nat.zero_le _) (Nat.zero_le _) (by have:l.length≤_:=V;show l.length≤_;omega) cN h.1.2 h.2) rfl rfl⟩
 ·rw[O,if_neg (by simp),U,if_neg (by simp),Z,if_neg (by simp),h3,if_pos rfl]at f
  have H:=au h3
  have f1:=aA kFROM s.next
  have f2:=fwd_tak 1 (needP kFROM s.next)
  go_wp2_with (first|(go_at_call 45;refine E.rnd e kFROM rfl fun u E=>?_)|(go_at_call 67;refine E.rnm e fun u b E=>?_;replace b:=hid b)|(go_at_call 71;refine E.rdx (rM hr (by omega) E.ps e) fun B2 k2 c2 u E=>?_)|(refine E.sm (j:=0) rfl rfl rfl rfl rfl (by first|exact cA rfl|exact cS rfl|exact cI rfl|exact cL rfl|exact cB rfl) (by kernel_rfl) (by kernel_rfl) (by kernel_rfl) fun u E=>?_)|(refine E.lw (j:=0) (ty:=40) rfl rfl rfl rfl (by kernel_rfl) ?_)|(refine E.sw (j:=1) (ty:=40) rfl rfl rfl rfl rfl rfl (by kernel_rfl) (by kernel_rfl) rfl fun u E=>?_))
  rw[f.out]
  exact E.fi (j:=1) rfl rfl rfl rfl (by kernel_rfl) ⟨fb none none B2 0 0 k2 0 0 c2,rfl,E.keep.imp fun u h=>StW.of (lK (by unfold I64;omega) b (Nat.zero_le _) (Nat.zero_le _) (Nat.zero_le _) cN cN h.2) rfl rfl⟩
 ·rw[O,if_neg (by simp),U,if_neg (by simp),Z,if_neg (by simp),h3,if_neg (by simp),h4,if_pos rfl]at f
  have H:=au h4
  go_wp2_with (first|(go_at_call 72;refine E.els (rquery_rd hr Q (by omega) a3 E.ps e) fun a u E=>?_)|(refine E.sw (j:=0) (ty:=40) rfl rfl rfl rfl rfl rfl (by kernel_rfl) (by kernel_rfl) (by rfl) fun u E=>?_)|(refine E.lw (j:=0) (ty:=40) rfl rfl rfl rfl (by kernel_rfl) ?_)|(refine E.sw (j:=1) (ty:=40) rfl rfl rfl rfl rfl rfl (by kernel_rfl) (by kernel_rfl) (by rfl) fun u E=>?_))
  rw[f.out]
  exact E.fi (j:=1) rfl rfl rfl rfl (by kernel_rfl) ⟨a,rfl,E.keep.imp fun u h=>h.2⟩
 ·rw[O,if_neg (by simp),U,if_neg (by simp),Z,if_neg (by simp),h3,if_neg (by simp),h4,if_neg (by simp),h5,if_pos rfl]at f
  rw[f.out]
  exact E.fi (j:=1) rfl rfl rfl rfl (by kernel_rfl) ⟨fb none none none 0 0 0 0 0 0,rfl,E.keep.imp fun u _=>StW.of (dD (by unfold I64;omega) (Nat.zero_le _) (Nat.zero_le _)) rfl rfl⟩
 ·rw[O,if_neg (by simp),U,if_neg (by simp),Z,if_neg (by simp),h3,if_neg (by simp),h4,if_neg (by simp),h5,if_neg (by simp),h6,if_pos rfl]at f
  rw[f.out]
  exact E.fi (j:=1) rfl rfl rfl rfl (by kernel_rfl) ⟨fb none none none 0 0 0 0 0 0,rfl,E.keep.imp fun u _=>StW.of (dD (by unfold I64;omega) (Nat.zero_le _) (Nat.zero_le _)) rfl rfl⟩
 ·rw[O,if_neg (by simp),U,if_neg (by simp),Z,if_neg (by simp),h3,if_neg (by simp),h4,if_neg (by simp),h5,if_neg (by simp),h6,if_neg (by simp),h7,if_pos rfl]at f
  rw[ht,if_pos rfl]at f
  go_wp2_with (first|(go_at_call 67;refine E.rnm e fun u b E=>?_;replace b:=hid b)|(refine E.sm (j:=0) rfl rfl rfl rfl rfl (by first|exact cA rfl|exact cS rfl|exact cI rfl|exact cL rfl|exact cB rfl) (by kernel_rfl) (by kernel_rfl) (by kernel_rfl) fun u E=>?_)|(refine E.lw (j:=0) (ty:=40) rfl rfl rfl rfl (by kernel_rfl) ?_)|(refine E.sw (j:=1) (ty:=40) rfl rfl rfl rfl rfl rfl (by kernel_rfl) (by kernel_rfl) rfl fun u E=>?_))
  rw[f.out]
  exact E.fi (j:=1) rfl rfl rfl rfl (by kernel_rfl) ⟨fb none none none 0 0 0 0 0 0,rfl,E.keep.imp fun u _=>StW.of (dD (by unfold I64;omega) (Nat.zero_le _) b) rfl rfl⟩
 ·rw[O,if_neg (by simp),U,if_neg (by simp),Z,if_neg (by simp),h3,if_neg (by simp),h4,if_neg (by simp),h5,if_neg (by simp),h6,if_neg (by simp),h7,if_pos rfl]at f
  rw[ht,if_neg (by simp)]at f
  rw[f.out]
  exact E.fi (j:=1) rfl rfl rfl rfl (by kernel_rfl) ⟨fb none none none 0 0 0 0 0 0,rfl,E.keep.imp fun u _=>StW.of (dD (by unfold I64;omega) (Nat.zero_le _) (Nat.zero_le _)) rfl rfl⟩
 ·rw[O,if_neg (by simp),U,if_neg (by simp),Z,if_neg (by simp),h3,if_neg (by simp),h4,if_neg (by simp),h5,if_neg (by simp),h6,if_neg (by simp),h7,if_neg (by simp),h8,if_pos rfl]at f
  go_wp2_with (first|(go_at_call 67;refine E.rnm e fun u b E=>?_;replace b:=hid b)|(refine E.sm (j:=0) rfl rfl rfl rfl rfl (by first|exact cA rfl|exact cS rfl|exact cI rfl|exact cL rfl|exact cB rfl) (by kernel_rfl) (by kernel_rfl) (by kernel_rfl) fun u E=>?_)|(refine E.lw (j:=0) (ty:=40) rfl rfl rfl rfl (by kernel_rfl) ?_)|(refine E.sw (j:=1) (ty:=40) rfl rfl rfl rfl rfl rfl (by kernel_rfl) (by kernel_rfl) rfl fun u E=>?_))
  rw[f.out]
  exact E.fi (j:=1) rfl rfl rfl rfl (by kernel_rfl) ⟨fb none none none 0 0 0 0 0 0,rfl,E.keep.imp fun u _=>StW.of (dD (by unfold I64;omega) (Nat.zero_le _) b) rfl rfl⟩
 ·rw[O,if_neg (by simp),U,if_neg (by simp),Z,if_neg (by simp),h3,if_neg (by simp),h4,if_neg (by simp),h5,if_neg (by simp),h6,if_neg (by simp),h7,if_neg (by simp),h8,if_neg (by simp)]at f
  go_wp2_with (first|(go_at_call 45;refine E.rnd e eG rfl fun u E=>?_)|(go_at_call 67;refine E.rnm e fun u b E=>?_;replace b:=hid b)|(refine E.sm (j:=0) rfl rfl rfl rfl rfl (by first|exact cA rfl|exact cS rfl|exact cI rfl|exact cL rfl|exact cB rfl) (by kernel_rfl) (by kernel_rfl) (by kernel_rfl) fun u E=>?_)|(refine E.lw (j:=0) (ty:=40) rfl rfl rfl rfl (by kernel_rfl) ?_)|(refine E.sw (j:=1) (ty:=40) rfl rfl rfl rfl rfl rfl (by kernel_rfl) (by kernel_rfl) rfl fun u E=>?_))
  rw[f.out]
  exact E.fi (j:=1) rfl rfl rfl rfl (by kernel_rfl) ⟨fb none none none 0 0 0 0 0 0,rfl,E.keep.imp fun u _=>StW.of (dD (by unfold I64;omega) (Nat.zero_le _) b) rfl rfl⟩
end
end
end Go.Proofs.YtjigcpfjhfoheaaGreatDoor
