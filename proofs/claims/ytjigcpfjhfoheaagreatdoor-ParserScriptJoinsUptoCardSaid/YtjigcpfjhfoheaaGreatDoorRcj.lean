/- Walk: an item of a SELECT list; Walk: a SELECT statement; What Statement, Expression and Script return; Walk: awake; The wrap of a row that lists variables, the world's shape kept; what the library's variables hold; The wrap of an. -/
import Derived.Test.YtjigcpfjhfoheaaGreatDoorRch
import Derived.Test.YtjigcpfjhfoheaaGreatDoorRcg
import Derived.Test.YtjigcpfjhfoheaaGreatDoorRcf
import Derived.Test.YtjigcpfjhfoheaaGreatDoorRci
import Derived.Test.YtjigcpfjhfoheaaGreatDoorRce
import Derived.Test.YtjigcpfjhfoheaaGreatDoorRca
import Derived.Test.YtjigcpfjhfoheaaGreatDoorRbh
import Derived.Test.YtjigcpfjhfoheaaGreatDoorRah
import Derived.Handed
import Derived.SizedLaws
import Derived.Shelf.Vars
import Derived.Stop.LaidErr
import Derived.Lib.LaidTab
import Derived.LaidMore
import Derived.Stop.Joined
import Derived.MakeChecks
import Derived.Test.YtjigcpfjhfoheaaGreatDoorRows
import Derived.Deep.DeepHandedRow
import Derived.LaidLaws
import Derived.JoinedCond
namespace Go.Proofs.YtjigcpfjhfoheaaGreatDoor
open Go.RowKit
set_option maxHeartbeats 4000000
set_option maxRecDepth 100000
set_option linter.unusedVariables false
set_option linter.unusedSimpArgs false
section
open Lx (Tk)
section
variable {P c:Nat} {A:Option Addr} {L:List Tk} {w0 w:World} {s:Ps}
theorem item_rd {n:Nat} {ex:M Ex} (O:Rdr 68 P A c L w0 n 39 ex) (hn:s.r.length<n) (hp:PsAt 68 P A c L w0 w s) (e:TkL L):
  Calls Tryz.prog 103 #[.pointer (some ⟨P,0,none⟩)] w (Ran 68 P A c L w0 w (fX ex s).2 fun v w'=>ElG gE 9 w.heap.size w' (fX ex s).1 v):=by
 have b:Hid (fX ex s=match (firstP opsAgg s).1 with|some o=> (if o=2 then ifM dH (aA (aU yRp) fun _=>aY ⟨1,exZ⟩) (itm1 ex o)else itm1 ex o) (needP yLp (firstP opsAgg s).2)|none=> (⟨0,(ex s).1⟩,(ex s).2)):=rfl
 obtain⟨R,Z⟩:∃R,fX ex s=R:=⟨_,rfl⟩
 rw[Z]at b ⊢
 have E:=En.start hp
 clear Z hp
 go_enter Tryz.func103,Tryz.ntmps103
 go_wp2_with (refine E.al rfl _ rfl rfl (cs:=(.int .i64 0::zE)) (t:=84) (by kernel_rfl) fun g0 u E=>?_)
 generalize D:World.alloc _ _=w2
 replace E:=hid (ma (cs:=symCs opsAgg) E D)
 obtain⟨gs,m⟩:∃x,u.heap.size=x:=⟨_,rfl⟩
 rw[m]at E ⊢
 clear D m
 go_loopw [4,12] (fun _ Q wr=> ∃k:Nat,k≤4∧Q= .int .i64 k∧firstP opsAgg s=firstP (opsAgg.drop k) s∧En 68 P A c L w0 w wr s [bk gs 120 (symCs opsAgg),bk g0 84 (.int .i64 0::zE)] (fun _=>True)) (fun _ Q _=>4- (intOf Q).toNat)
 case atStart=>exact⟨0,by omega,rfl,rfl,E⟩
 case round=>
  clear E
  obtain⟨k,hk,rfl,a,E⟩:=hrel
  replace E:=hid E
  generalize wr=V at*
  by_cases z:k<4
  ·obtain⟨⟨t,q⟩,I⟩:∃x,opsAgg[k]? =some x:=⟨_,List.getElem?_eq_getElem (by show k<4;exact z)⟩
   have f:opsAgg.drop k=(t,q)::opsAgg.drop (k+1):=by
    obtain⟨h1,h2⟩:=List.getElem?_eq_some_iff.1 I
    rw[List.drop_eq_getElem_cons h1,h2]
   rw[f,firstP]at a
   have W:Hid (I64 q∧(q=2∨¬q=2)):=by
    have J:∀x∈opsAgg,I64 x.2:=by unfold I64;decide
    exact⟨J _ (List.mem_of_getElem? I),by omega⟩
   obtain⟨X,Y⟩:=gU opsAgg k (t,q) I
   have s0:=(E.get (j:=0) rfl).cell_some X
   have U:=(E.get (j:=0) rfl).cell_some Y
   have i0:(0:Int)≤(k:Int):=by omega
   have i1:(k:Int)<4:=by omega
   clear f I X Y
   replace a:=hid a
   go_upto_region 4 with fail
   generalize D:World.alloc _ _=an
   replace E:=ma (cs:= [.string t,.int .i64 q]) E D
   obtain⟨gy,p⟩:∃x,V.heap.size=x:=⟨_,rfl⟩
   rw[p]at E ⊢
   clear D p s0 U
   go_wp2_with (first|(refine E.l1 (j:=0) rfl rfl rfl rfl rfl (by kernel_rfl) ?_)|(go_at_call 53;refine E.tk e t rfl (fun G u E=>?_) (fun G u E=>?_)))
   ·have l:firstP opsAgg s=(some q,s.next):=by rw[a.out,if_pos G]
    rw[l]at b
    have ac:=ay G
    clear a l
    have ad:=aF yLp s.next
    rcases W.out.2 with rfl|hq
    ·go_wp2_with (first|(refine E.lw (j:=0) (ty:=84) rfl rfl rfl rfl (by kernel_rfl) ?_)|(refine E.l1 (j:=0) rfl rfl rfl rfl rfl (by kernel_rfl) ?_)|(refine E.l1 (j:=1) rfl rfl rfl rfl rfl (by kernel_rfl) ?_)|(go_at_call 44;refine E.nd e yLp rfl rfl fun v u E=>?_)|(go_at_call 44;refine E.nd e yRp rfl rfl fun v u E=>?_)|(refine E.al rfl _ rfl rfl (cs:=(.int .i64 0::zE)) (t:=84) (by kernel_rfl) fun g u E=>?_)|(refine wpList_buildTo rfl 84 _ rfl _ rfl (.int .i64 2::zE).toArray (by kernel_rfl) ?_)|(go_at_call 53;refine E.tk e dH rfl (fun hs u E=>?_) (fun hs u E=>?_))|(go_at_call 39;refine E.rd O (by first|omega|(have:=ay hs;omega)) fun y F B k c1 u C E=>?_)|(refine E.sw (j:=0) (ty:=84) rfl rfl rfl rfl rfl rfl (by kernel_rfl) (by kernel_rfl) rfl fun u E=>?_)|(refine E.sw (j:=3) (ty:=84) rfl rfl rfl rfl rfl rfl (by kernel_rfl) (by kernel_rfl) rfl fun u E=>?_)|(refine E.sm (j:=0) rfl rfl rfl rfl rfl (by first|exact cA rfl|exact cS rfl|exact cI rfl|exact cL rfl|exact cB rfl) (by kernel_rfl) (by kernel_rfl) (by kernel_rfl) fun u E=>?_))
     ·obtain rfl:R=(⟨1,exZ⟩,needP yRp (needP yLp s.next).next):=by rw[b.out];simp only[ifM,hs,aA,aU,aY,if_true]
      exact E.outG (j:=3) rfl rfl rfl rfl (by kernel_rfl) (by kernel_rfl) (by kernel_rfl) fun u h=>⟨none,0,0,by kernel_rfl,i64_1,fL u⟩
     ·obtain rfl:R=(⟨2,y⟩,needP yRp F):=by rw[b.out];simp only[ifM,hs,itm1,aA,aU,aY,if_true,Bool.false_eq_true,if_false,C]
      exact E.outG (j:=3) rfl rfl rfl rfl (by kernel_rfl) (by kernel_rfl) (by kernel_rfl) fun u h=>⟨B,k,c1,by kernel_rfl,i64_2,h.2⟩
    ·have ag:(q==2)=false:=by simpa using hq
     have HQ:=hid hq
     clear hq
     go_wp2_with (first|(refine E.lw (j:=0) (ty:=84) rfl rfl rfl rfl (by kernel_rfl) ?_)|(refine E.l1 (j:=0) rfl rfl rfl rfl rfl (by kernel_rfl) ?_)|(refine E.l1 (j:=1) rfl rfl rfl rfl rfl (by kernel_rfl) ?_)|(go_at_call 44;refine E.nd e yLp rfl rfl fun v u E=>?_)|(go_at_call 44;refine E.nd e yRp rfl rfl fun v u E=>?_)|(refine E.al rfl _ rfl rfl (cs:=(.int .i64 0::zE)) (t:=84) (by kernel_rfl) fun g u E=>?_)|(refine wpList_buildTo rfl 84 _ rfl _ rfl (.int .i64 q::zE).toArray (by kernel_rfl) ?_)|(go_at_call 53;refine E.tk e dH rfl (fun hs u E=>?_) (fun hs u E=>?_))|(go_at_call 39;refine E.rd O (by first|omega|(have:=ay hs;omega)) fun y F B k c1 u C E=>?_)|(refine E.sw (j:=0) (ty:=84) rfl rfl rfl rfl rfl rfl (by kernel_rfl) (by kernel_rfl) rfl fun u E=>?_)|(refine E.sw (j:=3) (ty:=84) rfl rfl rfl rfl rfl rfl (by kernel_rfl) (by kernel_rfl) rfl fun u E=>?_)|(refine E.sm (j:=0) rfl rfl rfl rfl rfl (by first|exact cA rfl|exact cS rfl|exact cI rfl|exact cL rfl|exact cB rfl) (by kernel_rfl) (by kernel_rfl) (by kernel_rfl) fun u E=>?_))
     obtain rfl:R=(⟨q,y⟩,needP yRp F):=by rw[b.out];simp only[if_neg HQ.out,itm1,aA,aU,aY,C]
     exact E.outG (j:=3) rfl rfl rfl rfl (by kernel_rfl) (by kernel_rfl) (by kernel_rfl) fun u h=>⟨B,k,c1,by kernel_rfl,W.1,h.2⟩
   ·have K:firstP opsAgg s=firstP (opsAgg.drop (k+1)) s:=by rw[a.out,if_neg (by rw[G];simp)]
    exact⟨⟨k+1,by omega,by go_num,K,E.pop⟩,by simp[intOf];omega⟩
  ·obtain rfl:k=4:=by omega
   have i:firstP opsAgg s=(none,s):=a
   rw[i]at b
   clear i a z hk
   replace E:=E.out
   go_wp2_with (first|(go_at_call 39;refine E.rd O (by omega) fun y F B k c1 u C E=>?_)|(refine wpList_buildTo rfl 84 _ rfl _ rfl (.int .i64 0::y.d.cells B k c1).toArray (by kernel_rfl) ?_)|(refine E.sw (j:=1) (ty:=84) rfl rfl rfl rfl rfl rfl (by kernel_rfl) (by kernel_rfl) rfl fun u E=>?_))
   obtain rfl:R=(⟨0,y⟩,F):=by rw[b.out];simp only[C]
   exact E.outG (j:=1) rfl rfl rfl rfl (by kernel_rfl) (by kernel_rfl) (by kernel_rfl) fun u h=>⟨B,k,c1,by kernel_rfl,ew,h.2⟩
end
end
section
open Lx (Tk)
abbrev qC (i f:Value) (W:List Value) (g r:Value) (l:Int):List Value:= .int .i64 5:: .string ⟨#[]⟩::nl::nl::nl::nl::nl::nl::i::f::(W++ [g,r,.int .i64 l,.string ⟨#[]⟩])
abbrev QV (n0 gv g0:Nat) (xs:List Ex) (vx:Value) (xx:List Value) (fs:List Src) (vf:Value) (xf:List Value) (cs:List Value):List Vb:= [ow n0 37 8 vx xs.length xx,ow n0 86 2 vf fs.length xf,bk gv 40 cs,bk g0 40 zS]
abbrev QP (B:Option Addr) (I:List Itm) (xs:List Ex) (xx:List Value) (fs:List Src) (xf:List Value) (u:World):Prop:=Lst gE 9 u B I∧Els Phisrc 2 fs xf u∧Els Phiex 8 xs xx u
theorem Els.ex {e:List Ex} {f:List Value} {w:World} {j:Nat} {y:Ex} (h:Els Phiex 8 e f w) (l:e[j]? =some y):∃B k c,(∀(i:Nat) (v:Value),(y.d.cells B k c)[i]? =some v→f[j*8+i]? =some v)∧∀u,Els Phiex 8 e f u→ExV u y B k c:=by
 obtain⟨_,p,⟨B,k,c,rfl,r⟩,g⟩:=h.get l
 refine⟨B,k,c,g,fun u n=>?_⟩
 obtain⟨_,m,⟨o,t,c',rfl,b⟩,a⟩:=n.get l
 cases (g 7 _ rfl).symm.trans (a 7 _ rfl)
 exact b
theorem fwd_src:Fwd srcP:=ar (fwd_tak 1) fun _=>cF _ (ar (fwd_tak 1) fun _=>aH _) (aH _)
theorem isS_kd {t:ByteArray} {s:Ps} (h:isS t s=true):s.hd.kind≠0:=by
 simp[isS]at h
 omega
section
variable {P c:Nat} {A:Option Addr} {L:List Tk} {w0 w:World} {s:Ps}
theorem En.isk {f:World} {V:List Vb} {Φ:World→Prop} {Q:Ending→World→Prop} {x:Array Value} {b:Bool} (E:En 68 P A c L w0 f w s V Φ) (g:TkL L) (t:ByteArray) (a:x= #[.pointer (some ⟨P,0,none⟩),.string t]) (i:isS t s=b) (k:∀w',En 68 P A c L w0 f w' s V Φ→Q (.returned (.bool b)) w'):Calls Tryz.prog 98 x w Q:=
 a ▸ (is_any E.ps g t).mono fun e w' ⟨h,a⟩=>by rw[h,i];exact k w' (E.ext a)
theorem query_rd {n:Nat} {ex:M Ex} (hr:Rdr 68 P A c L w0 n 39 ex) (ag:Fwd ex) (hn:s.r.length<n) (hE:Er w0) (hp:PsAt 68 P A c L w0 w s) (C:TkL L):
  Calls Tryz.prog 61 #[.pointer (some ⟨P,0,none⟩)] w (Ran 68 P A c L w0 w (queryP ex posP andL s).2 fun v w'=>ElSt w.heap.size w' (queryP ex posP andL s).1 v):=by
 have E:=En.start hp
 have dw:=C.len
 have d3:=hp.le
 clear hp
 go_enter Tryz.func61,Tryz.ntmps61
 go_upto_region 1 with (refine E.al rfl _ rfl rfl (cs:=zS) (t:=40) (by kernel_rfl) fun g0 u E=>?_)
 go_upto_if 11 with (first|(refine E.al rfl _ rfl rfl (cs:=zS) (t:=40) (by kernel_rfl) fun gv u E=>?_)|(refine wpList_buildTo rfl 40 _ rfl _ rfl (qC nl nl zE nl nl 0).toArray (by kernel_rfl) ?_)|(refine E.sw (j:=0) (ty:=40) rfl rfl rfl rfl rfl rfl (by kernel_rfl) (by kernel_rfl) rfl fun u E=>?_)|(go_at_call 53;refine E.tkb C dH rfl fun u E=>?_))
 obtain⟨q,U⟩:∃q,isS dH s=q:=⟨_,rfl⟩
 rw[U]
 have J:=hid U
 clear U
 go_cut [] from 12 to 16 (fun wx=> ∃(B:Option Addr) (k:Nat) (I:List Itm) (st:Ps),itmsP ex s=(I,st)∧I.length≤20001∧st.r.length≤s.r.length∧En 68 P A c L w0 w wx st ([bk gv 40 (qC (.slice B I.length k) nl zE nl nl 0),bk g0 40 zS]) (fun u=>Lst gE 9 u B I))
 case first=>
  cases q
  ·rw[show optP dH s=s by simp[optP,J.out]]at E
   have bd:Fwd (fX ex):=fwd_fst _ (fun o=>ar (aN _) fun _=>by split;exact cF _ (ar (aN _) fun _=>aH _) (ar ag fun _=>ar (aN _) fun _=>aH _);exact ar ag fun _=>ar (aN _) fun _=>aH _) (ar ag fun _=>aH _)
   have HL:=hid (And.intro (fwd_list bd s) (list_len bd s))
   go_wp2_with (first|(refine E.ls (list_itm 103 (fun _ _=>rfl) (fX ex) bd E.ps C fun W st h hs=>item_rd hr (by omega) h C) fun B k u hk E=>?_)|(refine E.sm (j:=0) rfl rfl rfl rfl rfl (by first|exact cA rfl|exact cS rfl|exact cI rfl|exact cL rfl|exact cB rfl) (by kernel_rfl) (by kernel_rfl) (by kernel_rfl) fun u E=>?_))
   go_meet
   exact⟨B,k,_,_,by unfold itmsP ifM;rw[J.out];rfl,by have:=HL.2;omega,HL.1,E.imp fun u h=>h.2⟩
  ·rw[show optP dH s=s.next by simp[optP,J.out]]at E
   go_wp2_with fail
   go_meet
   exact⟨none,0,[],s.next,by unfold itmsP ifM;rw[J.out];rfl,by simp,next_len s,E.imp fun u _ i a h=>by cases h⟩
 case rest=>
  obtain⟨B,k,I,s1,b4,b5,ds,E⟩:=hcut
  have HI:=hid (And.intro b4 b5)
  clear b4 b5
  generalize wc=d6 at*
  have c3:=aF kFROM s1
  go_upto_region 5 with (go_at_call 44;refine E.nd C kFROM rfl rfl fun v u E=>?_)
  obtain⟨s2,a2⟩:∃x,needP kFROM s1=x:=⟨_,rfl⟩
  rw[a2]at E c3
  replace E:=(E.row0 (α:=Src) w.heap.size 86 2).row0 (α:=Ex) w.heap.size 37 8
  replace E:=E.imp (Ψ:=QP B I [] [] [] []) fun u h=>⟨h,Els.nil,Els.nil⟩
  have cv:=hid a2
  clear a2
  obtain⟨⟨sr,s3⟩,K⟩:∃x,srcP s2=x:=⟨_,rfl⟩
  have F:=fwd_src s2
  rw[K]at F
  simp only at F
  have cx:([]:List Src).length≤20001:=by first|omega|simp
  go_cut [] from 20 to 25 (fun wx=> ∃(R:List Src) (A2:Option Addr) (c2:Nat),R= []++ [sr]∧En 68 P A c L w0 w wx s3 (QV w.heap.size gv g0 ([]:List Ex) nl [] R (.slice A2 R.length c2) ([]++ [.string sr.tb,.string sr.al]) (qC (.slice B I.length k) (.slice A2 R.length c2) zE nl nl 0)) (fun u=>QP B I ([]:List Ex) [] R ([]++ [.string sr.tb,.string sr.al]) u))
  case first=>
   have z1:=(E.get (j:=2) rfl).cell_some (i:=9) rfl
   replace E:=hid (E.ext (Ext.refl _).drew)
   have z2:=(E.get (j:=2) rfl).cell_some (i:=9) rfl
   go_region_law (first
    |(refine E.aps sr ap_src (j:=1) rfl rfl rfl rfl rfl rfl rfl (by simp[Value.oneCell']) (by omega) fun l' A' c' u hl E=>?_;have z9:=(E.get (j:=2) rfl).cell_some (i:=9) rfl;have y9:=(E.get (j:=2) rfl).frozen 9;replace E:=hid E)
    |(go_simp;go_at_call 104;have hc:=nC E.ps C;rw[K]at hc;(with_reducible refine hc.mono ?_);rintro _ u3 ⟨v,rfl,g1,g2,rfl,g3⟩;replace E:=hid (E.call g1 g2);have HK:=hid g3;clear g1 g2 g3 hc;have z3:=(E.get (j:=2) rfl).cell_some (i:=9) rfl;have z4:=fun o=> ((Ext.refl u3).alloc o).keep z3))
   all_goals
    replace E:=E.set (j:=2) rfl 9 (.slice A' l'.length c')
    go_wp2_with fail
    go_meet
    exact⟨l',A',c',hl,E.imp fun u h=>⟨h.1,by rw[hl.out];exact Els.snoc h.2.1 rfl ⟨rfl,HK⟩,h.2.2⟩⟩
  case rest=>
   obtain⟨f1,Q,V,a9,E⟩:=hcut
   generalize wc=d7 at*
   obtain⟨FR,a7⟩:∃x,fromP ex s2=x:=⟨_,rfl⟩
   have bf:Hid (fromGo ex (s2.r.length+1) f1 [] s3=FR):=by
    unfold Hid
    rw[←a7,from_eq,K,a9]
    rfl
   have b0:f1.length=1:=by rw[a9];rfl
   have HF:=hid a7
   clear a7 a9 K
   go_wp2_with fail
   go_loopw [4] (fun xv wr=> ∃(m:Nat) (p:List Src) (Z:List Ex) (st:Ps) (Q:Option Addr) (V:Nat) (Ax:Option Addr) (kx:Nat) (xx xf:List Value),xv= .slice Ax Z.length kx∧fromGo ex m p Z st=FR∧st.r.length<m∧st.r.length≤s2.r.length∧p.length+st.r.length≤s2.r.length+1∧Z.length+st.r.length≤s2.r.length+1∧En 68 P A c L w0 w wr st (QV w.heap.size gv g0 Z (.slice Ax Z.length kx) xx p (.slice Q p.length V) xf (qC (.slice B I.length k) (.slice Q p.length V) zE nl nl 0)) (fun u=>QP B I Z xx p xf u)) (fun _ wr=>20001-posOf P wr)
   case atStart=>exact⟨_,f1,[],s3,Q,V,none,0,[],_,rfl,bf,by omega,F,by omega,by simp only[List.length_nil];omega,E⟩
   case round=>
    clear E bf F b0
    obtain⟨m,p,Z,st,Q,V,Ax,kx,xx,xf,rfl,z,hm,c7,c6,c8,E⟩:=hrel
    generalize wr=d8 at*
    have a4:=hid E.ps.posOf
    have bm:=hid (And.intro E.ps.le E.ps.ne)
    have a2:s2.r.length≤20000:=by omega
    by_cases a8:isS yCm st=false∧isS ia st=false
    rotate_left
    ·obtain⟨m,rfl⟩:∃x,m=x+1:=⟨m-1,by omega⟩
     obtain⟨b,a1,ac⟩:∃b,isS ia st=b∧isS yCm st=!b:=by
      cases h1:isS yCm st
      ·refine⟨true,?_,rfl⟩
       cases h2:isS ia st
       ·exact absurd ⟨h1,h2⟩ a8
       ·rfl
      ·exact⟨false,not_both h1,rfl⟩
     have d0:st.next.r.length+1=st.r.length:=by cases b<;>first|exact ay a1|exact ay ac
     have cH:st.hd.kind≠0:=by cases b<;>first|exact isS_kd a1|exact isS_kd ac
     rw[kq]at z
     clear a8
     have d2:((L.length-st.r.length:Nat):Int)≤20000:=by omega
     cases b
     all_goals
      simp only[Bool.not_true,Bool.not_false]at ac
      go_upto_region 10 with (first|(go_at_call 98;refine E.isk C yCm rfl ac fun u E=>?_;have p1:=E.ps.blk.cell_some (i:=1) rfl;have f1:=E.ps.blk.frozen 1)|(go_at_call 98;refine E.isk C ia rfl a1 fun u E=>?_;have p1:=E.ps.blk.cell_some (i:=1) rfl;have f1:=E.ps.blk.frozen 1))
      replace E:=E.next C cH
      generalize World.setCell _ ⟨P,1,none⟩ _=d9 at*
      obtain⟨⟨sr,s3⟩,K⟩:∃x,srcP st.next=x:=⟨_,rfl⟩
      have F:=fwd_src st.next
      rw[K]at F
      simp only at F
      have cx:(p:List Src).length≤20001:=by first|omega|simp
      go_cut [] from 42 to 47 (fun wx=> ∃(R:List Src) (A2:Option Addr) (c2:Nat),R=p++ [sr]∧En 68 P A c L w0 w wx s3 (QV w.heap.size gv g0 Z (.slice Ax Z.length kx) xx R (.slice A2 R.length c2) (xf++ [.string sr.tb,.string sr.al]) (qC (.slice B I.length k) (.slice A2 R.length c2) zE nl nl 0)) (fun u=>QP B I Z xx R (xf++ [.string sr.tb,.string sr.al]) u))
      case first=>
       have z1:=(E.get (j:=2) rfl).cell_some (i:=9) rfl
       replace E:=hid (E.ext (Ext.refl _).drew)
       have z2:=(E.get (j:=2) rfl).cell_some (i:=9) rfl
       go_region_law (first
        |(refine E.aps sr ap_src (j:=1) rfl rfl rfl rfl rfl rfl rfl (by simp[Value.oneCell']) (by omega) fun l' A' c' u hl E=>?_;have z9:=(E.get (j:=2) rfl).cell_some (i:=9) rfl;have y9:=(E.get (j:=2) rfl).frozen 9;replace E:=hid E)
        |(go_simp;go_at_call 104;have hc:=nC E.ps C;rw[K]at hc;(with_reducible refine hc.mono ?_);rintro _ u3 ⟨v,rfl,g1,g2,rfl,g3⟩;replace E:=hid (E.call g1 g2);have HK:=hid g3;clear g1 g2 g3 hc;have z3:=(E.get (j:=2) rfl).cell_some (i:=9) rfl;have z4:=fun o=> ((Ext.refl u3).alloc o).keep z3))
       all_goals
        replace E:=E.set (j:=2) rfl 9 (.slice A' l'.length c')
        go_wp2_with fail
        go_meet
        exact⟨l',A',c',hl,E.imp fun u h=>⟨h.1,by rw[hl.out];exact Els.snoc h.2.1 rfl ⟨rfl,HK⟩,h.2.2⟩⟩
      case rest=>
       obtain⟨R,A2,c2,ba,E⟩:=hcut
       generalize wc=eb at*
       have c5:R.length=p.length+1:=by rw[ba,List.length_append];rfl
       have d1:=aF kON s3
       have ad:=ag (needP kON s3)
       have ax:=hid (And.intro ba K)
       clear ba K
       go_wp2_with (first|(go_at_call 44;refine E.nd C kON rfl rfl fun v u E=>?_)|(go_at_call 39;refine E.rd hr (by omega) fun y a3 B' k' a5 u hm E=>?_)|(refine bs1 rfl rfl _ _ _ _ rfl ?_)|(at_builtin;refine E.ap y ap_ex (j:=0) rfl rfl rfl rfl rfl rfl rfl (by simp[Nd.cells,Value.oneCell']) (by omega) fun l' A' c' u hl E=>?_))
       have bn:=E.ps.posOf
       have df:=bm.out
       first
        |(rw[if_pos ac,ax.out.2]at z;simp only at z;rw[←ax.out.1]at z;exact⟨⟨m,R,Z,s3,A2,c2,Ax,kx,xx,_,rfl,z,by omega,by omega,by omega,by omega,E⟩,by rw[bn,a4.out];omega⟩)
        |(rw[if_neg (by rw[ac];simp),if_pos a1,ax.out.2]at z;simp only at z;rw[←ax.out.1,hm]at z;have c0:=congrArg List.length hl;rw[hm]at ad;simp only at ad;simp only[List.length_append,List.length_singleton]at c0;rw[←hl.out]at z;exact⟨⟨m,R,l',a3,A2,c2,A',c',_,_,rfl,z,by omega,by omega,by omega,by omega,E.imp fun u h=>⟨h.1.1,h.1.2.1,by rw[hl.out];exact Els.snoc h.1.2.2 rfl ⟨B',k',a5,rfl,h.2⟩⟩⟩,by rw[bn,a4.out];omega⟩)
    ·obtain⟨cd,ci⟩:=a8
     obtain⟨m,rfl⟩:∃x,m=x+1:=⟨m-1,by omega⟩
     rw[kq,if_neg (by rw[cd];simp),if_neg (by rw[ci];simp)]at z
     have HG:=hid z
     clear z a4 bm
     have b1:p.length≤20001:=by have:=E.ps.ne;omega
     go_upto_if 59 with (first|(go_at_call 98;refine E.isk C yCm rfl cd fun u E=>?_;have p1:=E.ps.blk.cell_some (i:=1) rfl;have f1:=E.ps.blk.frozen 1)|(go_at_call 98;refine E.isk C ia rfl ci fun u E=>?_;have p1:=E.ps.blk.cell_some (i:=1) rfl;have f1:=E.ps.blk.frozen 1)|(go_at_call 53;refine E.tkb C fU rfl fun u E=>?_))
     obtain⟨q,U⟩:∃q,isS fU st=q:=⟨_,rfl⟩
     rw[U]
     have J:=hid U
     clear U
     go_cut [4] from 60 to 64 (fun xv wx=> ∃(f:List Ex) (sw:Ps) (Ay:Option Addr) (ky:Nat) (yy:List Value),xv= .slice Ay f.length ky∧fM ex andL Z st=(andL f,sw)∧f.length≤20002∧sw.r.length≤st.r.length∧En 68 P A c L w0 w wx sw (QV w.heap.size gv g0 f (.slice Ay f.length ky) yy p (.slice Q p.length V) xf (qC (.slice B I.length k) (.slice Q p.length V) zE nl nl 0)) (fun u=>QP B I f yy p xf u))
     case first=>
      cases q
      ·rw[show optP fU st=st by simp[optP,J.out]]at E
       go_wp2_with fail
       go_meet
       exact⟨Z,st,Ax,kx,xx,rfl,by unfold fM ifM;rw[J.out];rfl,by omega,Nat.le_refl _,E⟩
      ·rw[show optP fU st=st.next by simp[optP,J.out]]at E
       have be:=next_len st
       have ad:=ag st.next
       go_wp2_with (first|(go_at_call 39;refine E.rd hr (by omega) fun y a3 B' k' a5 u hm E=>?_)|(refine bs1 rfl rfl _ _ _ _ rfl ?_)|(at_builtin;refine E.ap y ap_ex (j:=0) rfl rfl rfl rfl rfl rfl rfl (by simp[Nd.cells,Value.oneCell']) (by omega) fun l' A' c' u hl E=>?_))
       go_meet
       rw[hm]at ad
       exact⟨l',a3,A',c',_,rfl,by unfold fM ifM aA aY;rw[J.out,if_pos rfl,hm];show(andL (Z++ [y]),a3)=_;rw[hl.out],by rw[hl.out,List.length_append,List.length_singleton];omega,Nat.le_trans ad be,E.imp fun u h=>⟨h.1.1,h.1.2.1,by rw[hl.out];exact Els.snoc h.1.2.2 rfl ⟨B',k',a5,rfl,h.2⟩⟩⟩
     case rest=>
      obtain⟨f,sw,Ay,ky,yy,rfl,bY,d5,cc,E⟩:=hcut
      have ck:=hid (And.intro bY cc)
      clear bY J
      generalize wc=ee at*
      have zz:(0:Int)≤(f.length:Int):=by omega
      go_wp2_with fail
      go_loopw [67] (fun iv wr=> ∃(j:Nat) (Bw:Option Addr) (bw cw:Nat),j≤f.length∧iv= .int .i64 j∧En 68 P A c L w0 w wr sw (QV w.heap.size gv g0 f (.slice Ay f.length ky) yy p (.slice Q p.length V) xf (qC (.slice B I.length k) (.slice Q p.length V) ((andL (f.take j)).d.cells Bw bw cw) nl nl 0)) (fun u=>QP B I f yy p xf u∧ExV u (andL (f.take j)) Bw bw cw)) (fun i _=>f.length- (intOf i).toNat)
      case atStart=>exact⟨0,none,0,0,Nat.zero_le _,rfl,E.imp fun u h=>⟨h,fL u⟩⟩
      case round=>
       clear E
       obtain⟨j,Bw,bw,cw,hj,rfl,E⟩:=hrel
       generalize wr=el at*
       by_cases b6:j<f.length
       ·obtain⟨y,hy⟩:∃y,f[j]? =some y:=⟨_,List.getElem?_eq_getElem b6⟩
        obtain⟨B2,k2,c2,bN,cb⟩:=Els.ex E.stb.now.1.2.2 hy
        replace E:=E.imp fun u h=>And.intro h (cb u h.1.2.2)
        obtain⟨gy,rfl⟩:=oD (E.own (j:=0) rfl) (by omega)
        have bx:Hid (f.take (j+1)=f.take j++ [y]):=by
         unfold Hid
         rw[List.take_add_one,hy]
         rfl
        have i0:(0:Int)≤(j:Int):=by omega
        have i1:(j:Int)<(f.length:Int):=by omega
        have cj:=hid bN
        clear bN cb hy zz
        obtain⟨X,hX⟩:∃x,andL (f.take j)=x:=⟨_,rfl⟩
        rw[hX]at E
        have HX:=hid hX
        clear hX
        go_upto_region 19 with (first|(refine E.lr (y.d.cells B2 k2 c2) (j:=0) (ty:=37) rfl rfl rfl rfl cj (by kernel_rfl) ?_)|(refine E.al rfl _ rfl rfl (cs:=zE) (t:=37) (by kernel_rfl) fun g u E=>?_)|(refine E.sw (j:=0) (ty:=37) rfl rfl rfl rfl rfl rfl (by kernel_rfl) (by kernel_rfl) rfl fun u E=>?_))
        by_cases an:j=0
        ·have cz:((j:Int)==0)=true:=by simp;omega
         have HJ:=hid an
         clear an
         go_wp2_with (first|(refine E.lw (j:=0) (ty:=37) rfl rfl rfl rfl (by kernel_rfl) ?_)|(refine E.sm (j:=3) rfl rfl rfl rfl rfl (by first|exact cA rfl|exact cS rfl|exact cI rfl|exact cL rfl|exact cB rfl) (by kernel_rfl) (by kernel_rfl) (by kernel_rfl) fun u E=>?_))
         obtain rfl:=HJ.out
         have a6:andL (f.take (0+1))=y:=by rw[bx.out];rfl
         exact⟨⟨0+1,B2,k2,c2,by omega,by go_num,by rw[a6];exact E.pop.imp fun u h=>⟨h.1.1,h.2⟩⟩,by simp[intOf];omega⟩
        ·have cz:((j:Int)==0)=false:=by simp;omega
         have HJ:=hid an
         clear an
         go_wp2_with (first|(refine E.lm (X.d.cells Bw bw cw) (j:=3) (ty:=37) rfl rfl rfl rfl rfl (by kernel_rfl) ?_)|(refine E.lw (j:=0) (ty:=37) rfl rfl rfl rfl (by kernel_rfl) ?_)|(refine bs2 rfl rfl _ _ _ _ _ _ _ _ rfl rfl ?_)|(go_at_call 105;refine E.o2 rfl rfl (fun u h=>⟨h.1.2,h.2⟩) (by unfold I64;omega) fun D u E=>?_)|(refine E.sm (j:=3) rfl rfl rfl rfl rfl (by first|exact cA rfl|exact cS rfl|exact cI rfl|exact cL rfl|exact cB rfl) (by kernel_rfl) (by kernel_rfl) (by kernel_rfl) fun u E=>?_))
         have a6:andL (f.take (j+1))=opE 18 [X,y]:=by rw[bx.out,andL_snoc (by have an:=HJ.out;intro h;have:=congrArg List.length h;rw[List.length_take]at this;simp only[List.length_nil]at this;omega),HX.out]
         exact⟨⟨j+1,D,2,2,by omega,by go_num,by rw[a6];exact E.pop.imp fun u h=>⟨h.1.1.1,h.2⟩⟩,by simp[intOf];omega⟩
       ·obtain rfl:j=f.length:=by omega
        rw[List.take_length]at E
        clear b6 hj zz
        obtain⟨X,hX⟩:∃x,andL f=x:=⟨_,rfl⟩
        rw[hX]at E
        have HX:=hid hX
        clear hX
        have d4:sw.r.length≤20000:=by have:=E.ps.le;omega
        go_upto_if 84 with (go_at_call 53;refine E.tkb C jE rfl fun u E=>?_)
        obtain⟨q,U⟩:∃q,isS jE sw=q:=⟨_,rfl⟩
        rw[U]
        have J:=hid U
        clear U
        go_cut [] from 85 to 92 (fun wx=> ∃(Bg:Option Addr) (kg:Nat) (G:List Ex) (Y:Ps),grpP sw=(G,Y)∧G.length≤20001∧Y.r.length≤sw.r.length∧En 68 P A c L w0 w wx Y (QV w.heap.size gv g0 f (.slice Ay f.length ky) yy p (.slice Q p.length V) xf (qC (.slice B I.length k) (.slice Q p.length V) (X.d.cells Bw bw cw) (.slice Bg G.length kg) nl 0)) (fun u=> (QP B I f yy p xf u∧ExV u X Bw bw cw)∧Lst Phiex 8 u Bg G))
        case first=>
         cases q
         ·rw[show optP jE sw=sw by simp[optP,J.out]]at E
          go_wp2_with fail
          go_meet
          exact⟨none,0,[],sw,by unfold grpP ifM;rw[J.out];rfl,by simp,Nat.le_refl _,E.imp fun u h=>⟨h,fun i a h=>by cases h⟩⟩
         ·rw[show optP jE sw=sw.next by simp[optP,J.out]]at E
          have be:=next_len sw
          have c1:=aF kBY sw.next
          have HL:=hid (And.intro (fwd_list fwd_col (needP kBY sw.next)) (list_len fwd_col (needP kBY sw.next)))
          go_wp2_with (first|(go_at_call 44;refine E.nd C kBY rfl rfl fun v u E=>?_)|(refine E.ls (list_ex 106 (fun _ _=>rfl) eS fwd_col E.ps C fun W st h hs=> (mb h C).mono fun e w' ⟨v,h0,h1,h2,h3⟩=>⟨v,h0,h1,h2,elg_ex h3⟩) fun Bg kg u hk E=>?_)|(refine E.sm (j:=2) rfl rfl rfl rfl rfl (by first|exact cA rfl|exact cS rfl|exact cI rfl|exact cL rfl|exact cB rfl) (by kernel_rfl) (by kernel_rfl) (by kernel_rfl) fun u E=>?_))
          go_meet
          have h9:=HL.out
          exact⟨Bg,kg,_,_,by unfold grpP ifM aA aU;rw[J.out];rfl,by omega,by omega,E⟩
        case rest=>
         obtain⟨Bg,kg,G,Y,b2,b3,dx,E⟩:=hcut
         have cl:=hid b2
         clear b2 J
         generalize wc=es at*
         go_upto_if 94 with (go_at_call 53;refine E.tkb C jF rfl fun u E=>?_)
         obtain⟨q,U⟩:∃q,isS jF Y=q:=⟨_,rfl⟩
         rw[U]
         have J:=hid U
         clear U
         go_cut [] from 95 to 102 (fun wx=> ∃(Bo:Option Addr) (ko:Nat) (O:List Ord') (so:Ps),fW posP Y=(O,so)∧O.length≤20001∧En 68 P A c L w0 w wx so (QV w.heap.size gv g0 f (.slice Ay f.length ky) yy p (.slice Q p.length V) xf (qC (.slice B I.length k) (.slice Q p.length V) (X.d.cells Bw bw cw) (.slice Bg G.length kg) (.slice Bo O.length ko) 0)) (fun u=> ((QP B I f yy p xf u∧ExV u X Bw bw cw)∧Lst Phiex 8 u Bg G)∧Lst iN 2 u Bo O))
         case first=>
          cases q
          ·rw[show optP jF Y=Y by simp[optP,J.out]]at E
           go_wp2_with fail
           go_meet
           exact⟨none,0,[],Y,by unfold fW ifM;rw[J.out];rfl,by simp,E.imp fun u h=>⟨h,fun i a h=>by cases h⟩⟩
          ·rw[show optP jF Y=Y.next by simp[optP,J.out]]at E
           have be:=next_len Y
           have c1:=aF kBY Y.next
           have HL:=hid (list_len qe (needP kBY Y.next))
           go_wp2_with (first|(go_at_call 44;refine E.nd C kBY rfl rfl fun v u E=>?_)|(refine E.ls (list_ord 108 (fun _ _=>rfl) (hU posP) qe E.ps C fun W st h hs=>order_rd hE h C) fun Bo ko u hk E=>?_)|(refine E.sm (j:=2) rfl rfl rfl rfl rfl (by first|exact cA rfl|exact cS rfl|exact cI rfl|exact cL rfl|exact cB rfl) (by kernel_rfl) (by kernel_rfl) (by kernel_rfl) fun u E=>?_))
           go_meet
           have h9:=HL.out
           exact⟨Bo,ko,_,_,by unfold fW ifM aA aU;rw[J.out];rfl,by omega,E⟩
         case rest=>
          obtain⟨Bo,ko,O,so,b7,b9,E⟩:=hcut
          have cp:=hid b7
          clear b7 J
          generalize wc=e0 at*
          have c9:=HI.2
          have a0:∀(l:Int) (s6:Ps),limP posP so=(l,s6)→queryP ex posP andL s=(qS I p X G O l,s6):=fun l s6 h=>query_of HI.1 (by rw[cv.out,HF.out,←HG.out]) (by rw[ck.out.1,HX.out]) cl cp h
          replace a0:=hid a0
          go_wp2_with (first|(go_at_call 53;refine E.tk C kLIMIT rfl (fun hb u E=>?_) (fun hb u E=>?_))|(go_at_call 109;have c4:=hid (pos_le E.ps C);refine E.run (jB E.ps C hE) fun v u hv E=>?_;subst hv)|(refine E.sm (j:=2) rfl rfl rfl rfl rfl (by first|exact cA rfl|exact cS rfl|exact cI rfl|exact cL rfl|exact cB rfl) (by kernel_rfl) (by kernel_rfl) (by kernel_rfl) fun u E=>?_)|(refine E.lw (j:=2) (ty:=40) rfl rfl rfl rfl (by kernel_rfl) ?_)|(refine E.sw (j:=3) (ty:=40) rfl rfl rfl rfl rfl rfl (by kernel_rfl) (by kernel_rfl) rfl fun u E=>?_))
          ·rw[a0.out _ _ (show limP posP so=((posP so.next).1,(posP so.next).2) by unfold limP ifM;rw[if_pos hb])]
           exact E.fi (j:=3) rfl rfl rfl rfl (by kernel_rfl) ⟨⟨⟨none,0,0⟩,⟨none,0,0⟩,⟨none,0,0⟩,⟨none,0,0⟩,⟨none,0,0⟩,⟨none,0,0⟩,⟨B,I.length,k⟩,⟨Q,p.length,V⟩,⟨Bw,bw,cw⟩,⟨Bg,G.length,kg⟩,⟨Bo,O.length,ko⟩⟩,rfl,E.all2.imp fun u h=>StW.of (qf (by omega) b1 b3 b9 c4 h.1.1.1.1.1 (h.1.1.1.1.2.1.lst' (h.2 1 _ rfl)) h.1.1.1.2 h.1.1.2 h.1.2) rfl rfl⟩
          ·rw[a0.out _ _ (show limP posP so=(0,so) by unfold limP ifM;rw[if_neg (by rw[hb];simp)];rfl)]
           exact E.fi (j:=3) rfl rfl rfl rfl (by kernel_rfl) ⟨⟨⟨none,0,0⟩,⟨none,0,0⟩,⟨none,0,0⟩,⟨none,0,0⟩,⟨none,0,0⟩,⟨none,0,0⟩,⟨B,I.length,k⟩,⟨Q,p.length,V⟩,⟨Bw,bw,cw⟩,⟨Bg,G.length,kg⟩,⟨Bo,O.length,ko⟩⟩,rfl,E.all2.imp fun u h=>StW.of (qf (by omega) b1 b3 b9 ew h.1.1.1.1.1 (h.1.1.1.1.2.1.lst' (h.2 1 _ rfl)) h.1.1.1.2 h.1.1.2 h.1.2) rfl rfl⟩
end
end
section
open Lx (Tk)
theorem read_at {s:ByteArray} {L:List Tk} (h:Lx.tokAll s= .ok L) {st:Ps} (b:st.r=L.drop (L.length-st.r.length)) {n:Nat} (x:L.length<n) (j:(stmP n st).2.bad=false):
  (stmP n st).1.formed=true∧(stmP n st).1.all.length≤100000∧(largeB (stmP n st).1.all=false→(stmP n st).1.bulk≤100000):=by
 have m:=wsm_all h
 have l:wsm st.r≤wsm L:=by
  have e:wsm (L.take (L.length-st.r.length)++L.drop (L.length-st.r.length))=wsm L:=by rw[List.take_append_drop]
  rw[wsm_app,←b]at e
  omega
 have o:=lin_stmt (lh n) andL st
 have p:(stmP n st).1.cst≤65548:=by
  unfold stmP
  omega
 have f:st.r.length<n:=by
  rw[b,List.length_drop]
  omega
 have g:(stmP n st).1.formed=true:=((yld_stm n st ⟨f,fun a i=>gt_of h a (List.mem_of_mem_drop (b ▸ i))⟩).2 j).1
 refine⟨g,by have:=all_cst (stmP n st).1;omega,fun k=>?_⟩
 have t:=bulk_cst g
 have u:=eN k
 omega
structure Pg (w:World):Prop where
 gd:Gd w
 er:Er w
 kw:Lx.KwAt w
theorem Pg.ext {w w':World} (h:Pg w) (a:Ext w w'):Pg w':=⟨h.gd.ext a,oi h.er a,h.kw.ext a⟩
theorem mE {s:ByteArray} {L:List Tk} (h:Lx.tokAll s= .ok L) {st:Ps} (f:st.r=L.drop (L.length-st.r.length)) {n:Nat} (l:L.length<n) (i:(stmP n st).2.bad=false) {a:SA} {W:World} (j:Gd W) (b:StW W (stmP n st).1 a):
  Calls Tryz.prog 31 #[St.val (stmP n st).1 a] W fun r w'=>r= .returned (.int .i64 (validS (stmP n st).1))∧Ext W w':=by
 obtain⟨_,m,g⟩:=read_at h f l i
 cases e:largeB (stmP n st).1.all
 ·exact qK _ a W j b.1 b.2.1 b.2.2 (Nat.le_trans (g e) (by omega))
 ·refine(oj _ a W b.1 (by omega) e).mono fun r w' k=>⟨?_,k.2⟩
  unfold validS
  rw[if_pos e]
  exact k.1
theorem ent5_tup:gu 57:=fun args W=>rfl
theorem ent5_asg:gu 59:=fun args W=>rfl
section
variable {P c:Nat} {A:Option Addr} {L:List Tk} {w0 w:World} {s:Ps}
theorem stm_all {n:Nat} (g:Er w0) (a:TkL L) (l:s.r.length<n) (m:PsAt 68 P A c L w0 w s):
  Calls Tryz.prog 29 #[.pointer (some ⟨P,0,none⟩)] w (Ran 68 P A c L w0 w (stmP n s).2 fun v w'=>ElSt w.heap.size w' (stmP n s).1 v):=by
 have e:=my (P:=P) (A:=A) (c:=c) g a n
 have b:=cK n
 unfold stmP
 exact oJ e b l m a (fun _ W st h hs=>create_rd e b hs g h a) (fun _ W st h hs=>query_rd e b hs g h a)
  (fun _ W st h hs=>list_row _ ent5_tup _ (fwd_tup b) h a fun k j f i=>tuple_rd b e (by omega) f a)
  (fun _ W st h hs=>list_asg _ ent5_asg _ (oI b) h a fun k j f i=>mJ e (by omega) f a)
end
theorem eE (s:ByteArray) (w:World) (hs:s.size≤20000) (b:Pg w):
  Calls Tryz.prog 13 #[.string s] w fun e w'=>Ext w w'∧∃a,e= .returned (.tuple #[St.val (parS validS s).1 a,.int .i64 (parS validS s).2.1,.int .i64 (parS validS s).2.2])∧Stb (w.heap.size≤·) w' (fun u=>StW u (parS validS s).1 a):=
 oK validS s w hs b.kw (fun L P A c k W g f i=>stm_all (oi b.er g) (iC f) (Nat.lt_succ_self _) i)
  (fun L a W g f h j=>mE f (st:=⟨L,false⟩) (by simp) (Nat.lt_succ_self _) h (b.gd.ext g) j)
theorem fP (s:ByteArray) (w:World) (hs:s.size≤20000) (f:Pg w):
  Calls Tryz.prog 17 #[.string s] w fun e w'=>Ext w w'∧∃a b c1,e= .returned (.tuple #[Nd.val (parE validE s).1.d a b c1,.int .i64 (parE validE s).2.1,.int .i64 (parE validE s).2.2])∧Stb (w.heap.size≤·) w' (fun u=>ExV u (parE validE s).1 a b c1):=
 mL validE s w hs f.kw (fun L P A c k W g h i=>my (oi f.er g) (iC h) _ _ _ i (Nat.lt_succ_self _))
  (fun L a b c1 W g h l j=>valid_any _ a b c1 W j (f.gd.ext g).sh)
theorem qk (s:ByteArray) (w:World) (hs:s.size≤20000) (f:Pg w):
  Calls Tryz.prog 20 #[.string s] w fun e w'=>Ext w w'∧∃B k,e= .returned (.tuple #[.slice B (parL validS s).1.length k,.int .i64 (parL validS s).2.1,.int .i64 (parL validS s).2.2])∧(parL validS s).1.length≤20001∧Stb (w.heap.size≤·) w' (fun u=>Lst Phist 22 u B (parL validS s).1):=
 script_fn validS s w hs f.kw (fun L P A c W st g h=>stm_all f.er (iC g) (Nat.lt_succ_of_le h.le) h)
  (fun L st a W m g b j i l=>mE g b (Nat.lt_succ_self _) i (f.gd.ext m) l)
end
section
open Lx (Tk)
theorem mid8 {w:World} {g t:Nat} {n o p r u x y z B C a b e f i j k m:Value} {l:List Value} (h:Blk w g t ([n,o,p,r,u,x,y,z,B,C,a,b,e,f,i,j,k,m]++l)):w.cell? ⟨g,10,none⟩=some a∧w.cell? ⟨g,11,none⟩=some b∧w.cell? ⟨g,12,none⟩=some e∧w.cell? ⟨g,13,none⟩=some f∧w.cell? ⟨g,14,none⟩=some i∧w.cell? ⟨g,15,none⟩=some j∧w.cell? ⟨g,16,none⟩=some k∧w.cell? ⟨g,17,none⟩=some m∧
  w.frozen? ⟨g,10,none⟩=false∧w.frozen? ⟨g,11,none⟩=false∧w.frozen? ⟨g,12,none⟩=false∧w.frozen? ⟨g,13,none⟩=false∧w.frozen? ⟨g,14,none⟩=false∧w.frozen? ⟨g,15,none⟩=false∧w.frozen? ⟨g,16,none⟩=false∧w.frozen? ⟨g,17,none⟩=false:=
 ⟨h.cell_some rfl,h.cell_some rfl,h.cell_some rfl,h.cell_some rfl,h.cell_some rfl,h.cell_some rfl,h.cell_some rfl,h.cell_some rfl,h.frozen 10,h.frozen 11,h.frozen 12,h.frozen 13,h.frozen 14,h.frozen 15,h.frozen 16,h.frozen 17⟩
theorem awk_any (w:World) (hg:Pg w):Calls Tryz.prog 11 #[] w fun e w'=>e= .returned (.bool true)∧Ext w w':=by
 have O:=hid hg
 have l:=hid (Ext.refl w)
 have p:=hid (fun W h=>fP aw1 W (by decide) h)
 have r:=hid (fun W h=>fP aw4 W (by decide) h)
 have u:=hid (fun W h=>eE aw2 W (by decide) h)
 have x:=hid (fun W h=>eE aw3 W (by decide) h)
 have t:=hid (fun W h=>qk aw5 W (by decide) h)
 have a1:=aw_1
 have y:=aw_1t
 have a2:=aw_2
 have B:=aw_2t
 have z:=aw_2f
 have a3:=aw_3
 have a4:=aw_4
 have a5:=aw_5
 have C:=aw_5n
 generalize parE validE aw1=R1 at*
 generalize parE validE aw4=R4 at*
 generalize parS validS aw2=R2 at*
 generalize parS validS aw3=R3 at*
 generalize parL validS aw5=R5 at*
 obtain⟨U,r1⟩:=R1
 obtain⟨e4,r4⟩:=R4
 obtain⟨X,r2⟩:=R2
 obtain⟨s3,r3⟩:=R3
 obtain⟨l5,r5⟩:=R5
 simp only at a1 a2 a3 a4 a5 y B z C p r u x t
 subst a1 a2 a3 a4 a5
 simp only at p r u x t
 have HT:=hid y
 have Q:=hid B
 have Z:=hid z
 have ac:=hid C
 clear y B z C hg
 go_enter Tryz.func11,Tryz.ntmps11
 go_wp2_with fail
 refine(p w O).mono ?_
 rintro _ w1 ⟨a,R,V,c1,rfl,o⟩
 replace l:=hid (l.trans a)
 clear a
 have f:=hid o.now
 clear o p
 unfold Nd.val
 go_upto_region 2 with (first|(refine Great.wpList_allocTo rfl _ rfl (.pointer (some ⟨_,0,none⟩)) (.cells #[.int .i64 0,.string ⟨#[]⟩,.string ⟨#[]⟩,.int .i64 0,.int .i64 0,.int .i64 0,.string ⟨#[]⟩,.slice none 0 0] 37) (by kernel_rfl) ?_)|(refine stE' rfl rfl rfl (U.d.cells R V c1) rfl rfl (cs:=eZ) rfl rfl (by kernel_rfl) ?_))
 have a:=(Ext.refl w1).alloc (.cells ((U.d.cells R V c1)).toArray 37)
 have k:=hid (Blk.of_new w1 37 (U.d.cells R V c1))
 replace l:=hid (l.trans a)
 replace f:=hid (f.ext a)
 clear a
 generalize m:World.alloc _ _=w2
 obtain⟨g1,D⟩:∃g,w1.heap.size=g:=⟨_,rfl⟩
 rw[m,D]at k
 rw[m]at l f
 rw[D]
 clear m D
 go_wp2_with fail
 refine(u w2 (O.ext l)).mono ?_
 rintro _ w3 ⟨a,I,rfl,o⟩
 replace l:=hid (l.trans a)
 replace f:=hid (f.ext a)
 replace k:=hid (k.ext a)
 clear a
 have b:=hid o.now.1
 clear o u
 unfold St.val
 go_upto_region 3 with (first|(refine Great.wpList_allocTo rfl _ rfl (.pointer (some ⟨_,0,none⟩)) (.cells #[.int .i64 0,.string ⟨#[]⟩,.slice none 0 0,.slice none 0 0,.slice none 0 0,.slice none 0 0,.slice none 0 0,.slice none 0 0,.slice none 0 0,.slice none 0 0,.int .i64 0,.string ⟨#[]⟩,.string ⟨#[]⟩,.int .i64 0,.int .i64 0,.int .i64 0,.string ⟨#[]⟩,.slice none 0 0,.slice none 0 0,.slice none 0 0,.int .i64 0,.string ⟨#[]⟩] 40) (by kernel_rfl) ?_)|(refine stS' rfl rfl rfl (St.cells X I) rfl rfl (cs:=sC) rfl rfl (by kernel_rfl) ?_))
 have a:=(Ext.refl w3).alloc (.cells ((St.cells X I)).toArray 40)
 have j:=hid (Blk.of_new w3 40 (St.cells X I))
 replace l:=hid (l.trans a)
 replace f:=hid (f.ext a)
 replace k:=hid (k.ext a)
 replace b:=hid (b.ext a)
 clear a
 generalize m:World.alloc _ _=w4
 obtain⟨g2,E⟩:∃g,w3.heap.size=g:=⟨_,rfl⟩
 rw[m,E]at j
 rw[m]at l f k b
 rw[E]
 clear m E
 go_wp2_with fail
 refine(x w4 (O.ext l)).mono ?_
 rintro _ w5 ⟨a,b3,rfl,o⟩
 replace l:=hid (l.trans a)
 replace f:=hid (f.ext a)
 replace k:=hid (k.ext a)
 replace b:=hid (b.ext a)
 replace j:=hid (j.ext a)
 clear a
 clear o x
 unfold St.val
 go_upto_region 4 with (first|(refine Great.wpList_allocTo rfl _ rfl (.pointer (some ⟨_,0,none⟩)) (.cells #[.int .i64 0,.string ⟨#[]⟩,.slice none 0 0,.slice none 0 0,.slice none 0 0,.slice none 0 0,.slice none 0 0,.slice none 0 0,.slice none 0 0,.slice none 0 0,.int .i64 0,.string ⟨#[]⟩,.string ⟨#[]⟩,.int .i64 0,.int .i64 0,.int .i64 0,.string ⟨#[]⟩,.slice none 0 0,.slice none 0 0,.slice none 0 0,.int .i64 0,.string ⟨#[]⟩] 40) (by kernel_rfl) ?_)|(refine stS' rfl rfl rfl (St.cells s3 b3) rfl rfl (cs:=sC) rfl rfl (by kernel_rfl) ?_))
 have a:=(Ext.refl w5).alloc (.cells ((St.cells s3 b3)).toArray 40)
 have J:=hid (Blk.of_new w5 40 (St.cells s3 b3))
 replace l:=hid (l.trans a)
 replace f:=hid (f.ext a)
 replace k:=hid (k.ext a)
 replace b:=hid (b.ext a)
 replace j:=hid (j.ext a)
 clear a
 generalize m:World.alloc _ _=w6
 obtain⟨g3,F⟩:∃g,w5.heap.size=g:=⟨_,rfl⟩
 rw[m,F]at J
 rw[m]at l f k b j
 rw[F]
 clear m F
 go_wp2_with fail
 refine(r w6 (O.ext l)).mono ?_
 rintro _ w7 ⟨a,Y,k4,c4,rfl,o⟩
 replace l:=hid (l.trans a)
 replace f:=hid (f.ext a)
 replace k:=hid (k.ext a)
 replace b:=hid (b.ext a)
 replace j:=hid (j.ext a)
 clear a
 clear o r J
 unfold Nd.val
 go_upto_region 5 with (first|(refine Great.wpList_allocTo rfl _ rfl (.pointer (some ⟨_,0,none⟩)) (.cells #[.int .i64 0,.string ⟨#[]⟩,.string ⟨#[]⟩,.int .i64 0,.int .i64 0,.int .i64 0,.string ⟨#[]⟩,.slice none 0 0] 37) (by kernel_rfl) ?_)|(refine stE' rfl rfl rfl (e4.d.cells Y k4 c4) rfl rfl (cs:=eZ) rfl rfl (by kernel_rfl) ?_))
 have a:=(Ext.refl w7).alloc (.cells ((e4.d.cells Y k4 c4)).toArray 37)
 have K:=hid (Blk.of_new w7 37 (e4.d.cells Y k4 c4))
 replace l:=hid (l.trans a)
 replace f:=hid (f.ext a)
 replace k:=hid (k.ext a)
 replace b:=hid (b.ext a)
 replace j:=hid (j.ext a)
 clear a
 generalize m:World.alloc _ _=w8
 obtain⟨g4,G⟩:∃g,w7.heap.size=g:=⟨_,rfl⟩
 rw[m,G]at K
 rw[m]at l f k b j
 rw[G]
 clear m G
 clear K
 go_wp2_with (first|(refine ldE rfl rfl _ rfl k rfl ?_))
 refine(lE U R V c1 w8 f).mono ?_
 rintro _ w9 ⟨rfl,a⟩
 rw[HT.out]
 replace l:=hid (l.trans a)
 replace b:=hid (b.ext a)
 replace j:=hid (j.ext a)
 clear a f k HT
 obtain⟨z0,z1,z2,z3,z4,z5,z6,z7,_⟩:=mid8 j
 go_wp2_with fail
 refine(lE X.whr I.whr.A I.whr.n I.whr.c w9 b.whr).mono ?_
 rintro _ ad ⟨rfl,a⟩
 rw[Q.out]
 replace l:=hid (l.trans a)
 replace b:=hid (b.ext a)
 replace j:=hid (j.ext a)
 clear a Q z0 z1 z2 z3 z4 z5 z6 z7
 go_wp2_with fail
 refine(t ad (O.ext l)).mono ?_
 rintro _ ag ⟨a,B5,k5,rfl,_,o⟩
 replace l:=hid (l.trans a)
 replace b:=hid (b.ext a)
 replace j:=hid (j.ext a)
 clear a
 clear o t
 rw[ac.out]
 have z9:=j.cell_some (i:=9) rfl
 have hn:=b.frm.1
 rw[Z.out]at hn
 unfold Sl.v at z9
 rw[←hn]at z9
 clear hn
 go_wp2_with fail
 go_ret
 exact⟨rfl,l⟩
end
section
open Go Go.RowKit Go.Stop
section
variable {H:Type} {enc:TypeId×Value→H}
theorem handed_and {a:Assume} {C:Checked} {os:Os} {f:FuncId} {m:Func} {s:ChangeSpec} {k:List PathCond} {apart o h n:Bool} {X:World→Array Value→Prop}
  (Q:∀(w w':World) (args:Array Value),w.heap=w'.heap→X w args→X w' args)
  (own:ownKnob C.prog.godebug=none) (p:os.Started) (x:C.prog.inits.idxOf? f=none) (F:C.prog.funcs[f]? =some m)
  (r:∃(w:World) (b:Tape) (i:Input),w.os=os∧(w.forCall b i).Shaped C.prog∧i.vars= []∧Input.okWide C.prog (w.forCall b i) .any w.heap.size f i∧
   ((s.pre enc C.prog m k apart (w.forCall b i).memory i.args∧X (w.forCall b i).memory i.args)∧sizedMet enc C.prog m (OpenSpec.ofChange s) apart (w.forCall b i).memory i.args)∧a.holds C.prog (lone (Frame.enter C.prog f i.args .normal) [] (w.forCall b i)))
  (l:∀(W:World) (base:Nat) (args:Array Value) (ds y:List (DataW H)) (g:List MemPlace),
   (∀(j:Nat) t v,m.params[j]? =some t→args[j]? =some v→Value.okWide C.prog W .any base t v)→
   DataW.Whole enc C.prog m.params.toList s.vars apart W args.toList ds y g→
   k.all (PathCond.test C.prog ⟨m.params.toList,ds,s.plain.varTypes C.prog,y⟩)=true→
   (DataW.weightsEach C.prog (m.params.toList++s.plain.varTypes C.prog) (ds++y)).all (·≤reachBytes)=true→X W args→W.ShapedOpen C.prog→
   a.holds C.prog (lone (Frame.enter C.prog f args .normal) [] W)→
   Calls C.prog f args W fun e K=> ∃v,e= .returned v∧s.post enc C.prog m apart o h n W args v K):
  ReturnsInHanded a C os f .any (fun w args=> (s.pre enc C.prog m k apart w args∧X w args)∧sizedMet enc C.prog m (OpenSpec.ofChange s) apart w args) (s.post enc C.prog m apart o h n):=by
 refine returnsInHanded_of_calls own p x r ?_
 intro w b i _ I _ G B u
 obtain⟨_,_,_,E,z,_,_,_,_,D⟩:=G
 have e:E=m:=Option.some.inj (z.symm.trans F)
 subst e
 obtain⟨⟨⟨ds,y,g,O,R⟩,Y⟩,Z⟩:=B
 have J:=DataW.Whole.of_heap (w':=w.forCall b i) (by rfl) O
 refine(l (w.forCall b i) w.heap.size i.args ds y g D J R (Z.weights O) (Q _ _ _ (by rfl) Y) I u).mono fun e K ⟨v,U,V⟩=>?_
 subst U
 exact ChangeSpec.post_blind V
end
theorem sh_of {W:World} (h:W.ShapedOpen Tryz.prog):Sh W:=
 cell_of_shapedOpen_int (g:=1) (t:=3) (zero:=#[.int .i64 0]) h (by decide) (by kernel_rfl) rfl (by kernel_rfl) (by kernel_rfl) Tryz.underlying3
theorem tyTab:(Tryz.prog.globals[4]?).map (·.type)=some 256:=by kernel_rfl
theorem gSyn:Tryz.prog.globalNamed "strconv.ErrSyntax" =some 2:=by kernel_rfl
theorem gRng:Tryz.prog.globalNamed "strconv.ErrRange" =some 3:=by kernel_rfl
theorem tySyn:(Tryz.prog.globals[2]?).map (·.type)=some 198:=by kernel_rfl
theorem tyRng:(Tryz.prog.globals[3]?).map (·.type)=some 198:=by kernel_rfl
theorem starE: "*" ++ "errors.errorString" = "*errors.errorString" :=by decide
theorem rowE (u:TypeId) (h:Tryz.prog.typeName? 3 u=some "*errors.errorString"):u=260:=
 typeName_ptr_named (nm:= "errors.errorString") (by rw[starE];kernel_rfl) (by kernel_rfl) (by decide) u (by rw[starE];exact h)
theorem nE {j k l:String×DataW Unit} {r:List (String×DataW Unit)} {W:World}
  (h:laidMet Tryz.prog (j::k::("internal/strconv.uint64pow10",Rows.laid_internal_strconv_uint64pow10)::l::("strconv.ErrRange",Rows.laid_strconv_ErrRange)::("strconv.ErrSyntax",Rows.laid_strconv_ErrSyntax)::r) W):Tab W∧Er W:=by
 have f:=h.tail.tail
 have g:=f.tail.tail
 have i:=g.tail
 have a:Lib.TabIs Tryz.prog W "internal/strconv.uint64pow10" .u64 Lib.pow10Tab:=Lib.tabIs_of_head gTab tyTab Tryz.underlying256 Tryz.underlying232 (by kernel_rfl) (by kernel_rfl) f
 obtain⟨n,p,e,_,_,_⟩:=laid_sentinel g gRng tyRng Tryz.underlying198 rowE Tryz.underlying260 Tryz.underlying262 rfl rfl Tryz.underlying9 (by kernel_rfl) (by kernel_rfl)
 obtain⟨m,o,b,_,_,_⟩:=laid_sentinel i gSyn tySyn Tryz.underlying198 rowE Tryz.underlying260 Tryz.underlying262 rfl rfl Tryz.underlying9 (by kernel_rfl) (by kernel_rfl)
 refine⟨⟨a,?_⟩,⟨260,_,by simpa using World.var?_cell gSyn b 0⟩,⟨260,_,by simpa using World.var?_cell gRng e 0⟩⟩
 have:=iO (a.cell gTab 0 (by decide))
 exact this
theorem gKw:Tryz.prog.globalNamed "disjoint/lexer.keywords" =some 0:=by kernel_rfl
theorem tyKw:(Tryz.prog.globals[0]?).map (·.type)=some 101:=by kernel_rfl
def kwData {H:Type} :List (DataW H):=Lx.kwNames.map fun l=> .lit (.string l)
theorem kwData_eq {H:Type} :(Rows.laid_disjoint_lexer_keywords:DataW H)= .slice kwData []:=rfl
theorem spot_none {w:World} {a:Addr} {v:Value} (h:w.cell? a=some v):a.spot=none:=by
 unfold World.cell? at h
 split at h
 ·split at h
  ·cases h
  ·rename_i hs
   cases b:a.spot
   ·rfl
   ·rw[b]at hs;simp at hs
 ·cases h
theorem kw_of {R:String×DataW Unit} {r:List (String×DataW Unit)} {W:World} (h:laidMet Tryz.prog (R::("disjoint/lexer.keywords",Rows.laid_disjoint_lexer_keywords)::r) W):Lx.KwAt W:=by
 obtain⟨ps,⟨U,X,cs,C,p,q,o,z,k,hd,_,_⟩,_⟩:=h.tail
 obtain rfl:=Option.some.inj (gKw.symm.trans o)
 obtain rfl:=Option.some.inj (tyKw.symm.trans z)
 rw[kwData_eq]at hd
 obtain⟨a,g,l,_,m⟩:=open_row Tryz.underlying101 (by kernel_rfl) hd
 have O:((kwData:List (DataW Unit))).length=47:=rfl
 have e:∀j,j<47→W.cell? (a.add j)=some (.string (Lx.kwStr j)):=by
  intro j t
  have u:(kwData:List (DataW Unit))[j]? =some (.lit (.string (Lx.kwAt j))):=by
   unfold kwData Lx.kwAt
   rw[List.getElem?_map,List.getD_eq_getElem?_getD,List.getElem?_eq_getElem (show j<Lx.kwNames.length from t)]
   rfl
  obtain⟨v,n,V,K,Q⟩:=m j _ u
  obtain⟨s,B,E,_⟩:=DataW.trod_string Tryz.underlying9 Q
  simp only[List.cons.injEq,and_true]at B
  subst B
  rw[K]
  have F:s.data.toList=Lx.kwAt j:=by
   have:=congrArg Prod.fst E
   simp only[DataW.lit.injEq,Lit.string.injEq]at this
   exact this.symm
  congr 2
  unfold Lx.kwStr
  rw[←F]
 obtain⟨b,f,D⟩:=a
 have y:D=none:=by
  have G:=e 0 (by decide)
  have:=spot_none G
  unfold Addr.add at this
  cases D with
  |none=>rfl
  |some x=>simp at this
 subst y
 refine⟨b,f,g,?_,fun j t=>?_⟩
 ·have I:=World.var?_cell gKw k 0
  rw[I]
  have J:cs= #[Value.slice (some ⟨b,f,none⟩) 47 g]:=by
   apply Array.toList_inj.1
   rw[l,O]
  rw[J]
  rfl
 ·have:=e j t
  have i:(⟨b,f,none⟩:Addr).add j=⟨b,f+j,none⟩:=by unfold Addr.add;split<;>simp_all
  rwa [i]at this
theorem gd_of {b e f:String×DataW Unit} {r:List (String×DataW Unit)} {W:World} (h:laidMetH Tryz.prog (b::e::("internal/strconv.uint64pow10",Rows.laid_internal_strconv_uint64pow10)::f::("strconv.ErrRange",Rows.laid_strconv_ErrRange)::("strconv.ErrSyntax",Rows.laid_strconv_ErrSyntax)::("disjoint/lexer.keywords",Rows.laid_disjoint_lexer_keywords)::r) W)
  (g:laidMetH Tryz.prog (b::e::("internal/strconv.uint64pow10",Rows.laid_internal_strconv_uint64pow10)::f::("strconv.ErrRange",Rows.laid_strconv_ErrRange)::("strconv.ErrSyntax",Rows.laid_strconv_ErrSyntax)::("disjoint/lexer.keywords",Rows.laid_disjoint_lexer_keywords)::r) W=laidMet Tryz.prog (b::e::("internal/strconv.uint64pow10",Rows.laid_internal_strconv_uint64pow10)::f::("strconv.ErrRange",Rows.laid_strconv_ErrRange)::("strconv.ErrSyntax",Rows.laid_strconv_ErrSyntax)::("disjoint/lexer.keywords",Rows.laid_disjoint_lexer_keywords)::r) W) (hs:W.ShapedOpen Tryz.prog):Pg W:=by
 have a:=g ▸ h
 exact⟨⟨sh_of hs,(nE a).1⟩,(nE a).2,kw_of a.tail.tail.tail.tail.tail⟩
end
section
open Go Go.RowKit
section
variable {H:Type} {enc:TypeId×Value→H}
theorem witness_upto {C:Checked} {m:Os} {f:FuncId} {l:Func} {s:OpenSpec} {b:List PathCond} {apart:Bool} {e:List (String×DataW Unit)} (w0:World) (args:Array Value) (j:w0.os=m)
  (k:(w0.forCall (fun _ _=>0) ⟨#[],args,[]⟩).Shaped C.prog)
  (g:Input.okWideB C.prog (w0.forCall (fun _ _=>0) ⟨#[],args,[]⟩) f ⟨#[],args,[]⟩=true)
  (h:s.preRow enc C.prog l b apart e (w0.forCall (fun _ _=>0) ⟨#[],args,[]⟩).memory args):
  ∃(w:World) (a:Tape) (i:Input),w.os=m∧(w.forCall a i).Shaped C.prog∧i.vars= []∧Input.okWide C.prog (w.forCall a i) .any w.heap.size f i∧
   s.preRow enc C.prog l b apart e (w.forCall a i).memory i.args∧({} :Assume).holds C.prog (lone (Frame.enter C.prog f i.args .normal) [] (w.forCall a i)):=
 ⟨w0,fun _ _=>0,⟨#[],args,[]⟩,j,k,(Input.okWide_of_okWideB (base:=0) g).1,(Input.okWide_of_okWideB g).2,h,by
  simp only[Assume.holds]
  exact⟨by simp,by simp,fun _=>Modest.zero,by simp,by simp⟩⟩
theorem preRow_of_test {P:Program} {f:Func} {s:OpenSpec} {a:List PathCond} {apart:Bool} {e:List (String×DataW Unit)} {w:World} {args:Array Value} (b:Nat) (k:(H:Type)→List (DataW H)→Bool) (m:s.cond=some k)
  (i:(DataW.whole enc P w f.params.toList s.vars apart args.toList b).any (fun x=>a.all (PathCond.test P ⟨f.params.toList,x.1,s.bare.plain.varTypes P,x.2.1⟩) &&k H (x.1++x.2.1))=true)
  (j:s.bare.sizedB enc P f apart w args b=true) (n:laidMetH P e w):s.preRow enc P f a apart e w args:=by
 cases l:DataW.whole enc P w f.params.toList s.vars apart args.toList b with
 |none=>rw[l]at i;cases i
 |some x=>
  rw[l]at i
  have h:a.all (PathCond.test P ⟨f.params.toList,x.1,s.bare.plain.varTypes P,x.2.1⟩)=true∧k H (x.1++x.2.1)=true:=by simpa using i
  exact OpenSpec.preRow_of_cond b l h.1 (fun o g=>by rw[m]at g;cases g;exact h.2) j n
end
end
end Go.Proofs.YtjigcpfjhfoheaaGreatDoor
