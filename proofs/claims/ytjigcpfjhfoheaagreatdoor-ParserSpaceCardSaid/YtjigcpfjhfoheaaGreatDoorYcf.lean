/- Walk: an element of a definition. -/
import Derived.Test.YtjigcpfjhfoheaaGreatDoorYce
namespace Go.Proofs.YtjigcpfjhfoheaaGreatDoor
open Go.RowKit
set_option maxHeartbeats 16000000
set_option maxRecDepth 100000
set_option linter.unusedVariables false
set_option linter.unusedSimpArgs false
section
open Lx (Tk)
theorem eF:(Tryz.prog.info? 99).map (fun i=> (i.zero,i.size,i.bytes))=some (some (.agg #[.string ⟨#[]⟩,.int .i64 0,.int .i64 0,.int .i64 0,.int .i64 0,.bool false]),6,56):=by kernel_rfl
theorem eG:(Tryz.prog.info? 101).map (fun i=> (i.zero,i.size,i.bytes))=some (some (.slice none 0 0),1,24):=by kernel_rfl
theorem eH:(Tryz.prog.info? 103).map (fun i=> (i.zero,i.size,i.bytes))=some (some (.agg #[.slice none 0 0,.string ⟨#[]⟩,.slice none 0 0]),3,64):=by kernel_rfl
theorem eI:(Tryz.prog.info? 37).map (fun i=> (i.zero,i.size,i.bytes))=some (some (.agg #[.int .i64 0,.string ⟨#[]⟩,.string ⟨#[]⟩,.int .i64 0,.int .i64 0,.int .i64 0,.string ⟨#[]⟩,.slice none 0 0]),8,104):=by kernel_rfl
section
variable {P c:Nat} {A:Option Addr} {L:List Tk} {w0 w:World} {s:Ps}
theorem m8 {n:Nat} {ex:M Ex} (hr:Rdr 68 P A c L w0 n 39 ex) (hn:s.r.length<n) (hE:Er w0) {n0 gs Mp:Nat} {x0 x1:Value} {post:List Value} {D:DV} {d:Df} {l:List ByteArray} (hP:P<n0)
  (hd:DefAt n0 gs Mp 40 9 4 x0 x1 post w D d l) (hb:d.cols.length≤1000000∧d.keys.length≤1000000∧d.frs.length≤1000000∧d.chk.length≤1000000∧l.length≤1000000000)
  (cc:isS aJ s=true) (hp:PsAt 68 P A c L w0 w s) (hL:TkL L):
  Calls Tryz.prog 99 #[.pointer (some ⟨P,0,none⟩),.pointer (some ⟨gs,2,none⟩),.map (some Mp)] w fun e w'=> ∃v D',e= .returned v∧PsAt 68 P A c L w0 w' (elemP ex d l s).2∧Chn n0 P w w'∧
   DefAt n0 gs Mp 40 9 4 x0 x1 post w' D' (elemP ex d l s).1.1 (elemP ex d l s).1.2:=by
 obtain⟨ic,cH,cl,c1,cy⟩:=aX eF
 obtain⟨ik,bY,cb,b9,bN⟩:=aX eG
 obtain⟨iq,c3,c0,cw,c8⟩:=aX eH
 obtain⟨ix,cs,c4,cA,ci⟩:=aX eI
 obtain⟨c9,H,c2,cv,cx⟩:=hb
 have b6:=hid hp
 have u:=hid hd
 have b7:=hid (Chn.refl n0 P w)
 have bf:=hid (Chg.refl P w)
 have HM:Hid (elemP ex d l s=if isS aJ s=true then (({ d with keys:=d.keys++ [(namesP (needP kKEY s.next)).1] },l++(namesP (needP kKEY s.next)).1),(namesP (needP kKEY s.next)).2)
  else if isS aZ s=true then (({ d with keys:=d.keys++ [(namesP s.next).1] },l),(namesP s.next).2)
  else if isS bC s=true then (({ d with chk:=d.chk++ [(ex (needP yLp s.next)).1] },l),needP yRp (ex (needP yLp s.next)).2)
  else if isS bp s=true then (({ d with frs:=d.frs++ [(refP (needP kKEY s.next)).1] },l),(refP (needP kKEY s.next)).2)
  else (({ d with cols:=d.cols++ [(cX s).1] },l),(cX s).2)):=rfl
 obtain⟨R,hR⟩:∃R,elemP ex d l s=R:=⟨_,rfl⟩
 rw[hR]at HM ⊢
 have t:=hid hP
 have bk:Hid (Mp<w.heap.size):=hd.map.lt
 have cf:Hid (gs<w.heap.size):=hd.blk.lt
 have a5:Hid (n0≤gs):=hd.hgs
 clear hp hd hR
 go_enter Tryz.func99,Tryz.ntmps99
 go_wp2_with fail
 refine(ai b6 hL aJ).mono ?_
 rintro _ w1 ⟨v,rfl,B,g,rfl⟩
 have ac:=hid B
 have a0:=hid (bf.trans g)
 have Y:=hid (u.chg g t)
 have a3:=hid (b7.chg g u.n)
 clear B g
 cases H:isS aJ s
 ·exact absurd (H.symm.trans cc) (by simp)
 ·have e:(aq aJ s).2=s.next:=by simp[aq,H]
  rw[e]at ac
  clear e
  go_wp2_with fail
  refine(az (ac.ext ((Ext.refl w1).alloc (.cells #[.string kKEY] 9))) hL kKEY w1.heap.size (by simp[World.cell?_alloc_new])).mono ?_
  rintro _ w2 ⟨v,rfl,B,g,_⟩
  replace g:Chg P w1 w2:=(Chg.of ((Ext.refl w1).alloc (.cells #[.string kKEY] 9))).trans g
  have a9:=hid B
  have ba:=hid (a0.trans g)
  have X:=hid (Y.chg g t)
  have V:=hid (a3.chg g Y.n)
  clear B g
  clear Y a3 ac a0
  go_wp2_with fail
  refine(fl a9 hL).mono ?_
  rintro _ w3 ⟨v,rfl,B,g,U,ka,rfl,a2,h3⟩
  have an:=hid B
  have ck:=hid (ba.trans g)
  have ag:=hid (X.chg g t)
  have Z:=hid (V.chg g X.n)
  have G:=hid a2
  clear a2
  obtain⟨a,z⟩:∃x,(namesP (needP kKEY s.next)).1=x:=⟨_,rfl⟩
  rw[z]at h3 G ⊢
  have b5:=hid z
  clear z
  have C:Hid (Stb (w.heap.size≤·) w3 fun w2=>aO w2 U a):=h3.weak fun q _ hq=>Nat.le_trans (V.size) hq
  clear B g h3
  clear X V a9 ba
  have ax:Hid (R=(({ d with keys:=d.keys++ [a] },l++a),(namesP (needP kKEY s.next)).2)):=by unfold Hid;rw[HM.out,H,if_pos rfl,b5.out]
  have c5:Hid (w.heap.size≤w3.heap.size):=Z.size
  go_wp2_with fail
  go_loopw [31] (fun iv wr=> ∃j:Nat,j≤a.length∧iv= .int .i64 j∧PsAt 68 P A c L w0 wr (namesP (needP kKEY s.next)).2∧Chn n0 P w wr∧DefAt n0 gs Mp 40 9 4 x0 x1 post wr D d (l++a.take j)∧Stb (w.heap.size≤·) wr (fun w2=>aO w2 U a)) (fun i _=>a.length- (intOf i).toNat)
  case atStart=>exact⟨0,Nat.zero_le _,rfl,an,Z,by simpa using ag.out,C⟩
  case round=>
  obtain⟨j,hj,rfl,B,g,h3,h4⟩:=hrel
  have K:=hid B
  have J:=hid g
  have b:=hid h3
  have m:=hid h4
  clear B g h3 h4 an Z ag C
  generalize wr=O at*
  by_cases Q:j<a.length
  ·obtain⟨x,hx⟩:∃x,a[j]? =some x:=⟨_,List.getElem?_eq_getElem Q⟩
   obtain⟨a1,b0,cj,hB,c6⟩:=m.now j x hx
   subst hB
   have i0:(0:Int)≤(j:Int):=by omega
   have i1:(j:Int)<(a.length:Int):=by omega
   have a6:l++a.take (j+1)=(l++a.take j)++ [x]:=by
    rw[List.take_add_one,hx,List.append_assoc]
    rfl
   have b3:=hid a6
   have b1:=hid a1
   have a4:=hid Q
   have bd:Hid ((l++a.take j).length≤1000020001):=by
    unfold Hid
    rw[List.length_append,List.length_take]
    have:=G.out
    omega
   clear a6 a1 hx
   have hm:=G.out
   go_wp2_with (at_mapUpdate;refine mU (M:=Mp) rfl _ _ _ 134 rfl Tryz.underlying9 Tryz.underlying134 Tryz.underlying4 rfl b.map (by have:=bd.out;unfold maxLen;omega) x (by have:=b1.out;unfold maxLen;omega) rfl rfl ?_;intro w4 bx I)
   have ad:∀q,some Mp=some q→n0≤q:=fun q e=>by rw[←Option.some.inj e];exact b.hM
   exact⟨⟨j+1,by have:=a4.out;omega,by go_num,K.grown I (fun q e=>Nat.lt_of_lt_of_le t (ad q e)),J.own I ad b.n,by rw[b3.out];exact b.put I bx,m.grown I (fun q hq e=>by have:=Option.some.inj e;have:=bk.out;omega)⟩,by have:=a4.out;simp[intOf];omega⟩
  ·obtain rfl:j=a.length:=by omega
   rw[List.take_length]at b
   have z3:=b.blk.cell_some (i:=3) rfl
   clear Q hj
   have y:=(Ext.refl O).alloc (.cells #[.slice U a.length ka] 101)
   have o:=hid (b.ext y)
   have bw:=hid (K.ext y)
   have bn:=hid (J.ext y b.n)
   have b2:=hid (u.df.fine u.bs u.n (m.ext y))
   clear y
   have bm:Hid (n0≤(O.alloc (.cells #[.slice U a.length ka] 101)).heap.size):=o.n
   go_wp2_with (at_builtin;refine ap _ rfl (.tmp 42) (.tmp 44) 25 rfl n0 101 ik _ 1 24 Tryz.underlying25 bY cb b9 bN rfl (by decide) _ d.keys.length _ rfl o.df.k.own _ _ 1 1 [.slice (U) a.length ka] rfl (bW O [.slice U a.length ka] 101 1 rfl) (by simp[Value.oneCell']) (by unfold maxLen;omega) (by omega) bm ?_;intro v7 w7 p f F;obtain⟨A7,c7,rfl⟩:=bJ p;have W:=o.blk.grown f o.nek.1;have z9:=W.cell_some (i:=3) rfl;have y9:=W.frozen 3;clear W)
   have E:∀q,D.vk.ownBlock=some q→n0≤q:=o.gek
   have be:=hid (o.pushk rfl p f F (b2.imp fun w2 h=>⟨U,ka,rfl,G,h⟩))
   have cd:=hid ((bw.grown f (fun q e=>Nat.lt_of_lt_of_le t (E q e))).grown (aC w7 gs 3 (.slice A7 (d.keys.length+1) c7)) (fun q e=>by have:=Option.some.inj e;have:=t.out;have:=a5.out;omega))
   have b4:=hid ((bn.own f E o.n).own (aC w7 gs 3 (.slice A7 (d.keys.length+1) c7)) (fun q e=>by rw[←Option.some.inj e];exact a5) (Nat.le_trans o.n (World.grownBy.size f)))
   clear p f F E
   go_wp2_with fail
   exact bodyPost_end (v:= .tuple #[]) (by simp[results,Tryz.results99,go_sem]) rfl ⟨_,_,rfl,by rw[ax.out];exact cd,b4,by rw[ax.out];exact be⟩
theorem na {n:Nat} {ex:M Ex} (hr:Rdr 68 P A c L w0 n 39 ex) (hn:s.r.length<n) (hE:Er w0) {n0 gs Mp:Nat} {x0 x1:Value} {post:List Value} {D:DV} {d:Df} {l:List ByteArray} (hP:P<n0)
  (hd:DefAt n0 gs Mp 40 9 4 x0 x1 post w D d l) (hb:d.cols.length≤1000000∧d.keys.length≤1000000∧d.frs.length≤1000000∧d.chk.length≤1000000∧l.length≤1000000000)
  (bw:isS aJ s=false) (ba:isS aZ s=true) (hp:PsAt 68 P A c L w0 w s) (hL:TkL L):
  Calls Tryz.prog 99 #[.pointer (some ⟨P,0,none⟩),.pointer (some ⟨gs,2,none⟩),.map (some Mp)] w fun e w'=> ∃v D',e= .returned v∧PsAt 68 P A c L w0 w' (elemP ex d l s).2∧Chn n0 P w w'∧
   DefAt n0 gs Mp 40 9 4 x0 x1 post w' D' (elemP ex d l s).1.1 (elemP ex d l s).1.2:=by
 obtain⟨ic,cb,b2,cd,b7⟩:=aX eF
 obtain⟨ik,a6,bn,bk,a5⟩:=aX eG
 obtain⟨iq,cf,cc,b5,cj⟩:=aX eH
 obtain⟨ix,b3,ci,b9,b1⟩:=aX eI
 obtain⟨cl,z,G,b4,b6⟩:=hb
 have be:=hid hp
 have j:=hid hd
 have bf:=hid (Chn.refl n0 P w)
 have a0:=hid (Chg.refl P w)
 have HM:Hid (elemP ex d l s=if isS aJ s=true then (({ d with keys:=d.keys++ [(namesP (needP kKEY s.next)).1] },l++(namesP (needP kKEY s.next)).1),(namesP (needP kKEY s.next)).2)
  else if isS aZ s=true then (({ d with keys:=d.keys++ [(namesP s.next).1] },l),(namesP s.next).2)
  else if isS bC s=true then (({ d with chk:=d.chk++ [(ex (needP yLp s.next)).1] },l),needP yRp (ex (needP yLp s.next)).2)
  else if isS bp s=true then (({ d with frs:=d.frs++ [(refP (needP kKEY s.next)).1] },l),(refP (needP kKEY s.next)).2)
  else (({ d with cols:=d.cols++ [(cX s).1] },l),(cX s).2)):=rfl
 obtain⟨R,hR⟩:∃R,elemP ex d l s=R:=⟨_,rfl⟩
 rw[hR]at HM ⊢
 have m:=hid hP
 have bN:Hid (Mp<w.heap.size):=hd.map.lt
 have bY:Hid (gs<w.heap.size):=hd.blk.lt
 have ag:Hid (n0≤gs):=hd.hgs
 clear hp hd hR
 go_enter Tryz.func99,Tryz.ntmps99
 go_wp2_with fail
 refine(ai be hL aJ).mono ?_
 rintro _ w1 ⟨v,rfl,Y,C,rfl⟩
 have Q:=hid Y
 have X:=hid (a0.trans C)
 have K:=hid (j.chg C m)
 have ad:=hid (bf.chg C j.n)
 clear Y C
 cases z:isS aJ s
 ·have e:(aq aJ s).2=s:=by simp[aq,z]
  rw[e]at Q
  clear e
  go_wp2_with fail
  refine(ai Q hL aZ).mono ?_
  rintro _ E ⟨v,rfl,Y,C,rfl⟩
  have an:=hid Y
  have ck:=hid (X.trans C)
  have F:=hid (K.chg C m)
  have W:=hid (ad.chg C K.n)
  clear Y C
  clear K ad Q X
  cases G:isS aZ s
  ·exact absurd (G.symm.trans ba) (by simp)
  ·have e:(aq aZ s).2=s.next:=by simp[aq,G]
   rw[e]at an
   clear e
   have O:=fl (an.ext (Ext.refl E).drew) hL
   obtain⟨f,t⟩:∃x,(namesP s.next).1=x:=⟨_,rfl⟩
   obtain⟨stb,o⟩:∃x,(namesP s.next).2=x:=⟨_,rfl⟩
   have V:Hid (R=(({ d with keys:=d.keys++ [f] },l),stb)):=by unfold Hid;rw[HM.out,z,if_neg (by simp),G,if_pos rfl,t,o]
   rw[t,o]at O
   clear t o
   have bm:Hid (Calls Tryz.prog 176 #[.pointer (some ⟨P,0,none⟩)] E.drew fun e H=> ∃B k,e= .returned (.slice B f.length k)∧(f.length≤20001∧f.length≤k)∧PsAt 68 P A c L w0 H stb∧Chg P E H∧Stb (w.heap.size≤·) H (fun E=>aO E B f)):=
    O.mono fun e H ⟨v,he,h5,U,B,k,hv,hl,h7⟩=>⟨B,k,by rw[he,hv],hl,h5,(Chg.of (Ext.refl E).drew).trans U,h7.weak fun q _ hq=>Nat.le_trans W.size hq⟩
   clear O
   have z1:=F.blk.cell_some (i:=3) rfl
   have b0:E.drew.cell? ⟨gs,3,none⟩=some D.vk:=(F.ext (Ext.refl E).drew).blk.cell_some (i:=3) rfl
   go_upto_region 11 with fail
   go_region_law (first
    |(refine aS _ rfl (.tmp 55) (.tmp 58) 25 rfl n0 101 ik _ 1 24 Tryz.underlying25 a6 bn bk a5 rfl (by decide) _ d.keys.length _ rfl b.df.k.own _ _ 1 1 [.slice Bb f.length Z] rfl (bW H [.slice Bb f.length Z] 101 1 rfl) (by simp[Value.oneCell']) (by unfold maxLen;omega) (by omega) a1 ?_;intro v7 w7 g a y;obtain⟨A7,c7,rfl⟩:=bJ g;have J:=b.blk.grown a b.nek.1;have z9:=J.cell_some (i:=3) rfl;have y9:=J.frozen 3;clear J)
    |(go_simp;go_at_call 176;(with_reducible refine bm.out.mono ?_);rintro _ H ⟨Bb,Z,rfl,ac,h5,U,h7⟩;have I:=hid (F.chg U m);have p:=(Ext.refl H).alloc (.cells #[.slice Bb f.length Z] 101);have b:=hid (I.ext p);have a3:=hid (h5.ext p);have a2:=hid ((W.chg U F.n).ext p I.n);have a1:Hid (n0≤(H.alloc (.cells #[.slice Bb f.length Z] 101)).heap.size):=b.n;have a4:=hid ac;have a9:=hid (j.df.fine j.bs j.n (Stb.ext h7 p));clear h7 ac;have z3:=I.blk.cell_some (i:=3) rfl;have z4:=b.blk.cell_some (i:=3) rfl;clear p h5 U))
   all_goals
    have u:∀q,D.vk.ownBlock=some q→n0≤q:=b.gek
    have ax:=hid (b.pushk rfl g a y ((a9.imp fun E h=>⟨Bb,Z,rfl,a4,h⟩)))
    have bx:=hid ((a3.grown a (fun q e=>Nat.lt_of_lt_of_le m (u q e))).grown (aC w7 gs 3 (.slice A7 (d.keys.length+1) c7)) (fun q e=>by have:=Option.some.inj e;have:=m.out;have:=ag.out;omega))
    have bd:=hid ((a2.own a u b.n).own (aC w7 gs 3 (.slice A7 (d.keys.length+1) c7)) (fun q e=>by rw[←Option.some.inj e];exact ag) (Nat.le_trans b.n (World.grownBy.size a)))
    clear g a y u
    go_wp2_with fail
    exact bodyPost_end (v:= .tuple #[]) (by simp[results,Tryz.results99,go_sem]) rfl ⟨_,_,rfl,by rw[V.out];exact bx,bd,by rw[V.out];exact ax⟩
 ·exact absurd (z.symm.trans bw) (by simp)
theorem nc {n:Nat} {ex:M Ex} (hr:Rdr 68 P A c L w0 n 39 ex) (hn:s.r.length<n) (hE:Er w0) {n0 gs Mp:Nat} {x0 x1:Value} {post:List Value} {D:DV} {d:Df} {l:List ByteArray} (hP:P<n0)
  (hd:DefAt n0 gs Mp 40 9 4 x0 x1 post w D d l) (hb:d.cols.length≤1000000∧d.keys.length≤1000000∧d.frs.length≤1000000∧d.chk.length≤1000000∧l.length≤1000000000)
  (gr:isS aJ s=false) (e8:isS aZ s=false) (gk:isS bC s=true) (hp:PsAt 68 P A c L w0 w s) (hL:TkL L):
  Calls Tryz.prog 99 #[.pointer (some ⟨P,0,none⟩),.pointer (some ⟨gs,2,none⟩),.map (some Mp)] w fun e w'=> ∃v D',e= .returned v∧PsAt 68 P A c L w0 w' (elemP ex d l s).2∧Chn n0 P w w'∧
   DefAt n0 gs Mp 40 9 4 x0 x1 post w' D' (elemP ex d l s).1.1 (elemP ex d l s).1.2:=by
 obtain⟨ic,hf,g3,hh,ha⟩:=aX eF
 obtain⟨ik,g5,hk,hj,g4⟩:=aX eG
 obtain⟨iq,hi,hg,g6,hl⟩:=aX eH
 obtain⟨ix,b7,cl,cc,b5⟩:=aX eI
 obtain⟨hm,bf,bx,a6,g8⟩:=hb
 have ga:=hid hp
 have a2:=hid hd
 have gb:=hid (Chn.refl n0 P w)
 have d3:=hid (Chg.refl P w)
 have HM:Hid (elemP ex d l s=if isS aJ s=true then (({ d with keys:=d.keys++ [(namesP (needP kKEY s.next)).1] },l++(namesP (needP kKEY s.next)).1),(namesP (needP kKEY s.next)).2)
  else if isS aZ s=true then (({ d with keys:=d.keys++ [(namesP s.next).1] },l),(namesP s.next).2)
  else if isS bC s=true then (({ d with chk:=d.chk++ [(ex (needP yLp s.next)).1] },l),needP yRp (ex (needP yLp s.next)).2)
  else if isS bp s=true then (({ d with frs:=d.frs++ [(refP (needP kKEY s.next)).1] },l),(refP (needP kKEY s.next)).2)
  else (({ d with cols:=d.cols++ [(cX s).1] },l),(cX s).2)):=rfl
 obtain⟨R,hR⟩:∃R,elemP ex d l s=R:=⟨_,rfl⟩
 rw[hR]at HM ⊢
 have t:=hid hP
 have gy:Hid (Mp<w.heap.size):=hd.map.lt
 have g1:Hid (gs<w.heap.size):=hd.blk.lt
 have dd:Hid (n0≤gs):=hd.hgs
 clear hp hd hR
 go_enter Tryz.func99,Tryz.ntmps99
 go_wp2_with fail
 refine(ai ga hL aJ).mono ?_
 rintro _ w1 ⟨v,rfl,K,p,rfl⟩
 have cv:=hid K
 have c3:=hid (d3.trans p)
 have ci:=hid (a2.chg p t)
 have c8:=hid (gb.chg p a2.n)
 clear K p
 cases bf:isS aJ s
 ·have e:(aq aJ s).2=s:=by simp[aq,bf]
  rw[e]at cv
  clear e
  go_wp2_with fail
  refine(ai cv hL aZ).mono ?_
  rintro _ w2 ⟨v,rfl,K,p,rfl⟩
  have ck:=hid K
  have d0:=hid (c3.trans p)
  have b9:=hid (ci.chg p t)
  have c1:=hid (c8.chg p ci.n)
  clear K p
  clear ci c8 cv c3
  cases bx:isS aZ s
  ·have e:(aq aZ s).2=s:=by simp[aq,bx]
   rw[e]at ck
   clear e
   go_wp2_with fail
   refine(ai ck hL bC).mono ?_
   rintro _ J ⟨v,rfl,K,p,rfl⟩
   have b6:=hid K
   have cH:=hid (d0.trans p)
   have Y:=hid (b9.chg p t)
   have dk:=hid (c1.chg p b9.n)
   clear K p
   clear b9 c1 ck d0
   cases a6:isS bC s
   ·exact absurd (a6.symm.trans gk) (by simp)
   ·have e:(aq bC s).2=s.next:=by simp[aq,a6]
    rw[e]at b6
    clear e
    have hc:=aM a6
    have es:=aH yLp s.next
    go_wp2_with fail
    refine(az (b6.ext ((Ext.refl J).alloc (.cells #[.string yLp] 9))) hL yLp J.heap.size (by simp[World.cell?_alloc_new])).mono ?_
    rintro _ w4 ⟨v,rfl,K,p,_⟩
    replace p:Chg P J w4:=(Chg.of ((Ext.refl J).alloc (.cells #[.string yLp] 9))).trans p
    have ad:=hid K
    have g2:=hid (cH.trans p)
    have m:=hid (Y.chg p t)
    have a9:=hid (dk.chg p Y.n)
    clear K p
    clear Y dk b6 cH
    obtain⟨s1,b3⟩:∃x,needP yLp s.next=x:=⟨_,rfl⟩
    rw[b3]at ad es
    have ee:=hid b3
    clear b3
    obtain⟨cf,ba⟩:∃x,(ex s1).2=x:=⟨_,rfl⟩
    obtain⟨e2,cd⟩:∃x,(ex s1).1=x:=⟨_,rfl⟩
    have d5:=hid cd
    have fs:=hid ba
    obtain⟨⟨E,B,u,C,F,G,z⟩,X⟩:=e2
    have cw:Hid (∀W',PsAt 68 P A c L w0 W' s1→Calls Tryz.prog 39 #[.pointer (some ⟨P,0,none⟩)] W' fun e J=> ∃(V:Option Addr) (Z c2:Nat),e= .returned (.agg #[.int .i64 E,.string B,.string u,.int .i64 C,.int .i64 F,.int .i64 G,.string z,.slice V Z c2])∧PsAt 68 P A c L w0 J cf∧Chg P W' J∧Stb (W'.heap.size≤·) J (fun w'=>ExV w' (.mk ⟨E,B,u,C,F,G,z⟩ X) V Z c2)):=
     fun W' hS=> (hr W' s1 hS (by omega)).mono fun e J ⟨v,he,h5,h6,V,Z,c2,hv,h7⟩=>by
      rw[cd]at hv h7
      rw[ba]at h5
      exact⟨V,Z,c2,by rw[he,hv];rfl,h5,h6,h7⟩
    have c0:Hid (R=(({ d with chk:=d.chk++ [(.mk ⟨E,B,u,C,F,G,z⟩ X)] },l),needP yRp cf)):=by unfold Hid;rw[HM.out,bf,if_neg (by simp),bx,if_neg (by simp),a6,if_pos rfl,ee.out,d5.out,fs.out]
    clear cd ba
    have bn:=(Ext.refl w4).drew
    have bm:=(Ext.refl w4).drew.alloc (.cells #[.int .i64 0,.string ⟨#[]⟩,.string ⟨#[]⟩,.int .i64 0,.int .i64 0,.int .i64 0,.string ⟨#[]⟩,.slice none 0 0] 37)
    have cb:=hid (m.ext bn)
    have ag:=hid (m.ext bm)
    have f9:=hid (ad.ext bn)
    have d6:=hid (ad.ext bm)
    have c5:=hid (a9.ext bn m.n)
    have d4:=hid (a9.ext bm m.n)
    have z1:=m.blk.cell_some (i:=5) rfl
    have z2:=cb.blk.cell_some (i:=5) rfl
    have z3:=ag.blk.cell_some (i:=5) rfl
    have z4:=(m.ext ((Ext.refl w4).alloc (.cells #[.int .i64 0,.string ⟨#[]⟩,.string ⟨#[]⟩,.int .i64 0,.int .i64 0,.int .i64 0,.string ⟨#[]⟩,.slice none 0 0] 37))).blk.cell_some (i:=5) rfl
    clear bn bm
    obtain⟨ax,cx,cj⟩:=bJ a2.df.x.own
    have O:=hid cj
    rw[cj]at z1 z2 z3 z4
    clear cj
    go_upto_region 14 with fail
    go_cut [] from 68 to 79 (fun wx=> ∃D':DV,PsAt 68 P A c L w0 wx cf∧Chn n0 P w wx∧DefAt n0 gs Mp 40 9 4 x0 x1 post wx D' { d with chk:=d.chk++ [(.mk ⟨E,B,u,C,F,G,z⟩ X)] } l)
    case first=>
     have dx:Hid ((w4.drew.alloc (.cells #[.int .i64 0,.string ⟨#[]⟩,.string ⟨#[]⟩,.int .i64 0,.int .i64 0,.int .i64 0,.string ⟨#[]⟩,.slice none 0 0] 37)).ownsRow n0 37 8 (.slice ax d.chk.length cx) d.chk.length D.cx.flatten):=by
      have:=ag.df.x.own
      rw[O.out]at this
      exact this
     have ac:Hid (n0≤(w4.drew.alloc (.cells #[.int .i64 0,.string ⟨#[]⟩,.string ⟨#[]⟩,.int .i64 0,.int .i64 0,.int .i64 0,.string ⟨#[]⟩,.slice none 0 0] 37)).heap.size):=ag.n
     have bk:=((Ext.refl w4).alloc (.cells #[.int .i64 0,.string ⟨#[]⟩,.string ⟨#[]⟩,.int .i64 0,.int .i64 0,.int .i64 0,.string ⟨#[]⟩,.slice none 0 0] 37)).drew
     have cy:=hid (m.ext bk)
     have el:=hid (ad.ext bk)
     have c4:=hid (a9.ext bk m.n)
     have gt:=hid ((Blk.of_new w4 37 eZ).ext (Ext.refl (w4.alloc (.cells #[.int .i64 0,.string ⟨#[]⟩,.string ⟨#[]⟩,.int .i64 0,.int .i64 0,.int .i64 0,.string ⟨#[]⟩,.slice none 0 0] 37))).drew)
     have fr:Hid (P<w4.heap.size):=Nat.lt_of_lt_of_le t m.n
     clear bk
     have g0:(d.chk.length:Int)<(d.chk.length:Int)+1:=by omega
     go_region_law (first
      |(refine aS _ rfl (.tmp 71) (.tmp 75) 27 rfl n0 37 ix _ 8 104 Tryz.underlying27 b7 cl cc b5 rfl (by decide) _ d.chk.length _ rfl d7 _ _ 1 1 eZ rfl (bW J eZ 37 8 rfl) (by simp[Value.oneCell']) (by unfold maxLen;omega) (by omega) c9 ?_;intro v7 w7 j f g;obtain⟨g7,c7,rfl⟩:=eE j;rw[←O.out]at f g;have o:=hid (gF.make m j f g);have k:=m.gex;have ac:=hid (ad.grown f (fun q e=>Nat.lt_of_lt_of_le t (k q e)));have bN:=hid (a9.own f k m.n);have bw:=hid ((a2.past (n1:=w4.drew.heap.size) (c5.size) fA f g (cs:=z8)).imp (Ψ:=cu (.mk ⟨E,B,u,C,F,G,z⟩ X) (eC E B u C F G z V Z c2)) (fun w2 h=>⟨V,Z,c2,rfl,h⟩));clear j f g k;obtain⟨an,a,b,a0⟩:=o.cells;have be:=hid an;have e0:=a 0 _ rfl;have f0:=b (d.chk.length*8+0);have e1:=a 1 _ rfl;have f1:=b (d.chk.length*8+1);have e2:=a 2 _ rfl;have f2:=b (d.chk.length*8+2);have e3:=a 3 _ rfl;have f3:=b (d.chk.length*8+3);have e4:=a 4 _ rfl;have f4:=b (d.chk.length*8+4);have e5:=a 5 _ rfl;have f5:=b (d.chk.length*8+5);have e6:=a 6 _ rfl;have f6:=b (d.chk.length*8+6);have e7:=a 7 _ rfl;have f7:=b (d.chk.length*8+7);rw[Nat.add_zero]at e0 f0;have zz:=o.blk.cell_some (i:=5) rfl;have yy:=o.blk.frozen 5;have a4:=a0.symm;clear a b)
      |(refine aS _ rfl (.tmp 71) (.tmp 75) 27 rfl n0 37 ix _ 8 104 Tryz.underlying27 b7 cl cc b5 rfl (by decide) _ d.chk.length _ rfl gc _ _ 1 1 eZ rfl (reads_blk e9 rfl) (by simp[Value.oneCell']) (by unfold maxLen;omega) (by omega) c6 ?_;intro v7 w7 j f g;obtain⟨g7,c7,rfl⟩:=eE j;rw[←O.out]at f g;have o:=hid (gF.make a1 j f g);have k:=a1.gex;have ac:=hid (gm.grown f (fun q e=>Nat.lt_of_lt_of_le t (k q e)));have bN:=hid (gd.own f k a1.n);have bw:=hid ((a2.past (n1:=(w4.alloc (.cells #[.int .i64 0,.string ⟨#[]⟩,.string ⟨#[]⟩,.int .i64 0,.int .i64 0,.int .i64 0,.string ⟨#[]⟩,.slice none 0 0] 37)).drew.heap.size) (c4.size) eb f g (cs:=z8)).imp (Ψ:=cu (.mk ⟨E,B,u,C,F,G,z⟩ X) (eC E B u C F G z V Z c2)) (fun w2 h=>⟨V,Z,c2,rfl,h⟩));clear j f g k;obtain⟨an,a,b,a0⟩:=o.cells;have be:=hid an;have e0:=a 0 _ rfl;have f0:=b (d.chk.length*8+0);have e1:=a 1 _ rfl;have f1:=b (d.chk.length*8+1);have e2:=a 2 _ rfl;have f2:=b (d.chk.length*8+2);have e3:=a 3 _ rfl;have f3:=b (d.chk.length*8+3);have e4:=a 4 _ rfl;have f4:=b (d.chk.length*8+4);have e5:=a 5 _ rfl;have f5:=b (d.chk.length*8+5);have e6:=a 6 _ rfl;have f6:=b (d.chk.length*8+6);have e7:=a 7 _ rfl;have f7:=b (d.chk.length*8+7);rw[Nat.add_zero]at e0 f0;have zz:=o.blk.cell_some (i:=5) rfl;have yy:=o.blk.frozen 5;have a4:=a0.symm;clear a b)
      |(refine aS _ rfl (.tmp 71) (.tmp 75) 27 rfl n0 37 ix _ 8 104 Tryz.underlying27 b7 cl cc b5 rfl (by decide) _ d.chk.length _ rfl dx _ _ 1 1 eZ rfl (bW w4.drew eZ 37 8 rfl) (by simp[Value.oneCell']) (by unfold maxLen;omega) (by omega) ac ?_;intro v7 w7 j f g;obtain⟨g7,c7,rfl⟩:=eE j;rw[←O.out]at f g;have a3:=hid (gF.make ag j f g);have k:=ag.gex;have gv:=hid (d6.grown f (fun q e=>Nat.lt_of_lt_of_le t (k q e)));have fn:=hid (d4.own f k ag.n);clear j f g k)
      |(go_simp;go_at_call 39;(with_reducible refine(cw.out _ f9.out).mono ?_);rintro _ J ⟨V,Z,c2,rfl,h5,h6,h7⟩;have Y:=hid (cb.chg h6 t);have a5:=(Ext.refl J).alloc (.cells #[.int .i64 0,.string ⟨#[]⟩,.string ⟨#[]⟩,.int .i64 0,.int .i64 0,.int .i64 0,.string ⟨#[]⟩,.slice none 0 0] 37);have m:=hid (Y.ext a5);have ad:=hid (h5.ext a5);have a9:=hid ((c5.chg h6 cb.n).ext a5 Y.n);have fA:=hid (Stb.ext h7 a5);have c9:Hid (n0≤(J.alloc (.cells #[.int .i64 0,.string ⟨#[]⟩,.string ⟨#[]⟩,.int .i64 0,.int .i64 0,.int .i64 0,.string ⟨#[]⟩,.slice none 0 0] 37)).heap.size):=m.n;have d7:Hid ((J.alloc (.cells #[.int .i64 0,.string ⟨#[]⟩,.string ⟨#[]⟩,.int .i64 0,.int .i64 0,.int .i64 0,.string ⟨#[]⟩,.slice none 0 0] 37)).ownsRow n0 37 8 (.slice ax d.chk.length cx) d.chk.length D.cx.flatten):=(by have:=m.df.x.own;rw[O.out]at this;exact this);have z5:=Y.blk.cell_some (i:=5) rfl;have z6:=m.blk.cell_some (i:=5) rfl;rw[O.out]at z5 z6;clear a5 h5 h6 h7)
      |(go_simp;go_at_call 39;(with_reducible refine(cw.out _ el.out).mono ?_);rintro _ J ⟨V,Z,c2,rfl,h5,h6,h7⟩;have a1:=hid (cy.chg h6 t);have gm:=hid h5;have gd:=hid (c4.chg h6 cy.n);have eb:=hid h7;have c6:Hid (n0≤J.heap.size):=a1.n;have e9:=hid (h6.blk gt (by have:=fr.out;omega));have gc:Hid (J.ownsRow n0 37 8 (.slice ax d.chk.length cx) d.chk.length D.cx.flatten):=(by have:=a1.df.x.own;rw[O.out]at this;exact this);have z5:=a1.blk.cell_some (i:=5) rfl;rw[O.out]at z5;clear h5 h6 h7)
      |(go_simp;go_at_call 39;(with_reducible refine(cw.out _ gv.out).mono ?_);rintro _ J ⟨V,Z,c2,rfl,h5,h6,h7⟩;have o:=hid (a3.chg h6 t);have bN:=hid (fn.chg h6 a3.n);have bw:=hid ((a3.df.fine a3.bs a3.n h7).imp (Ψ:=cu (.mk ⟨E,B,u,C,F,G,z⟩ X) (eC E B u C F G z V Z c2)) (fun w2 h=>⟨V,Z,c2,rfl,h⟩));have ac:=hid h5;clear h5 h6 h7;obtain⟨an,a,b,a0⟩:=o.cells;have be:=hid an;have e0:=a 0 _ rfl;have f0:=b (d.chk.length*8+0);have e1:=a 1 _ rfl;have f1:=b (d.chk.length*8+1);have e2:=a 2 _ rfl;have f2:=b (d.chk.length*8+2);have e3:=a 3 _ rfl;have f3:=b (d.chk.length*8+3);have e4:=a 4 _ rfl;have f4:=b (d.chk.length*8+4);have e5:=a 5 _ rfl;have f5:=b (d.chk.length*8+5);have e6:=a 6 _ rfl;have f6:=b (d.chk.length*8+6);have e7:=a 7 _ rfl;have f7:=b (d.chk.length*8+7);rw[Nat.add_zero]at e0 f0;have zz:=o.blk.cell_some (i:=5) rfl;have yy:=o.blk.frozen 5;have a4:=a0.symm;clear a b))
     all_goals
      obtain⟨hD,b2,I,bY⟩:=o.fin (ds:=(eC E B u C F G z V Z c2)) (y:=(.mk ⟨E,B,u,C,F,G,z⟩ X)) rfl bw
      rw[be.out]at hD I
      have b4:=fun (W:World)=>mX (Ne.symm bY) 5 (.slice (some ⟨g7,0,none⟩) (d.chk.length+1) c7) (eC E B u C F G z V Z c2) W (d.chk.length*8)
      simp only[sts,Nat.add_assoc,Nat.reduceAdd]at hD I b4
      have H:=hid hD
      have b1:=ac.grown I (fun q e=>by have:=Option.some.inj e;have:=t.out;omega)
      have b0:=bN.own I (fun q e=>by rw[←Option.some.inj e];exact b2) o.n
      have U:=hid (b1.grown (aC _ gs 5 (.slice (some ⟨g7,0,none⟩) (d.chk.length+1) c7)) (fun q e=>by have:=Option.some.inj e;have:=t.out;have:=dd.out;omega))
      have Q:=hid (b0.own (aC _ gs 5 (.slice (some ⟨g7,0,none⟩) (d.chk.length+1) c7)) (fun q e=>by rw[←Option.some.inj e];exact dd) (Nat.le_trans o.n (World.grownBy.size I)))
      clear hD b2 I bY b1 b0 e0 e1 e2 e3 e4 e5 e6 e7 f0 f1 f2 f3 f4 f5 f6 f7 zz yy a0 a4 an
      try rw[b4]
      generalize dc:World.setCell _ ⟨gs,5,none⟩ _=bd
      rw[dc]at U Q H
      clear dc o bN bw ac be b4
      go_wp2_with fail
      go_meet
      exact⟨_,U,Q,H⟩
    case rest=>
     obtain⟨D9,K,p,h3⟩:=hcut
     have U:=hid K
     have Q:=hid p
     have H:=hid h3
     clear K p h3
     generalize wc=bd at*
     go_wp2_with fail
     refine(az (U.ext ((Ext.refl bd).alloc (.cells #[.string yRp] 9))) hL yRp bd.heap.size (by simp[World.cell?_alloc_new])).mono ?_
     rintro _ gl ⟨v,rfl,K,p,_⟩
     replace p:Chg P bd gl:=(Chg.of ((Ext.refl bd).alloc (.cells #[.string yRp] 9))).trans p
     have d1:=hid K
     have d2:=hid (H.chg p t)
     have cA:=hid (Q.chg p H.n)
     clear K p
     clear H Q U
     go_wp2_with fail
     exact bodyPost_end (v:= .tuple #[]) (by simp[results,Tryz.results99,go_sem]) rfl ⟨_,_,rfl,by rw[c0.out];exact d1,cA,by rw[c0.out];exact d2⟩
  ·exact absurd (bx.symm.trans e8) (by simp)
 ·exact absurd (bf.symm.trans gr) (by simp)
theorem nf {n:Nat} {ex:M Ex} (hr:Rdr 68 P A c L w0 n 39 ex) (hn:s.r.length<n) (hE:Er w0) {n0 gs Mp:Nat} {x0 x1:Value} {post:List Value} {D:DV} {d:Df} {l:List ByteArray} (hP:P<n0)
  (hd:DefAt n0 gs Mp 40 9 4 x0 x1 post w D d l) (hb:d.cols.length≤1000000∧d.keys.length≤1000000∧d.frs.length≤1000000∧d.chk.length≤1000000∧l.length≤1000000000)
  (gb:isS aJ s=false) (fr:isS aZ s=false) (f7:isS bC s=false) (e8:isS bp s=true) (hp:PsAt 68 P A c L w0 w s) (hL:TkL L):
  Calls Tryz.prog 99 #[.pointer (some ⟨P,0,none⟩),.pointer (some ⟨gs,2,none⟩),.map (some Mp)] w fun e w'=> ∃v D',e= .returned v∧PsAt 68 P A c L w0 w' (elemP ex d l s).2∧Chn n0 P w w'∧
   DefAt n0 gs Mp 40 9 4 x0 x1 post w' D' (elemP ex d l s).1.1 (elemP ex d l s).1.2:=by
 obtain⟨ic,g8,g2,ha,g6⟩:=aX eF
 obtain⟨ik,g5,hg,hf,g4⟩:=aX eG
 obtain⟨iq,f4,f2,fn,bn⟩:=aX eH
 obtain⟨ix,g3,he,g7,gv⟩:=aX eI
 obtain⟨hj,a9,bm,ba,bf⟩:=hb
 have f3:=hid hp
 have k:=hid hd
 have f6:=hid (Chn.refl n0 P w)
 have e2:=hid (Chg.refl P w)
 have HM:Hid (elemP ex d l s=if isS aJ s=true then (({ d with keys:=d.keys++ [(namesP (needP kKEY s.next)).1] },l++(namesP (needP kKEY s.next)).1),(namesP (needP kKEY s.next)).2)
  else if isS aZ s=true then (({ d with keys:=d.keys++ [(namesP s.next).1] },l),(namesP s.next).2)
  else if isS bC s=true then (({ d with chk:=d.chk++ [(ex (needP yLp s.next)).1] },l),needP yRp (ex (needP yLp s.next)).2)
  else if isS bp s=true then (({ d with frs:=d.frs++ [(refP (needP kKEY s.next)).1] },l),(refP (needP kKEY s.next)).2)
  else (({ d with cols:=d.cols++ [(cX s).1] },l),(cX s).2)):=rfl
 obtain⟨R,hR⟩:∃R,elemP ex d l s=R:=⟨_,rfl⟩
 rw[hR]at HM ⊢
 have g:=hid hP
 have gk:Hid (Mp<w.heap.size):=hd.map.lt
 have gl:Hid (gs<w.heap.size):=hd.blk.lt
 have d4:Hid (n0≤gs):=hd.hgs
 clear hp hd hR
 go_enter Tryz.func99,Tryz.ntmps99
 go_wp2_with fail
 refine(ai f3 hL aJ).mono ?_
 rintro _ w1 ⟨v,rfl,m,b,rfl⟩
 have cv:=hid m
 have c9:=hid (e2.trans b)
 have cj:=hid (k.chg b g)
 have d3:=hid (f6.chg b k.n)
 clear m b
 cases a9:isS aJ s
 ·have e:(aq aJ s).2=s:=by simp[aq,a9]
  rw[e]at cv
  clear e
  go_wp2_with fail
  refine(ai cv hL aZ).mono ?_
  rintro _ w2 ⟨v,rfl,m,b,rfl⟩
  have ck:=hid m
  have d7:=hid (c9.trans b)
  have cd:=hid (cj.chg b g)
  have c8:=hid (d3.chg b cj.n)
  clear m b
  clear cj d3 cv c9
  cases bm:isS aZ s
  ·have e:(aq aZ s).2=s:=by simp[aq,bm]
   rw[e]at ck
   clear e
   go_wp2_with fail
   refine(ai ck hL bC).mono ?_
   rintro _ w3 ⟨v,rfl,m,b,rfl⟩
   have b5:=hid m
   have c5:=hid (d7.trans b)
   have b4:=hid (cd.chg b g)
   have d6:=hid (c8.chg b cd.n)
   clear m b
   clear cd c8 ck d7
   cases ba:isS bC s
   ·have e:(aq bC s).2=s:=by simp[aq,ba]
    rw[e]at b5
    clear e
    go_wp2_with fail
    refine(ai b5 hL bp).mono ?_
    rintro _ w4 ⟨v,rfl,m,b,rfl⟩
    have b2:=hid m
    have c3:=hid (c5.trans b)
    have b7:=hid (b4.chg b g)
    have d1:=hid (d6.chg b b4.n)
    clear m b
    clear b4 d6 b5 c5
    cases bf:isS bp s
    ·exact absurd (bf.symm.trans e8) (by simp)
    ·have e:(aq bp s).2=s.next:=by simp[aq,bf]
     rw[e]at b2
     clear e
     go_wp2_with fail
     refine(az (b2.ext ((Ext.refl w4).alloc (.cells #[.string kKEY] 9))) hL kKEY w4.heap.size (by simp[World.cell?_alloc_new])).mono ?_
     rintro _ w5 ⟨v,rfl,m,b,_⟩
     replace b:Chg P w4 w5:=(Chg.of ((Ext.refl w4).alloc (.cells #[.string kKEY] 9))).trans b
     have es:=hid m
     have d5:=hid (c3.trans b)
     have cb:=hid (b7.chg b g)
     have b9:=hid (d1.chg b b7.n)
     clear m b
     clear b7 d1 b2 c3
     go_wp2_with fail
     refine(fl es hL).mono ?_
     rintro _ w6 ⟨v,rfl,m,b,Ba,ka,rfl,d2,h3⟩
     have cw:=hid m
     have cy:=hid (d5.trans b)
     have bk:=hid (cb.chg b g)
     have cs:=hid (b9.chg b cb.n)
     have c1:=hid d2
     clear d2
     obtain⟨o,a0⟩:∃x,(namesP (needP kKEY s.next)).1=x:=⟨_,rfl⟩
     rw[a0]at h3 c1 ⊢
     have f0:=hid a0
     clear a0
     have F:Hid (Stb (w.heap.size≤·) w6 fun w2=>aO w2 Ba o):=h3.weak fun q _ y=>Nat.le_trans (b9.size) y
     clear m b h3
     clear cb b9 es d5
     obtain⟨s1,b0⟩:∃x,(namesP (needP kKEY s.next)).2=x:=⟨_,rfl⟩
     rw[b0]at cw
     have e9:=hid b0
     clear b0
     replace F:=hid (F.weak (S':=fun q=>w.heap.size≤q∧q≠w6.heap.size) fun q y h=>⟨h,by omega⟩)
     go_upto_region 19 with fail
     have hx:=(Ext.refl w6).alloc (.cells #[.slice Ba o.length ka,.string ⟨#[]⟩,.slice none 0 0] 103)
     have c0:=hid (cy.ext hx)
     have b1:=hid (bk.ext hx)
     have d0:=hid (cs.ext hx bk.n)
     have ee:=hid (cw.ext hx)
     have a5:=hid (Stb.ext F hx)
     have ad:=hid (Blk.of_new w6 103 [.slice Ba o.length ka,.string ⟨#[]⟩,.slice none 0 0])
     have a1:Hid (n0≤w6.heap.size):=bk.n
     have dd:Hid (w.heap.size≤w6.heap.size):=cs.size
     clear hx
     clear bk cs cw cy F
     generalize w6.alloc (.cells #[.slice Ba o.length ka,.string ⟨#[]⟩,.slice none 0 0] 103)=w7 at*
     generalize w6.heap.size=gr at*
     go_wp2_with fail
     refine(az (ee.ext ((Ext.refl w7).alloc (.cells #[.string kREFERENCES] 9))) hL kREFERENCES w7.heap.size (by simp[World.cell?_alloc_new])).mono ?_
     rintro _ w8 ⟨v,rfl,m,b,_⟩
     replace b:Chg P w7 w8:=(Chg.of ((Ext.refl w7).alloc (.cells #[.string kREFERENCES] 9))).trans b
     have b3:=hid m
     have cA:=hid (c0.trans b)
     have cl:=hid (b1.chg b g)
     have eb:=hid (d0.chg b b1.n)
     have U:=hid (Stb.grown a5 b (fun q y e=>by have:=Option.some.inj e;have:=g.out;have:=k.n;have bn:w.heap.size≤q:=(by first|exact y|exact y.1);omega))
     have G:=hid (b.blk ad (by have:=g.out;have:=a1.out;omega))
     clear m b
     clear b1 d0 ee c0 a5 ad
     have cH:=hid (b3.tak_size hL 1)
     have r1:=G.cell_some (i:=1) rfl
     have q1:=G.frozen 1
     go_wp2_with fail
     refine(bV b3 hL).mono ?_
     rintro _ w9 ⟨v,rfl,m,b,rfl⟩
     clear r1 q1
     have cf:=hid m
     have c4:=hid (cA.trans b)
     have dk:=hid (cl.chg b g)
     have c2:=hid (eb.chg b cl.n)
     have a2:=hid (Stb.grown U b (fun q y e=>by have:=Option.some.inj e;have:=g.out;have:=k.n;have bn:w.heap.size≤q:=(by first|exact y|exact y.1);omega))
     have B:=hid (b.blk G (by have:=g.out;have:=a1.out;omega))
     clear m b
     clear cl eb b3 cA U G
     obtain⟨X,hX⟩:∃x,(takP 1 (needP kREFERENCES s1)).1=x:=⟨_,rfl⟩
     obtain⟨s2,b6⟩:∃x,(takP 1 (needP kREFERENCES s1)).2=x:=⟨_,rfl⟩
     rw[hX]at cH ⊢
     rw[b6]at cf
     have gc:=hid hX
     have f1:=hid b6
     clear hX b6
     have z9:=B.cell_some (i:=1) rfl
     have y9:=B.frozen 1
     go_upto_region 21 with fail
     have t:=aC w9 gr 1 (.string X)
     have J:∀q,some gr=some q→n0≤q:=fun q e=>by rw[←Option.some.inj e];exact a1
     have bw:=hid (cf.grown t (fun q e=>Nat.lt_of_lt_of_le g (J q e)))
     have Z:=hid (c2.own t J dk.n)
     have ag:=hid (c4.own t (fun q e=>by rw[←Option.some.inj e];exact dd))
     have an:=hid (k.chg ag g)
     have j:=hid (B.set 1 (.string X))
     have O:=hid (Stb.grown a2 t (fun q y e=>y.2 (Option.some.inj e).symm))
     clear t J z9 y9
     clear dk c2 cf c4 a2 B
     generalize w9.setCell ⟨gr,1,none⟩ (.string X)=e7 at*
     have z9:=j.cell_some (i:=2) rfl
     have y9:=j.frozen 2
     go_wp2_with fail
     refine(fl bw hL).mono ?_
     rintro _ ci ⟨v,rfl,m,b,V,kc,rfl,el,h3⟩
     clear z9 y9
     have W:=hid m
     have bx:=hid (ag.trans b)
     have bY:=hid (an.chg b g)
     have bN:=hid (Z.chg b an.n)
     have Q:=hid (Stb.grown O b (fun q y e=>by have:=Option.some.inj e;have:=g.out;have:=k.n;have bn:w.heap.size≤q:=(by first|exact y|exact y.1);omega))
     have u:=hid (b.blk j (by have:=g.out;have:=a1.out;omega))
     have dc:=hid el
     clear el
     obtain⟨p,a6⟩:∃x,(namesP s2).1=x:=⟨_,rfl⟩
     rw[a6]at h3 dc ⊢
     have fA:=hid a6
     clear a6
     have K:Hid (Stb (fun q=>w.heap.size≤q∧q≠gr) ci fun w2=>aO w2 V p):=h3.weak fun q _ y=>⟨Nat.le_trans (Z.size) y,fun e=>by have h8:=j.lt;have h9:e7.heap.size≤q:=y;omega⟩
     clear m b h3
     clear an Z bw ag O j
     obtain⟨s3,cx⟩:∃x,(namesP s2).2=x:=⟨_,rfl⟩
     rw[cx]at W
     have f9:=hid cx
     clear cx
     have z9:=u.cell_some (i:=2) rfl
     have y9:=u.frozen 2
     go_upto_region 22 with fail
     have t:=aC ci gr 2 (.slice V p.length kc)
     have J:∀q,some gr=some q→n0≤q:=fun q e=>by rw[←Option.some.inj e];exact a1
     have e0:=hid (W.grown t (fun q e=>Nat.lt_of_lt_of_le g (J q e)))
     have dx:=hid (bN.own t J bY.n)
     have ds:=hid (bx.own t (fun q e=>by rw[←Option.some.inj e];exact dd))
     have H:=hid (k.chg ds g)
     have a:=hid (u.set 2 (.slice V p.length kc))
     have be:=hid (Stb.grown Q t (fun q y e=>y.2 (Option.some.inj e).symm))
     have bd:=hid (Stb.grown K t (fun q y e=>y.2 (Option.some.inj e).symm))
     clear t J z9 y9
     clear bY bN W bx Q K u
     generalize ci.setCell ⟨gr,2,none⟩ (.slice V p.length kc)=ac at*
     have c6:Hid (R=(({ d with frs:=d.frs++ [⟨o,X,p⟩] },l),s3)):=by
      unfold Hid
      rw[HM.out,a9,if_neg (by simp),bm,if_neg (by simp),ba,if_neg (by simp),bf,if_pos rfl]
      have e:refP (needP kKEY s.next)=(⟨(namesP (needP kKEY s.next)).1,(takP 1 (needP kREFERENCES (namesP (needP kKEY s.next)).2)).1,(namesP (takP 1 (needP kREFERENCES (namesP (needP kKEY s.next)).2)).2).1⟩,(namesP (takP 1 (needP kREFERENCES (namesP (needP kKEY s.next)).2)).2).2):=rfl
      rw[e,e9.out,f0.out,gc.out,f1.out,fA.out,f9.out]
     have ax:=(Ext.refl ac).drew
     have E:=(Ext.refl ac).drew.alloc (.cells #[.slice Ba o.length ka,.string X,.slice V p.length kc] 103)
     have C:=hid (H.ext E)
     have e6:=hid (e0.ext E)
     have e5:=hid (dx.ext E H.n)
     have ga:=hid (k.df.fine k.bs k.n ((Stb.ext be E).weak fun q _ y=>y.1))
     have e4:=hid (k.df.fine k.bs k.n ((Stb.ext bd E).weak fun q _ y=>y.1))
     have e3:Hid (n0≤(ac.drew.alloc (.cells #[.slice Ba o.length ka,.string X,.slice V p.length kc] 103)).heap.size):=C.n
     have p0:=(a.ext ax).cell_some (i:=0) rfl
     have q0:=(a.ext E).cell_some (i:=0) rfl
     have p1:=(a.ext ax).cell_some (i:=1) rfl
     have q1:=(a.ext E).cell_some (i:=1) rfl
     have p2:=(a.ext ax).cell_some (i:=2) rfl
     have q2:=(a.ext E).cell_some (i:=2) rfl
     have Y:=(Ext.refl ac).alloc (.cells #[.slice Ba o.length ka,.string X,.slice V p.length kc] 103)
     have gy:=a.cell_some (i:=0) rfl
     have g1:=(a.ext Y).cell_some (i:=0) rfl
     have gm:=a.cell_some (i:=1) rfl
     have hi:=(a.ext Y).cell_some (i:=1) rfl
     have hc:=a.cell_some (i:=2) rfl
     have hh:=(a.ext Y).cell_some (i:=2) rfl
     have g0:=H.blk.cell_some (i:=4) rfl
     have gt:=(H.ext Y).blk.cell_some (i:=4) rfl
     clear Y
     have z3:=(H.ext ax).blk.cell_some (i:=4) rfl
     have z4:=C.blk.cell_some (i:=4) rfl
     clear ax E
     go_upto_region 22 with fail
     go_region_law (first
      |(refine aS _ rfl (.tmp 105) (.tmp 107) 26 rfl n0 103 iq _ 3 64 Tryz.underlying26 f4 f2 fn bn rfl (by decide) _ d.frs.length _ rfl C.df.f.own _ _ 1 1 [.slice Ba o.length ka,.string X,.slice V p.length kc] rfl (bW ac.drew [.slice Ba o.length ka,.string X,.slice V p.length kc] 103 3 rfl) (by simp[Value.oneCell']) (by unfold maxLen;omega) (by omega) e3 ?_;intro v7 w7 I z a4;obtain⟨A7,c7,rfl⟩:=bJ I;have cc:=C.blk.grown z C.nef.1;have z9:=cc.cell_some (i:=4) rfl;have y9:=cc.frozen 4;clear cc))
     all_goals
      have a3:∀q,D.vf.ownBlock=some q→n0≤q:=C.gef
      have e1:=hid (C.pushf rfl I z a4 (show Stb _ _ (ia ⟨o,X,p⟩ [.slice Ba o.length ka,.string X,.slice V p.length kc]) from(ga.and e4).imp fun w2 h=>⟨Ba,ka,V,kc,rfl,by have:=cH.out;show X.size≤_;omega,c1,dc,h.1,h.2⟩))
      have gd:=hid ((e6.grown z (fun q e=>Nat.lt_of_lt_of_le g (a3 q e))).grown (aC w7 gs 4 (.slice A7 (d.frs.length+1) c7)) (fun q e=>by have:=Option.some.inj e;have:=g.out;have:=d4.out;omega))
      have fs:=hid ((e5.own z a3 C.n).own (aC w7 gs 4 (.slice A7 (d.frs.length+1) c7)) (fun q e=>by rw[←Option.some.inj e];exact d4) (Nat.le_trans C.n (World.grownBy.size z)))
      clear I z a4 a3
      go_wp2_with fail
      exact bodyPost_end (v:= .tuple #[]) (by simp[results,Tryz.results99,go_sem]) rfl ⟨_,_,rfl,by rw[c6.out];exact gd,fs,by rw[c6.out];exact e1⟩
   ·exact absurd (ba.symm.trans f7) (by simp)
  ·exact absurd (bm.symm.trans fr) (by simp)
 ·exact absurd (a9.symm.trans gb) (by simp)
theorem nh {n:Nat} {ex:M Ex} (hr:Rdr 68 P A c L w0 n 39 ex) (hn:s.r.length<n) (hE:Er w0) {n0 gs Mp:Nat} {x0 x1:Value} {post:List Value} {D:DV} {d:Df} {l:List ByteArray} (hP:P<n0)
  (hd:DefAt n0 gs Mp 40 9 4 x0 x1 post w D d l) (hb:d.cols.length≤1000000∧d.keys.length≤1000000∧d.frs.length≤1000000∧d.chk.length≤1000000∧l.length≤1000000000)
  (b2:isS aJ s=false) (be:isS aZ s=false) (b1:isS bC s=false) (a9:isS bp s=false) (hp:PsAt 68 P A c L w0 w s) (hL:TkL L):
  Calls Tryz.prog 99 #[.pointer (some ⟨P,0,none⟩),.pointer (some ⟨gs,2,none⟩),.map (some Mp)] w fun e w'=> ∃v D',e= .returned v∧PsAt 68 P A c L w0 w' (elemP ex d l s).2∧Chn n0 P w w'∧
   DefAt n0 gs Mp 40 9 4 x0 x1 post w' D' (elemP ex d l s).1.1 (elemP ex d l s).1.2:=by
 obtain⟨ic,bm,bd,bx,bf⟩:=aX eF
 obtain⟨ik,cf,cw,cv,cc⟩:=aX eG
 obtain⟨iq,cl,ck,ci,cx⟩:=aX eH
 obtain⟨ix,cb,cs,cj,b7⟩:=aX eI
 obtain⟨cy,t,C,z,B⟩:=hb
 have bN:=hid hp
 have W:=hid hd
 have bY:=hid (Chn.refl n0 P w)
 have a3:=hid (Chg.refl P w)
 have HM:Hid (elemP ex d l s=if isS aJ s=true then (({ d with keys:=d.keys++ [(namesP (needP kKEY s.next)).1] },l++(namesP (needP kKEY s.next)).1),(namesP (needP kKEY s.next)).2)
  else if isS aZ s=true then (({ d with keys:=d.keys++ [(namesP s.next).1] },l),(namesP s.next).2)
  else if isS bC s=true then (({ d with chk:=d.chk++ [(ex (needP yLp s.next)).1] },l),needP yRp (ex (needP yLp s.next)).2)
  else if isS bp s=true then (({ d with frs:=d.frs++ [(refP (needP kKEY s.next)).1] },l),(refP (needP kKEY s.next)).2)
  else (({ d with cols:=d.cols++ [(cX s).1] },l),(cX s).2)):=rfl
 obtain⟨R,hR⟩:∃R,elemP ex d l s=R:=⟨_,rfl⟩
 rw[hR]at HM ⊢
 have h:=hid hP
 have b4:Hid (Mp<w.heap.size):=hd.map.lt
 have b5:Hid (gs<w.heap.size):=hd.blk.lt
 have ax:Hid (n0≤gs):=hd.hgs
 clear hp hd hR
 go_enter Tryz.func99,Tryz.ntmps99
 go_wp2_with fail
 refine(ai bN hL aJ).mono ?_
 rintro _ w1 ⟨v,rfl,m,b,rfl⟩
 have Q:=hid m
 have ad:=hid (a3.trans b)
 have J:=hid (W.chg b h)
 have an:=hid (bY.chg b W.n)
 clear m b
 cases t:isS aJ s
 ·have e:(aq aJ s).2=s:=by simp[aq,t]
  rw[e]at Q
  clear e
  go_wp2_with fail
  refine(ai Q hL aZ).mono ?_
  rintro _ w2 ⟨v,rfl,m,b,rfl⟩
  have O:=hid m
  have a1:=hid (ad.trans b)
  have I:=hid (J.chg b h)
  have ac:=hid (an.chg b J.n)
  clear m b
  clear J an Q ad
  cases C:isS aZ s
  ·have e:(aq aZ s).2=s:=by simp[aq,C]
   rw[e]at O
   clear e
   go_wp2_with fail
   refine(ai O hL bC).mono ?_
   rintro _ E ⟨v,rfl,m,b,rfl⟩
   have F:=hid m
   have Y:=hid (a1.trans b)
   have j:=hid (I.chg b h)
   have a0:=hid (ac.chg b I.n)
   clear m b
   clear I ac O a1
   cases z:isS bC s
   ·have e:(aq bC s).2=s:=by simp[aq,z]
    rw[e]at F
    clear e
    go_wp2_with fail
    refine(ai F hL bp).mono ?_
    rintro _ U ⟨v,rfl,m,b,rfl⟩
    have X:=hid m
    have b9:=hid (Y.trans b)
    have y:=hid (j.chg b h)
    have bw:=hid (a0.chg b j.n)
    clear m b
    clear j a0 F Y
    cases B:isS bp s
    ·have e:(aq bp s).2=s:=by simp[aq,B]
     rw[e]at X
     clear e
     have K:=kj hE (X.ext (Ext.refl U).drew) hL
     obtain⟨cd,G⟩:∃x,(cX s).1=x:=⟨_,rfl⟩
     obtain⟨stb,k⟩:∃x,(cX s).2=x:=⟨_,rfl⟩
     have Z:Hid (R=(({ d with cols:=d.cols++ [cd] },l),stb)):=by unfold Hid;rw[HM.out,t,if_neg (by simp),C,if_neg (by simp),z,if_neg (by simp),B,if_neg (by simp),G,k]
     rw[G,k]at K
     clear G k
     obtain⟨nm,ty,lo,hi,mx,nn⟩:=cd
     have b0:Hid (Calls Tryz.prog 177 #[.pointer (some ⟨P,0,none⟩)] U.drew fun e E=>e= .returned (.agg #[.string nm,.int .i64 ty,.int .i64 lo,.int .i64 hi,.int .i64 mx,.bool nn])∧(nm.size≤9223372036854775807∧I64 ty∧I64 lo∧I64 hi∧I64 mx)∧PsAt 68 P A c L w0 E stb∧Chg P U E):=
      K.mono fun e E ⟨v,he,h5,V,hv,bk⟩=>⟨by rw[he,hv],bk,h5,(Chg.of (Ext.refl U).drew).trans V⟩
     clear K
     have z1:=y.blk.cell_some (i:=2) rfl
     have b6:U.drew.cell? ⟨gs,2,none⟩=some D.vc:=(y.ext (Ext.refl U).drew).blk.cell_some (i:=2) rfl
     go_upto_region 0 with fail
     go_region_law (first
      |(refine aS _ rfl (.tmp 14) (.tmp 17) 24 rfl n0 99 ic _ 6 56 Tryz.underlying24 bm bd bx bf rfl (by decide) _ d.cols.length _ rfl f.df.c.own _ _ 1 1 [.string nm,.int .i64 ty,.int .i64 lo,.int .i64 hi,.int .i64 mx,.bool nn] rfl (bW E [.string nm,.int .i64 ty,.int .i64 lo,.int .i64 hi,.int .i64 mx,.bool nn] 99 6 rfl) (by simp[Value.oneCell']) (by unfold maxLen;omega) (by omega) a4 ?_;intro v7 w7 g a p;obtain⟨A7,c7,rfl⟩:=bJ g;have H:=f.blk.grown a f.nec.1;have z9:=H.cell_some (i:=2) rfl;have y9:=H.frozen 2;clear H)
      |(go_simp;go_at_call 177;(with_reducible refine b0.out.mono ?_);rintro _ E ⟨rfl,ag,h5,V⟩;have j:=hid (y.chg V h);have u:=(Ext.refl E).alloc (.cells #[.string nm,.int .i64 ty,.int .i64 lo,.int .i64 hi,.int .i64 mx,.bool nn] 99);have f:=hid (j.ext u);have a6:=hid (h5.ext u);have a5:=hid ((bw.chg V y.n).ext u j.n);have a4:Hid (n0≤(E.alloc (.cells #[.string nm,.int .i64 ty,.int .i64 lo,.int .i64 hi,.int .i64 mx,.bool nn] 99)).heap.size):=f.n;have ba:=hid ag;clear ag;have z3:=j.blk.cell_some (i:=2) rfl;have z4:=f.blk.cell_some (i:=2) rfl;clear u h5 V))
     all_goals
      have o:∀q,D.vc.ownBlock=some q→n0≤q:=f.gec
      have a2:=hid (f.pushc rfl g a p (show Stb _ _ (hZ ⟨nm,ty,lo,hi,mx,nn⟩ [.string nm,.int .i64 ty,.int .i64 lo,.int .i64 hi,.int .i64 mx,.bool nn]) from fun w2 _ _=>⟨rfl,ba⟩))
      have b3:=hid ((a6.grown a (fun q e=>Nat.lt_of_lt_of_le h (o q e))).grown (aC w7 gs 2 (.slice A7 (d.cols.length+1) c7)) (fun q e=>by have:=Option.some.inj e;have:=h.out;have:=ax.out;omega))
      have bn:=hid ((a5.own a o f.n).own (aC w7 gs 2 (.slice A7 (d.cols.length+1) c7)) (fun q e=>by rw[←Option.some.inj e];exact ax) (Nat.le_trans f.n (World.grownBy.size a)))
      clear g a p o
      go_wp2_with fail
      exact bodyPost_end (v:= .tuple #[]) (by simp[results,Tryz.results99,go_sem]) rfl ⟨_,_,rfl,by rw[Z.out];exact b3,bn,by rw[Z.out];exact a2⟩
    ·exact absurd (B.symm.trans a9) (by simp)
   ·exact absurd (z.symm.trans b1) (by simp)
  ·exact absurd (C.symm.trans be) (by simp)
 ·exact absurd (t.symm.trans b2) (by simp)
theorem j7 {n:Nat} {ex:M Ex} (g:Rdr 68 P A c L w0 n 39 ex) (k:s.r.length<n) (h:Er w0) {n0 gs o:Nat} {x0 x1:Value} {post:List Value} {D:DV} {d:Df} {l:List ByteArray} (a:P<n0)
  (hd:DefAt n0 gs o 40 9 4 x0 x1 post w D d l) (j:d.cols.length≤1000000∧d.keys.length≤1000000∧d.frs.length≤1000000∧d.chk.length≤1000000∧l.length≤1000000000)
  (f:PsAt 68 P A c L w0 w s) (b:TkL L):
  Calls Tryz.prog 99 #[.pointer (some ⟨P,0,none⟩),.pointer (some ⟨gs,2,none⟩),.map (some o)] w fun e w'=> ∃v t,e= .returned v∧PsAt 68 P A c L w0 w' (elemP ex d l s).2∧Chn n0 P w w'∧
   DefAt n0 gs o 40 9 4 x0 x1 post w' t (elemP ex d l s).1.1 (elemP ex d l s).1.2:=by
 cases i:isS aJ s with
 |true=>exact m8 g k h a hd j i f b
 |false=>
  cases m:isS aZ s with
  |true=>exact na g k h a hd j i m f b
  |false=>
   cases p:isS bC s with
   |true=>exact nc g k h a hd j i m p f b
   |false=>
    cases q:isS bp s with
    |true=>exact nf g k h a hd j i m p q f b
    |false=>exact nh g k h a hd j i m p q f b
end
end
end Go.Proofs.YtjigcpfjhfoheaaGreatDoor
