/- Walk: CREATE TABLE; Walk: an item; Walk: a SELECT statement. -/
import Derived.Test.YtjigcpfjhfoheaaGreatDoorYcf
import Derived.Test.YtjigcpfjhfoheaaGreatDoorYce
import Derived.Test.YtjigcpfjhfoheaaGreatDoorYae
import Derived.Test.YtjigcpfjhfoheaaGreatDoorYcd
namespace Go.Proofs.YtjigcpfjhfoheaaGreatDoor
open Go.RowKit
set_option maxHeartbeats 16000000
set_option maxRecDepth 100000
set_option linter.unusedVariables false
set_option linter.unusedSimpArgs false
section
open Lx (Tk)
def creS (t:ByteArray) (x:Df×List ByteArray):St:= { stZ with kd:=1,tb:=t,cols:=x.1.cols.map (nnC x.2),keys:=x.1.keys,frs:=x.1.frs,chk:=x.1.chk }
theorem elems_eq (ex:M Ex) (s:Ps):eo ex s=elemGo ex (s.r.length+1) (elemP ex ⟨[],[],[],[]⟩ [] s).1.1 (elemP ex ⟨[],[],[],[]⟩ [] s).1.2 (elemP ex ⟨[],[],[],[]⟩ [] s).2:=rfl
theorem nk (ex:M Ex) (m:Nat) (d:Df) (l:List ByteArray) (st:Ps):elemGo ex (m+1) d l st=if isS yCm st=true then elemGo ex m (elemP ex d l st.next).1.1 (elemP ex d l st.next).1.2 (elemP ex d l st.next).2 else ((d,l),st):=rfl
theorem create_st {w:World} {X:ByteArray} {d:Df} {l:List ByteArray} {g f a e:Option Addr} {c1 c2 c3 c4:Nat} (o:X.size≤20000) (p:d.cols.length≤20001∧d.keys.length≤20001∧d.frs.length≤20001∧d.chk.length≤20001)
  (k:gn w g (d.cols.map (nnC l))) (j:dX w f d.keys) (m:go w a d.frs) (n:KidsAt w e d.chk):
  StV w (creS X (d,l)) ⟨⟨g,d.cols.length,c1⟩,⟨f,d.keys.length,c2⟩,⟨a,d.frs.length,c3⟩,⟨e,d.chk.length,c4⟩,⟨none,0,0⟩,⟨none,0,0⟩,⟨none,0,0⟩,⟨none,0,0⟩,⟨none,0,0⟩,⟨none,0,0⟩,⟨none,0,0⟩⟩:=by
 refine⟨i64_1,by show X.size≤_;omega,bG,by show 0≤9223372036854775807;omega,⟨by simp[creS],by show d.cols.length≤_;omega,k⟩,⟨rfl,by show d.keys.length≤_;omega,j⟩,⟨rfl,by show d.frs.length≤_;omega,m⟩,⟨rfl,by show d.chk.length≤_;omega,n⟩,
  ⟨rfl,by show 0≤_;omega,?_⟩,(fun l h=>by cases h),⟨rfl,by show 0≤_;omega,fun i x h=>by cases h⟩,⟨rfl,by show 0≤_;omega,fun i x h=>by cases h⟩,⟨rfl,by show 0≤_;omega,fun i x h=>by cases h⟩,ib w,⟨rfl,by show 0≤_;omega,kids_nil _ _⟩,⟨rfl,by show 0≤_;omega,fun i x h=>by cases h⟩⟩
 intro i l h
 cases h
section
variable {P c:Nat} {A:Option Addr} {L:List Tk} {w0 w:World} {s:Ps}
theorem create_rd {n:Nat} {ex:M Ex} (hr:Rdr 68 P A c L w0 n 39 ex) (cb:Fwd ex) (hn:s.r.length<n) (hE:Er w0) (hp:PsAt 68 P A c L w0 w s) (hL:TkL L):
  Calls Tryz.prog 54 #[.pointer (some ⟨P,0,none⟩)] w (Ran 68 P A c L w0 w (createP ex s).2 fun v w'=>ElSt w.heap.size w' (createP ex s).1 v):=by
 have b6:=(Ext.refl w).alloc (.cells #[.int .i64 0,.string ⟨#[]⟩,.slice none 0 0,.slice none 0 0,.slice none 0 0,.slice none 0 0,.slice none 0 0,.slice none 0 0,.slice none 0 0,.slice none 0 0,.int .i64 0,.string ⟨#[]⟩,.string ⟨#[]⟩,.int .i64 0,.int .i64 0,.int .i64 0,.string ⟨#[]⟩,.slice none 0 0,.slice none 0 0,.slice none 0 0,.int .i64 0,.string ⟨#[]⟩] 40)
 have ha:=hid (hp.ext b6)
 have ee:Hid (P<w.heap.size):=hp.lt
 have cv:=hid (Blk.of_new w 40 sC)
 have hb:=hid (Chg.of (P:=P) b6)
 have HM:Hid (createP ex s=((fun (t:ByteArray×Ps)=> (fun (y:(Df×List ByteArray)×Ps)=> (creS t.1 y.1,needP yRp y.2)) (eo ex (needP yLp t.2))) (takP 1 (needP dE s)))):=rfl
 have hI:Hid (w.heap.size≤(w.alloc (.cells #[.int .i64 0,.string ⟨#[]⟩,.slice none 0 0,.slice none 0 0,.slice none 0 0,.slice none 0 0,.slice none 0 0,.slice none 0 0,.slice none 0 0,.slice none 0 0,.int .i64 0,.string ⟨#[]⟩,.string ⟨#[]⟩,.int .i64 0,.int .i64 0,.int .i64 0,.string ⟨#[]⟩,.slice none 0 0,.slice none 0 0,.slice none 0 0,.int .i64 0,.string ⟨#[]⟩] 40)).heap.size):=b6.size
 obtain⟨R,hR⟩:∃R,createP ex s=R:=⟨_,rfl⟩
 rw[hR]at HM ⊢
 clear hp b6 hR
 go_enter Tryz.func54,Tryz.ntmps54
 go_upto_region 1 with fail
 generalize w.alloc (.cells #[.int .i64 0,.string ⟨#[]⟩,.slice none 0 0,.slice none 0 0,.slice none 0 0,.slice none 0 0,.slice none 0 0,.slice none 0 0,.slice none 0 0,.slice none 0 0,.int .i64 0,.string ⟨#[]⟩,.string ⟨#[]⟩,.int .i64 0,.int .i64 0,.int .i64 0,.string ⟨#[]⟩,.slice none 0 0,.slice none 0 0,.slice none 0 0,.int .i64 0,.string ⟨#[]⟩] 40)=wz at*
 obtain⟨Z,c0⟩:∃g,w.heap.size=g:=⟨_,rfl⟩
 have c6:=hid c0
 rw[c0]at ee cv hI ⊢
 clear c0
 have HG:=ee
 have hV:=aH dE s
 go_wp2_with fail
 refine(az (ha.ext ((Ext.refl wz).alloc (.cells #[.string dE] 9))) hL dE wz.heap.size (by simp[World.cell?_alloc_new])).mono ?_
 rintro _ w1 ⟨v,rfl,z,j,_⟩
 replace j:Chg P wz w1:=(Chg.of ((Ext.refl wz).alloc (.cells #[.string dE] 9))).trans j
 have d3:=hid z
 have fA:=hid (j.blk cv (by have:=HG.out;omega))
 have g3:=hid (hb.trans j)
 clear z j
 clear cv hb ha
 have el:=hid (d3.tak_size hL 1)
 have hv:=fwd_tak 1 (needP dE s)
 go_wp2_with fail
 refine(bV d3 hL).mono ?_
 rintro _ w2 ⟨v,rfl,z,j,rfl⟩
 have dx:=hid z
 have c5:=hid (j.blk fA (by have:=HG.out;omega))
 have f7:=hid (g3.trans j)
 clear z j
 clear fA g3 d3
 obtain⟨X,hX⟩:∃x,(takP 1 (needP dE s)).1=x:=⟨_,rfl⟩
 obtain⟨s2,cH⟩:∃x,(takP 1 (needP dE s)).2=x:=⟨_,rfl⟩
 rw[hX]at el ⊢
 rw[cH]at dx hv
 have hK:=hid hX
 have hD:=hid cH
 clear hX cH
 go_upto_region 3 with (first
  |(refine wpList_buildTo rfl 40 _ rfl (some 12) rfl #[.int .i64 1,.string X,.slice none 0 0,.slice none 0 0,.slice none 0 0,.slice none 0 0,.slice none 0 0,.slice none 0 0,.slice none 0 0,.slice none 0 0,.int .i64 0,.string ⟨#[]⟩,.string ⟨#[]⟩,.int .i64 0,.int .i64 0,.int .i64 0,.string ⟨#[]⟩,.slice none 0 0,.slice none 0 0,.slice none 0 0,.int .i64 0,.string ⟨#[]⟩] (by kernel_rfl) ?_)
  |(refine Great.wpList_allocTo rfl (some 3) rfl (.pointer (some ⟨w2.heap.size,0,none⟩)) (.cells #[.int .i64 0,.string ⟨#[]⟩,.slice none 0 0,.slice none 0 0,.slice none 0 0,.slice none 0 0,.slice none 0 0,.slice none 0 0,.slice none 0 0,.slice none 0 0,.int .i64 0,.string ⟨#[]⟩,.string ⟨#[]⟩,.int .i64 0,.int .i64 0,.int .i64 0,.string ⟨#[]⟩,.slice none 0 0,.slice none 0 0,.slice none 0 0,.int .i64 0,.string ⟨#[]⟩] 40) (by kernel_rfl) ?_)
  |(refine wpList_store_rowTo rfl 40 (.tmp 3) (.tmp 12) rfl rfl w2.heap.size #[.int .i64 1,.string X,.slice none 0 0,.slice none 0 0,.slice none 0 0,.slice none 0 0,.slice none 0 0,.slice none 0 0,.slice none 0 0,.slice none 0 0,.int .i64 0,.string ⟨#[]⟩,.string ⟨#[]⟩,.int .i64 0,.int .i64 0,.int .i64 0,.string ⟨#[]⟩,.slice none 0 0,.slice none 0 0,.slice none 0 0,.int .i64 0,.string ⟨#[]⟩] rfl rfl 40 #[.int .i64 0,.string ⟨#[]⟩,.slice none 0 0,.slice none 0 0,.slice none 0 0,.slice none 0 0,.slice none 0 0,.slice none 0 0,.slice none 0 0,.slice none 0 0,.int .i64 0,.string ⟨#[]⟩,.string ⟨#[]⟩,.int .i64 0,.int .i64 0,.int .i64 0,.string ⟨#[]⟩,.slice none 0 0,.slice none 0 0,.slice none 0 0,.int .i64 0,.string ⟨#[]⟩] (heap_alloc_new w2 _) (by kernel_rfl) (by kernel_rfl) (by kernel_rfl) ?_;rw[World.setRow_alloc_new]))
 simp only[Act.put,List.setIfInBounds_toArray,List.set_cons_succ,List.set_cons_zero]
 have H:=(Ext.refl w2).alloc (.cells #[.int .i64 1,.string X,.slice none 0 0,.slice none 0 0,.slice none 0 0,.slice none 0 0,.slice none 0 0,.slice none 0 0,.slice none 0 0,.slice none 0 0,.int .i64 0,.string ⟨#[]⟩,.string ⟨#[]⟩,.int .i64 0,.int .i64 0,.int .i64 0,.string ⟨#[]⟩,.slice none 0 0,.slice none 0 0,.slice none 0 0,.int .i64 0,.string ⟨#[]⟩] 40)
 have e9:=hid (c5.ext H)
 have g7:=hid (f7.ext H)
 have f0:=hid (dx.ext H)
 have bn:=hid (Blk.of_new w2 40 (sC (k:=1) (t:=X)))
 have ds:Hid (Z<w2.heap.size):=c5.lt
 clear H
 clear c5 f7 dx
 generalize w2.alloc (.cells #[.int .i64 1,.string X,.slice none 0 0,.slice none 0 0,.slice none 0 0,.slice none 0 0,.slice none 0 0,.slice none 0 0,.slice none 0 0,.slice none 0 0,.int .i64 0,.string ⟨#[]⟩,.string ⟨#[]⟩,.int .i64 0,.int .i64 0,.int .i64 0,.string ⟨#[]⟩,.slice none 0 0,.slice none 0 0,.slice none 0 0,.int .i64 0,.string ⟨#[]⟩] 40)=w3 at*
 generalize w2.heap.size=gv at*
 have es:=aH yLp s2
 go_wp2_with fail
 refine(az (f0.ext ((Ext.refl w3).alloc (.cells #[.string yLp] 9))) hL yLp w3.heap.size (by simp[World.cell?_alloc_new])).mono ?_
 rintro _ w4 ⟨v,rfl,z,j,_⟩
 replace j:Chg P w3 w4:=(Chg.of ((Ext.refl w3).alloc (.cells #[.string yLp] 9))).trans j
 have cs:=hid z
 have g4:=hid (j.blk e9 (by have:=HG.out;omega))
 have g1:=hid (g7.trans j)
 have K:=hid (j.blk bn (by have:=HG.out;have:=ds.out;omega))
 clear z j
 clear e9 g7 f0 bn
 obtain⟨u,b9⟩:∃x,needP yLp s2=x:=⟨_,rfl⟩
 rw[b9]at cs es
 have hG:=hid b9
 clear b9
 have dc:Hid (R=(creS X (elemGo ex (u.r.length+1) (elemP ex ⟨[],[],[],[]⟩ [] u).1.1 (elemP ex ⟨[],[],[],[]⟩ [] u).1.2 (elemP ex ⟨[],[],[],[]⟩ [] u).2).1,needP yRp (elemGo ex (u.r.length+1) (elemP ex ⟨[],[],[],[]⟩ [] u).1.1 (elemP ex ⟨[],[],[],[]⟩ [] u).1.2 (elemP ex ⟨[],[],[],[]⟩ [] u).2).2)):=by
  unfold Hid
  rw[HM.out,show takP 1 (needP dE s)=(X,s2) from Prod.ext hK.out hD.out]
  simp only[hG.out]
  rw[elems_eq]
 have hu:= @run_makeMap Tryz.prog
 go_upto_region 5 with fail
 clear hu
 have H:=(Ext.refl w4).alloc (.map #[] 0)
 have d0:=hid (g4.ext H)
 have ga:=hid (g1.ext H)
 have d5:=hid (cs.ext H)
 have be:=hid (K.ext H)
 have e7:=hid (StrMap.made w4 Tryz.prog 9 4)
 have g8:Hid (gv<w4.heap.size):=K.lt
 clear H
 clear g4 g1 cs K
 generalize w4.alloc (.map #[] 0)=w5 at*
 generalize w4.heap.size=gm at*
 have gb:=hid (DefAt.start (n0:=Z+1) (gs:=gv) (M:=gm) (x0:= .int .i64 1) (x1:= .string X) (post:= [.slice none 0 0,.slice none 0 0,.slice none 0 0,.slice none 0 0,.int .i64 0,.string ⟨#[]⟩,.string ⟨#[]⟩,.int .i64 0,.int .i64 0,.int .i64 0,.string ⟨#[]⟩,.slice none 0 0,.slice none 0 0,.slice none 0 0,.int .i64 0,.string ⟨#[]⟩]) (by have:=ds.out;omega) (by have:=g8.out;have:=ds.out;omega) (by have:=g8.out;omega) d0.lt be e7)
 have a9:Hid (P<Z+1):=by have:=HG.out;unfold Hid;omega
 have cw:Hid (w.heap.size≤Z+1):=by unfold Hid;rw[c6.out];omega
 have J:=hid (kR cb ⟨[],[],[],[]⟩ [] u)
 have O:=hid (mV (ex:=ex) ⟨[],[],[],[]⟩ [] u)
 have I:=hid (j6 cb ⟨[],[],[],[]⟩ [] u)
 have ho:=hid d5.le
 have hQ:=hL.len
 have b9:u.r.length≤20000:=by have:=ho.out;omega
 go_wp2_with fail
 refine(j7 hr (by omega) hE a9 gb (by simp) d5 hL).mono ?_
 rintro _ w6 ⟨v,D1,rfl,z,j,h3⟩
 have d4:=hid z
 have dk:=hid h3
 have he:=hid (Chn.to ga j cw)
 have gl:=hid (j.blk d0 (Nat.lt_succ_self _) (by have:=HG.out;omega))
 clear z j h3 d5 gb ga d0 be e7
 obtain⟨E,cy⟩:∃E,elemGo ex (u.r.length+1) (elemP ex ⟨[],[],[],[]⟩ [] u).1.1 (elemP ex ⟨[],[],[],[]⟩ [] u).1.2 (elemP ex ⟨[],[],[],[]⟩ [] u).2=E:=⟨_,rfl⟩
 rw[cy]at dc
 have cA:=hid cy
 clear cy
 obtain⟨⟨⟨dd,ll⟩,ss⟩,bk⟩:∃x,elemP ex ⟨[],[],[],[]⟩ [] u=x:=⟨_,rfl⟩
 rw[bk]at d4 dk cA J O I
 clear bk
 have d6:Hid (ll.length+ss.r.length≤u.r.length+1):=by have:=J.out;unfold Hid;simpa using this
 have f9:Hid (dd.cols.length≤1∧dd.keys.length≤1∧dd.frs.length≤1∧dd.chk.length≤1):=by have:=O.out;unfold Hid;simpa using this
 have hz:ss.r.length≤u.r.length:=I.out
 go_wp2_with fail
 go_loopw [22] (fun _ wr=> ∃(m:Nat) (st:Ps) (D:DV) (d:Df) (l:List ByteArray),elemGo ex m d l st=E∧st.r.length<m∧st.r.length≤u.r.length∧l.length+st.r.length≤u.r.length+1∧(d.cols.length+st.r.length≤u.r.length+1∧d.keys.length+st.r.length≤u.r.length+1∧d.frs.length+st.r.length≤u.r.length+1∧d.chk.length+st.r.length≤u.r.length+1)∧PsAt 68 P A c L w0 wr st∧Chg P w wr∧Blk wr Z 40 sC∧DefAt (Z+1) gv gm 40 9 4 (.int .i64 1) (.string X) [.slice none 0 0,.slice none 0 0,.slice none 0 0,.slice none 0 0,.int .i64 0,.string ⟨#[]⟩,.string ⟨#[]⟩,.int .i64 0,.int .i64 0,.int .i64 0,.string ⟨#[]⟩,.slice none 0 0,.slice none 0 0,.slice none 0 0,.int .i64 0,.string ⟨#[]⟩] wr D d l) (fun _ wr=>20001-posOf P wr)
 case atStart=>exact⟨_,ss,D1,dd,ll,cA,by omega,hz,d6,by have:=f9.out;omega,d4,he,gl,dk⟩
 case round=>
  clear d4 he gl dk d6 f9 J O I cA
  obtain⟨m,st,D,d,l,cl,hm,h7,h5,hS,z,j,h3,h4⟩:=hrel
  have hF:Hid (posOf P wr=L.length-st.r.length):=z.posOf
  have hN:=z.le
  have hP:=z.ne
  have ck:=hid z
  have cj:=hid j
  have cd:=hid h3
  have ci:=hid h4
  clear z j h3 h4
  generalize wr=hT at*
  obtain⟨m,rfl⟩:∃x,m=x+1:=⟨m-1,by omega⟩
  rw[nk]at cl
  have b2:=hid cl
  clear cl
  go_wp2_with fail
  refine(ai ck hL yCm).mono ?_
  rintro _ b7 ⟨v,rfl,z,j,rfl⟩
  have G:=hid z
  have ag:=hid (cj.trans j)
  have ad:=hid (j.blk cd (by have:=HG.out;omega))
  have a2:=hid (ci.chg j a9)
  clear z j ck cj cd ci
  cases bm:isS yCm st
  ·have e:(aq yCm st).2=st:=by simp[aq,bm]
   rw[e]at G
   have a3:Hid (((d,l),st)=E):=by have:=b2.out;rwa [bm,if_neg (by simp)]at this
   clear e b2
   have f1:Hid (R=(creS X (d,l),needP yRp st)):=by
    unfold Hid
    rw[dc.out,←a3.out]
   clear dc a3
   go_wp2_with fail
   refine(az (G.ext ((Ext.refl b7).alloc (.cells #[.string yRp] 9))) hL yRp b7.heap.size (by simp[World.cell?_alloc_new])).mono ?_
   rintro _ gy ⟨v,rfl,z,j,_⟩
   replace j:Chg P b7 gy:=(Chg.of ((Ext.refl b7).alloc (.cells #[.string yRp] 9))).trans j
   have F:=hid z
   have ax:=hid (ag.trans j)
   have U:=hid (j.blk ad (by have:=HG.out;omega))
   have B:=hid (a2.chg j a9)
   clear z j G ag ad a2
   have h8:d.cols.length≤20001:=by omega
   obtain⟨ac,cc,d1⟩:=bJ B.df.c.own
   have d7:=hid d1
   have z2:=B.blk.cell_some (i:=2) rfl
   rw[d1]at z2
   clear d1
   have hY:Hid (l.length≤20001):=by unfold Hid;omega
   go_wp2_with fail
   go_loopw [34] (fun iv wr=> ∃k:Nat,k≤d.cols.length∧iv= .int .i64 k∧PsAt 68 P A c L w0 wr (needP yRp st)∧Chg P w wr∧Blk wr Z 40 sC∧∃D2:DV,D2.vc= .slice ac d.cols.length cc∧DefAt (Z+1) gv gm 40 9 4 (.int .i64 1) (.string X) [.slice none 0 0,.slice none 0 0,.slice none 0 0,.slice none 0 0,.int .i64 0,.string ⟨#[]⟩,.string ⟨#[]⟩,.int .i64 0,.int .i64 0,.int .i64 0,.string ⟨#[]⟩,.slice none 0 0,.slice none 0 0,.slice none 0 0,.int .i64 0,.string ⟨#[]⟩] wr D2 { d with cols:=(d.cols.take k).map (nnC l)++d.cols.drop k } l) (fun i _=>d.cols.length- (intOf i).toNat)
   case atStart=>exact⟨0,Nat.zero_le _,rfl,F,ax,U,D,d7,by simpa using B.out⟩
   case round=>
    obtain⟨k,hk,rfl,z,j,h3,D2,f6,h4⟩:=hrel
    have bf:=hid z
    have a5:=hid j
    have Y:=hid h3
    have o:=hid h4
    have a4:=hid f6
    clear z j h3 h4 f6 F ax U B d7 z2
    generalize wr=bw at*
    by_cases bN:k<d.cols.length
    ·obtain⟨y,hy⟩:∃y,d.cols[k]? =some y:=⟨_,List.getElem?_eq_getElem bN⟩
     have gr:((d.cols.take k).map (nnC l)++d.cols.drop k)[k]? =some y:=by
      rw[List.getElem?_append_right (by simp;omega)]
      simp[List.getElem?_drop,Nat.min_eq_left hk,hy]
     have c7:((d.cols.take k).map (nnC l)++d.cols.drop k).length=d.cols.length:=by simp;omega
     have ba:=o.df.c.own
     rw[a4.out]at ba
     simp only[c7]at ba
     obtain⟨m9,e8⟩:∃m,d.cols.length=m+1:=⟨d.cols.length-1,by omega⟩
     obtain⟨gc,c9,hC⟩:∃gc c9,Value.slice ac d.cols.length cc= .slice (some ⟨gc,0,none⟩) d.cols.length c9:=by
      rw[e8]at ba ⊢
      exact eE ba
     injection hC with e1 e2 e3
     subst e1 e3
     clear ba e8
     obtain⟨nm,ty,lo,hi,mx,nn⟩:=y
     have hh:=hid gr
     have HY:=hid hy
     have f2:=hid c7
     clear gr hy c7
     have g5:=hid (fun W (hW:DefAt (Z+1) gv gm 40 9 4 (.int .i64 1) (.string X) [.slice none 0 0,.slice none 0 0,.slice none 0 0,.slice none 0 0,.int .i64 0,.string ⟨#[]⟩,.string ⟨#[]⟩,.int .i64 0,.int .i64 0,.int .i64 0,.string ⟨#[]⟩,.slice none 0 0,.slice none 0 0,.slice none 0 0,.int .i64 0,.string ⟨#[]⟩] W D2 { d with cols:=(d.cols.take k).map (nnC l)++d.cols.drop k } l)=>hW.nn (g:=gc) (c:=cc) (by rw[a4.out];simp only[f2.out]) hh (nn||l.contains nm))
     obtain⟨b0,a1,a6,C,b5⟩:=g5 _ o
     clear b0 b5
     have e0:=C 0 _ rfl
     have e1:=C 1 _ rfl
     have e2:=C 2 _ rfl
     have e3:=C 3 _ rfl
     have e4:=C 4 _ rfl
     have e5:=C 5 _ rfl
     rw[Nat.add_zero]at e0
     clear C
     have i0:(0:Int)≤(k:Int):=by omega
     have i1:(k:Int)<(d.cols.length:Int):=by omega
     have gd:Hid (nm.size≤maxLen):=by
      unfold Hid maxLen
      have h9:=o.df.c.at_ k _ _ hh (List.getElem?_eq_getElem (by rw[o.out.df.c.len];simp only[f2.out];exact bN))
      exact h9.now.2.1
     go_upto_region 12 with fail
     have H:=(Ext.refl bw).alloc (.cells #[.string nm,.int .i64 ty,.int .i64 lo,.int .i64 hi,.int .i64 mx,.bool nn] 99)
     have f3:=hid (bf.ext H)
     have f4:=hid (a5.ext H)
     have e6:=hid (Y.ext H)
     have bd:=hid (o.ext H)
     have gt:=hid (Blk.of_new bw 99 [.string nm,.int .i64 ty,.int .i64 lo,.int .i64 hi,.int .i64 mx,.bool nn])
     clear H e0 e1 e2 e3 e4 e5 bf a5 Y o a1 a6
     generalize bw.alloc (.cells #[.string nm,.int .i64 ty,.int .i64 lo,.int .i64 hi,.int .i64 mx,.bool nn] 99)=hM at*
     generalize bw.heap.size=gk at*
     obtain⟨b0,a1,a6,C,b5⟩:=g5 _ bd
     have an:=hid b0
     have e5:=C 5 _ rfl
     have f5:=b5 (k*6+5)
     have k0:=gt.cell_some (i:=0) rfl
     have k5:=gt.cell_some (i:=5) rfl
     have z2:=bd.blk.cell_some (i:=2) rfl
     rw[a4.out]at z2
     have b4:=aC hM gc (k*6+5) (.bool (nn||l.contains nm))
     have bY:∀q,some gc=some q→Z+1≤q:=fun q e=>by rw[←Option.some.inj e];exact a1
     have V:=hid (f3.grown b4 (fun q e=>Nat.lt_of_lt_of_le a9 (bY q e)))
     have a0:=hid (f4.own b4 (fun q e=>Nat.le_trans cw (bY q e)))
     have Q:=hid (e6.grown b4 (fun e=>by have:=bY Z e.symm;omega))
     clear b0 C b5 b4 bY a1 a6
     have h6:=bd.map.look (t:=134) Tryz.underlying9 Tryz.underlying134 Tryz.underlying4 rfl nm gd
     have g6:((d.cols.take k).map (nnC l)++d.cols.drop k).set k { (⟨nm,ty,lo,hi,mx,nn⟩:Cd)with nn:=nn||l.contains nm } =(d.cols.take (k+1)).map (nnC l)++d.cols.drop (k+1):=by
      have ht:((d.cols.take k).map (nnC l)).length=k:=by simp;omega
      rw[List.set_append_right _ _ (by omega),ht,Nat.sub_self,List.drop_eq_getElem_cons bN,List.set_cons_zero,List.take_succ_eq_append_getElem bN,List.map_append,List.append_assoc]
      have h9:d.cols[k]=⟨nm,ty,lo,hi,mx,nn⟩:=(List.getElem?_eq_some_iff.1 HY).2
      rw[h9]
      rfl
     have b3:=hid g6
     clear g6
     cases hg:nn
     ·subst hg
      simp only[Bool.true_or,Bool.false_or]at V a0 Q an b3
      go_wp2_with fail
      exact⟨⟨k+1,by omega,by go_num,V,a0,Q,by have h:=an.out;simp only[b3.out]at h;refine⟨_,?_,h⟩;exact a4⟩,by simp[intOf];omega⟩
     ·subst hg
      simp only[Bool.true_or,Bool.false_or]at V a0 Q an b3
      go_wp2_with fail
      exact⟨⟨k+1,by omega,by go_num,V,a0,Q,by have h:=an.out;simp only[b3.out]at h;refine⟨_,?_,h⟩;exact a4⟩,by simp[intOf];omega⟩
    ·obtain rfl:k=d.cols.length:=by omega
     rw[List.take_length,List.drop_length,List.append_nil]at o
     obtain⟨B1,c1,fr,t1⟩:=o.df.c.fin fun q hq=>hq.ge
     obtain⟨B2,c2,eb,t2⟩:=o.df.k.fin fun q hq=>hq.ge
     obtain⟨B3,c3,g2,t3⟩:=o.df.f.fin fun q hq=>hq.ge
     obtain⟨B4,c4,hc,t4⟩:=o.df.x.fin fun q hq=>hq.ge
     have bx:=o.blk
     rw[fr,eb,g2,hc]at bx
     simp only[List.length_map]at bx t1
     have b1:=hid bx
     have hj:Hid (d.cols.length≤20001∧d.keys.length≤20001∧d.frs.length≤20001∧d.chk.length≤20001):=by unfold Hid;omega
     have hl:=hid ((t1.and t2).and (t3.and t4))
     clear t1 t2 t3 t4 bx fr eb g2 hc a4 o
     have hw:Hid (R.2=needP yRp st):=by unfold Hid;rw[f1.out]
     have hB:Hid (R.1=creS X (d,l)):=by unfold Hid;rw[f1.out]
     have hf:=Y.out
     unfold Blk at hf
     go_upto_region 14 with fail
     apply wp_region_lit
     refine aw rfl 40 (.tmp 3) rfl gv rfl 40 _ _ b1 Tryz.underlying40 rfl (by kernel_rfl) ?_
     refine wpList_store_rowTo rfl 40 (.tmp 2) (.tmp 54) rfl rfl Z #[.int .i64 1,.string X,.slice B1 d.cols.length c1,.slice B2 d.keys.length c2,.slice B3 d.frs.length c3,.slice B4 d.chk.length c4,.slice none 0 0,.slice none 0 0,.slice none 0 0,.slice none 0 0,.int .i64 0,.string ⟨#[]⟩,.string ⟨#[]⟩,.int .i64 0,.int .i64 0,.int .i64 0,.string ⟨#[]⟩,.slice none 0 0,.slice none 0 0,.slice none 0 0,.int .i64 0,.string ⟨#[]⟩] rfl rfl 40 _ hf (by kernel_rfl) (by kernel_rfl) (by kernel_rfl) ?_
     apply wpList_nil
     simp only[Act.put,List.setIfInBounds_toArray,List.set_cons_succ,List.set_cons_zero]
     go_wp2_with fail
     have c8:=hid (kQ bw Z #[.int .i64 1,.string X,.slice B1 d.cols.length c1,.slice B2 d.keys.length c2,.slice B3 d.frs.length c3,.slice B4 d.chk.length c4,.slice none 0 0,.slice none 0 0,.slice none 0 0,.slice none 0 0,.int .i64 0,.string ⟨#[]⟩,.string ⟨#[]⟩,.int .i64 0,.int .i64 0,.int .i64 0,.string ⟨#[]⟩,.slice none 0 0,.slice none 0 0,.slice none 0 0,.int .i64 0,.string ⟨#[]⟩])
     have hA:=hid (row_blk Y (sC (k:=1) (t:=X) (a:= .slice B1 d.cols.length c1) (b:= .slice B2 d.keys.length c2) (c:= .slice B3 d.frs.length c3) (d:= .slice B4 d.chk.length c4)))
     refine bodyPost_ret (v:= .agg #[.int .i64 1,.string X,.slice B1 d.cols.length c1,.slice B2 d.keys.length c2,.slice B3 d.frs.length c3,.slice B4 d.chk.length c4,.slice none 0 0,.slice none 0 0,.slice none 0 0,.slice none 0 0,.int .i64 0,.string ⟨#[]⟩,.string ⟨#[]⟩,.int .i64 0,.int .i64 0,.int .i64 0,.string ⟨#[]⟩,.slice none 0 0,.slice none 0 0,.slice none 0 0,.int .i64 0,.string ⟨#[]⟩]) ?_ ?_ ?_
     ·exact results_cell_row (p:=2) (ty:=40) rfl _ _ Z 40 _ _ _ (by rfl) hA Tryz.underlying40 rfl (by kernel_rfl)
     ·rfl
     ·skip
      exact⟨_,rfl,by rw[hw.out];exact bf.grown c8 (fun q hq=>by have:=HG.out;have:=Option.some.inj hq;omega),a5.own c8 (fun q hq=>by have:=Option.some.inj hq;rw[c6.out];omega),by rw[hB.out,c6.out];exact⟨⟨⟨B1,d.cols.length,c1⟩,⟨B2,d.keys.length,c2⟩,⟨B3,d.frs.length,c3⟩,⟨B4,d.chk.length,c4⟩,⟨none,0,0⟩,⟨none,0,0⟩,⟨none,0,0⟩,⟨none,0,0⟩,⟨none,0,0⟩,⟨none,0,0⟩,⟨none,0,0⟩⟩,rfl,(Stb.weak (Stb.grown hl c8 (fun q hq e=>by have:=Option.some.inj e;omega)) (fun q _ hq=>Nat.le_of_succ_le hq)).imp fun w2 h=>⟨create_st el hj (lst_cds h.1.1) (lst_keys h.1.2) (lst_rfs h.2.1) (j4 h.2.2),lst_capk h.1.2,lst_capr h.2.1⟩⟩⟩
  ·have e:(aq yCm st).2=st.next:=by simp[aq,bm]
   rw[e]at G
   have a3:=b2.out
   rw[bm,if_pos rfl]at a3
   have fn:=hid a3
   clear e b2 a3
   have h0:=aM bm
   have J:=hid (kR cb d l st.next)
   have O:=hid (mV (ex:=ex) d l st.next)
   have I:=hid (j6 cb d l st.next)
   go_wp2_with fail
   refine(j7 hr (by omega) hE a9 a2 (by omega) G hL).mono ?_
   rintro _ gy ⟨v,D2,rfl,z,j,h3⟩
   have F:=hid z
   have B:=hid h3
   have ax:=hid (Chn.to ag j cw)
   have U:=hid (j.blk ad (Nat.lt_succ_self _) (by have:=HG.out;omega))
   clear z j h3 G ag ad a2
   obtain⟨⟨⟨d2,l2⟩,s5⟩,bk⟩:∃x,elemP ex d l st.next=x:=⟨_,rfl⟩
   rw[bk]at F B fn J O I
   clear bk
   have q1:=J.out
   have q2:=O.out
   have q3:s5.r.length≤st.next.r.length:=I.out
   simp only at q1 q2
   have HQ:=hid (show s5.r.length<m∧s5.r.length≤u.r.length∧l2.length+s5.r.length≤u.r.length+1∧(d2.cols.length+s5.r.length≤u.r.length+1∧d2.keys.length+s5.r.length≤u.r.length+1∧d2.frs.length+s5.r.length≤u.r.length+1∧d2.chk.length+s5.r.length≤u.r.length+1) from by omega)
   have hO:s5.r.length<st.r.length:=by omega
   clear q1 q2 q3 J O I
   go_wp2_with fail
   exact⟨⟨m,s5,D2,d2,l2,fn,HQ.1,HQ.2.1,HQ.2.2.1,HQ.2.2.2,F,ax,U,B⟩,by rw[F.out.posOf,hF.out];have:=hL.len;omega⟩
end
end
section
open Lx (Tk)
section
variable {P c:Nat} {A:Option Addr} {L:List Tk} {w0 w:World} {s:Ps}
theorem item_rd {n:Nat} {ex:M Ex} (hr:Rdr 68 P A c L w0 n 39 ex) (hn:s.r.length<n) (hp:PsAt 68 P A c L w0 w s) (hL:TkL L):
  Calls Tryz.prog 103 #[.pointer (some ⟨P,0,none⟩)] w (Ran 68 P A c L w0 w (fF ex s).2 fun v w'=>Elitm w.heap.size w' (fF ex s).1 v):=by
 have df:=(Ext.refl w).alloc (.cells #[.int .i64 0,.int .i64 0,.string ⟨#[]⟩,.string ⟨#[]⟩,.int .i64 0,.int .i64 0,.int .i64 0,.string ⟨#[]⟩,.slice none 0 0] 84)
 have es:=hid (hp.ext df)
 have d2:Hid (P<w.heap.size):=hp.lt
 have c4:=hid (Blk.of_new w 84 [.int .i64 0,.int .i64 0,.string ⟨#[]⟩,.string ⟨#[]⟩,.int .i64 0,.int .i64 0,.int .i64 0,.string ⟨#[]⟩,.slice none 0 0])
 have e2:=hid (Chg.of (P:=P) df)
 have HM:Hid (fF ex s=gK opsAgg (fun o=>aB (aY yLp) fun _=>if o=2 then ifM dK (aB (aY yRp) fun _=>bb ⟨1,exZ⟩) (iD ex o)else iD ex o) (aB ex fun e=>bb ⟨0,e⟩) s):=rfl
 have e9:Hid (w.heap.size≤(w.alloc (.cells #[.int .i64 0,.int .i64 0,.string ⟨#[]⟩,.string ⟨#[]⟩,.int .i64 0,.int .i64 0,.int .i64 0,.string ⟨#[]⟩,.slice none 0 0] 84)).heap.size):=df.size
 obtain⟨R,hR⟩:∃R,fF ex s=R:=⟨_,rfl⟩
 rw[hR]at HM ⊢
 clear hp df hR
 go_enter Tryz.func103,Tryz.ntmps103
 go_upto_region 1 with fail
 generalize w.alloc (.cells #[.int .i64 0,.int .i64 0,.string ⟨#[]⟩,.string ⟨#[]⟩,.int .i64 0,.int .i64 0,.int .i64 0,.string ⟨#[]⟩,.slice none 0 0] 84)=wz at*
 obtain⟨g0,dx⟩:∃g,w.heap.size=g:=⟨_,rfl⟩
 have ag:=hid dx
 rw[dx]at d2 c4 e9 ⊢
 clear dx
 have m:=d2
 go_upto_region 2 with fail
 have hx:=(Ext.refl wz).alloc (.cells #[.string ⟨#[67,79,85,78,84]⟩,.int .i64 2,.string ⟨#[83,85,77]⟩,.int .i64 3,.string ⟨#[77,73,78]⟩,.int .i64 4,.string ⟨#[77,65,88]⟩,.int .i64 5] 120)
 have d6:=hid (c4.ext hx)
 have ee:=hid (e2.ext hx)
 have e6:=hid (es.ext hx)
 have c2:=hid (Blk.of_new wz 120 [.string ⟨#[67,79,85,78,84]⟩,.int .i64 2,.string ⟨#[83,85,77]⟩,.int .i64 3,.string ⟨#[77,73,78]⟩,.int .i64 4,.string ⟨#[77,65,88]⟩,.int .i64 5])
 have cs:Hid (g0<wz.heap.size):=c4.lt
 clear hx
 clear c4 e2 es
 generalize wz.alloc (.cells #[.string ⟨#[67,79,85,78,84]⟩,.int .i64 2,.string ⟨#[83,85,77]⟩,.int .i64 3,.string ⟨#[77,73,78]⟩,.int .i64 4,.string ⟨#[77,65,88]⟩,.int .i64 5] 120)=w1 at*
 generalize wz.heap.size=gs at*
 go_wp2_with fail
 go_loopw [4,12] (fun _ iv wr=> ∃(k:Nat),k≤4∧iv= .int .i64 k∧firstP opsAgg s=firstP (opsAgg.drop k) s∧PsAt 68 P A c L w0 wr s∧Blk wr g0 84 [.int .i64 0,.int .i64 0,.string ⟨#[]⟩,.string ⟨#[]⟩,.int .i64 0,.int .i64 0,.int .i64 0,.string ⟨#[]⟩,.slice none 0 0]∧Blk wr gs 120 (symCs opsAgg)∧Chg P w wr) (fun _ i _=>4- (intOf i).toNat)
 case atStart=>exact⟨0,by omega,rfl,rfl,e6,d6,c2,ee⟩
 case round=>
  obtain⟨k,hk,rfl,hf,z,h,h3,h4⟩:=hrel
  have cd:=hid z
  have ax:=hid h
  have u:=hid h3
  have cc:=hid h4
  clear z h h3 h4 e6 d6 c2 ee
  generalize wr=cA at*
  by_cases d5:k<4
  ·obtain⟨⟨t,o⟩,hx⟩:∃x,opsAgg[k]? =some x:=⟨_,List.getElem?_eq_getElem (by show k<4;exact d5)⟩
   have hd:opsAgg.drop k=(t,o)::opsAgg.drop (k+1):=by
    obtain⟨z,h⟩:=List.getElem?_eq_some_iff.1 hx
    rw[List.drop_eq_getElem_cons z,h]
   rw[hd,firstP]at hf
   have HF:=hid hf
   have e7:Hid (I64 o):=by
    have fr:∀x∈opsAgg,I64 x.2:=by unfold I64;decide
    exact fr _ (List.mem_of_getElem? hx)
   obtain⟨e0,e1⟩:=fh opsAgg k (t,o) hx
   have s0:=u.cell_some e0
   have s1:=u.cell_some e1
   have i0:(0:Int)≤(k:Int):=by omega
   have i1:(k:Int)<4:=by omega
   clear hf hd hx e0 e1
   go_upto_region 4 with fail
   have hx:=(Ext.refl cA).alloc (.cells #[.string t,.int .i64 o] 120)
   have a0:=hid (ax.ext hx)
   have cb:=hid (cc.ext hx)
   have bY:=hid (cd.ext hx)
   have a5:=hid (u.ext hx)
   have a6:=hid (Blk.of_new cA 120 [.string t,.int .i64 o])
   have cH:Hid (g0<cA.heap.size):=ax.lt
   clear hx
   clear ax cc cd u
   generalize cA.alloc (.cells #[.string t,.int .i64 o] 120)=d1 at*
   generalize cA.heap.size=gy at*
   obtain⟨t0,t1,-⟩:=cls a6
   go_wp2_with fail
   refine(ai bY hL t).mono ?_
   rintro _ c9 ⟨v,rfl,z,h,rfl⟩
   have ba:=hid z
   have cv:=hid (h.blk a0 (by have:=m.out;omega))
   have c0:=hid (cb.trans h)
   have a4:=hid (h.blk a5 (by have:=m.out;have:=cs.out;omega))
   have b9:=hid (h.blk a6 (by have:=m.out;have:=cH.out;omega))
   clear z h
   clear a0 cb bY a5 a6
   cases bf:isS t s
   ·have e:(aq t s).2=s:=by simp[aq,bf]
    rw[e]at ba
    clear e
    have fn:Hid (firstP opsAgg s=firstP (opsAgg.drop (k+1)) s):=by
     unfold Hid
     have:=HF.out
     rwa [bf]at this
    go_wp2_with fail
    exact⟨⟨k+1,by omega,by go_num,fn,ba,cv,a4,c0⟩,by simp[intOf];omega⟩
   ·have e:(aq t s).2=s.next:=by simp[aq,bf]
    rw[e]at ba
    clear e
    have f1:=aM bf
    have d3:Hid (R=(fun o=>aB (aY yLp) fun _=>if o=2 then ifM dK (aB (aY yRp) fun _=>bb ⟨1,exZ⟩) (iD ex o)else iD ex o) o s.next):=by
     unfold Hid
     have eb:=HF.out
     rw[bf]at eb
     rw[HM.out]
     unfold gK
     rw[eb]
     rfl
    go_wp2_with fail
    refine(az (ba.ext ((Ext.refl c9).alloc (.cells #[.string yLp] 9))) hL yLp c9.heap.size (by simp[World.cell?_alloc_new])).mono ?_
    rintro _ cl ⟨v,rfl,z,h,_⟩
    replace h:Chg P c9 cl:=(Chg.of ((Ext.refl c9).alloc (.cells #[.string yLp] 9))).trans h
    have dk:=hid z
    have cw:=hid (h.blk cv (by have:=m.out;omega))
    have ds:=hid (c0.trans h)
    have ci:=hid (h.blk a4 (by have:=m.out;have:=cs.out;omega))
    have a9:=hid (h.blk b9 (by have:=m.out;have:=cH.out;omega))
    clear z h
    clear cv c0 ba a4 b9
    have f0:=aH yLp s.next
    obtain⟨q0,q1,-⟩:=cls a9
    go_upto_region 7 with fail
    have hx:=(Ext.refl cl).alloc (.cells #[.int .i64 o,.int .i64 0,.string ⟨#[]⟩,.string ⟨#[]⟩,.int .i64 0,.int .i64 0,.int .i64 0,.string ⟨#[]⟩,.slice none 0 0] 84)
    have bd:=hid (cw.ext hx)
    have cj:=hid (ds.ext hx)
    have ck:=hid (dk.ext hx)
    have V:=hid (ci.ext hx)
    have D:=hid (a9.ext hx)
    have F:=hid (Blk.of_new cl 84 [.int .i64 o,.int .i64 0,.string ⟨#[]⟩,.string ⟨#[]⟩,.int .i64 0,.int .i64 0,.int .i64 0,.string ⟨#[]⟩,.slice none 0 0])
    have B:Hid (g0<cl.heap.size):=cw.lt
    clear hx
    clear cw ds dk ci a9
    generalize cl.alloc (.cells #[.int .i64 o,.int .i64 0,.string ⟨#[]⟩,.string ⟨#[]⟩,.int .i64 0,.int .i64 0,.int .i64 0,.string ⟨#[]⟩,.slice none 0 0] 84)=e8 at*
    generalize cl.heap.size=X at*
    obtain⟨r0,r1,-⟩:=cls D
    by_cases d0:o=2
    ·subst d0
     have c7:Hid (R=if isS dK (needP yLp s.next)=true then (⟨1,exZ⟩,needP yRp (needP yLp s.next).next)else (⟨2,(ex (needP yLp s.next)).1⟩,needP yRp (ex (needP yLp s.next)).2)):=by
      unfold Hid
      rw[d3.out]
      rfl
     go_wp2_with fail
     refine(ai ck hL dK).mono ?_
     rintro _ be ⟨v,rfl,z,h,rfl⟩
     have H:=hid z
     have K:=hid (h.blk bd (by have:=m.out;omega))
     have ac:=hid (cj.trans h)
     have E:=hid (h.blk V (by have:=m.out;have:=cs.out;omega))
     have I:=hid (h.blk D (by have:=m.out;have:=cH.out;omega))
     have a:=hid (h.blk F (by have:=m.out;have:=B.out;omega))
     clear z h
     clear bd cj ck V D F
     cases a2:isS dK (needP yLp s.next)
     ·have e:(aq dK (needP yLp s.next)).2=(needP yLp s.next):=by simp[aq,a2]
      rw[e]at H
      clear e
      go_wp2_with fail
      refine(hr _ _ H (by omega)).mono ?_
      rintro _ C ⟨v,rfl,z,h,Y,k1,c1,rfl,h3⟩
      have Q:=hid z
      have U:=hid (h.blk K (by have:=m.out;omega))
      have O:=hid (ac.trans h)
      have dd:=hid (h.blk E (by have:=m.out;have:=cs.out;omega))
      have c5:=hid (h.blk I (by have:=m.out;have:=cH.out;omega))
      have f:=hid (h.blk a (by have:=m.out;have:=B.out;omega))
      obtain⟨e1,ad⟩:∃e,(ex (needP yLp s.next)).1=e:=⟨_,rfl⟩
      have cy:=hid ad
      rw[ad]at h3 ⊢
      clear ad
      obtain⟨⟨op,tb,nm,ix,vk,vi,vt⟩,ks⟩:=e1
      unfold Nd.val
      simp only[Ex.d]
      have J:Hid (Stb (Sx g0 X) C fun w'=>ExV w' (.mk ⟨op,tb,nm,ix,vk,vi,vt⟩ ks) Y k1 c1):=h3.weak fun q _ j=>⟨Nat.le_trans K.lt j,by have h8:=a.lt;have h9:be.heap.size≤q:=j;omega⟩
      clear z h h3
      clear K ac H E I a
      have z0:=f.cell_some (i:=1) rfl
      have y0:=f.frozen 1
      have z1:=f.cell_some (i:=2) rfl
      have y1:=f.frozen 2
      have z2:=f.cell_some (i:=3) rfl
      have y2:=f.frozen 3
      have z3:=f.cell_some (i:=4) rfl
      have y3:=f.frozen 4
      have z4:=f.cell_some (i:=5) rfl
      have y4:=f.frozen 5
      have z5:=f.cell_some (i:=6) rfl
      have y5:=f.frozen 6
      have z6:=f.cell_some (i:=7) rfl
      have y6:=f.frozen 7
      have z7:=f.cell_some (i:=8) rfl
      have y7:=f.frozen 8
      have l:=ak X (eC op tb nm ix vk vi vt Y k1 c1) C 1
      have bx:=d9 X 84 (eC op tb nm ix vk vi vt Y k1 c1) C [.int .i64 2] eZ rfl f
      have hs:=Q.grown l (fun q j=>by have:=Option.some.inj j;have:=m.out;have:=B.out;omega)
      have bm:=U.grown l (fun e=>by have:=Option.some.inj e;have:=B.out;omega)
      have bn:=O.own l (fun q j=>by have:=Option.some.inj j;have:=B.out;rw[ag.out];omega)
      have Z:=Stb.grown J l (fun q j e=>j.2 (Option.some.inj e).symm)
      simp only[List.length_cons,List.length_nil,sts]at bx hs bm bn Z
      have a3:=hid hs
      have y:=hid bm
      have a1:=hid bn
      have p:=hid bx
      have W:=hid Z
      clear l bx hs bm bn Z
      clear U O Q J dd c5 f
      go_upto_region 10 with fail
      generalize (((((((C.setCell ⟨X,1,none⟩ (.int .i64 op)).setCell ⟨X,2,none⟩ (.string tb)).setCell ⟨X,3,none⟩ (.string nm)).setCell ⟨X,4,none⟩ (.int .i64 ix)).setCell ⟨X,5,none⟩ (.int .i64 vk)).setCell ⟨X,6,none⟩ (.int .i64 vi)).setCell ⟨X,7,none⟩ (.string vt)).setCell ⟨X,8,none⟩ (.slice Y k1 c1)=an at*
      clear z0 y0 z1 y1 z2 y2 z3 y3 z4 y4 z5 y5 z6 y6 z7 y7
      go_wp2_with fail
      refine(az (a3.ext ((Ext.refl an).alloc (.cells #[.string yRp] 9))) hL yRp an.heap.size (by simp[World.cell?_alloc_new])).mono ?_
      rintro _ e5 ⟨v,rfl,z,h,_⟩
      replace h:Chg P an e5:=(Chg.of ((Ext.refl an).alloc (.cells #[.string yRp] 9))).trans h
      have e4:=hid z
      have c3:=hid (h.blk y (by have:=m.out;omega))
      have d7:=hid (a1.trans h)
      have dc:=hid (Stb.chg2 W h (by have:=m.out;omega))
      have c8:=hid (h.blk p (by have:=m.out;have:=B.out;omega))
      clear z h
      clear y a1 a3 W p
      obtain⟨b0,b1,b2,b3,b4,b5,b6,b7,b8,-⟩:=cls c8
      have bw:Hid (R.1=⟨2,(.mk ⟨op,tb,nm,ix,vk,vi,vt⟩ ks)⟩):=by
       rw[c7.out,a2]
       exact congrArg (fun x=> (⟨2,x⟩:Itm)) cy
      have bk:Hid (R.2=(needP yRp (ex (needP yLp s.next)).2)):=by
       rw[c7.out,a2]
       rfl
      obtain⟨z0,z1,z2,z3,z4,z5,z6,z7,z8,-⟩:=cls c3
      obtain⟨y0,y1,y2,y3,y4,y5,y6,y7,y8,-⟩:=frz c3
      have hz:=aE c3 [.int .i64 2,.int .i64 op,.string tb,.string nm,.int .i64 ix,.int .i64 vk,.int .i64 vi,.string vt,.slice Y k1 c1] rfl
      have G:=hid (ak g0 [.int .i64 2,.int .i64 op,.string tb,.string nm,.int .i64 ix,.int .i64 vk,.int .i64 vi,.string vt,.slice Y k1 c1] e5 0)
      simp only[sts]at hz
      have HZ:=hid hz
      clear hz
      go_wp2_with fail
      obtain⟨q0,q1,q2,q3,q4,q5,q6,q7,q8,-⟩:=cls HZ
      exact bodyPost_ret (v:= .agg #[.int .i64 2,.int .i64 op,.string tb,.string nm,.int .i64 ix,.int .i64 vk,.int .i64 vi,.string vt,.slice Y k1 c1]) (by simp[results,Tryz.results103,go_sem,q0,q1,q2,q3,q4,q5,q6,q7,q8]) rfl ⟨_,rfl,by rw[bk.out];exact e4.grown G (fun q j=>by have:=m.out;have:=Option.some.inj j;omega),d7.own G (fun q j=>by have:=Option.some.inj j;rw[ag.out];omega),by rw[bw.out];exact⟨Y,k1,c1,rfl,i64_2,by rw[ag.out];exact Stb.weak (Stb.grown dc G (fun q j e=>by have:=j.1;have:=Option.some.inj e;omega)) (fun q _ j=>Nat.le_of_succ_le j.1)⟩⟩
     ·have e:(aq dK (needP yLp s.next)).2=(needP yLp s.next).next:=by simp[aq,a2]
      rw[e]at H
      clear e
      have z9:=a.cell_some (i:=0) rfl
      have y9:=a.frozen 0
      have l:=ak X [.int .i64 1] be 0
      simp only[sts]at l
      have Q:=hid (H.grown l (fun q j=>by have:=Option.some.inj j;have:=m.out;have:=B.out;omega))
      have U:=hid (K.grown l (fun e=>by have:=Option.some.inj e;have:=B.out;omega))
      have O:=hid (ac.own l (fun q j=>by have:=Option.some.inj j;have:=B.out;rw[ag.out];omega))
      have f:=hid (a.set 0 (.int .i64 1))
      clear l
      clear K ac H E I a
      go_upto_region 10 with fail
      generalize be.setCell ⟨X,0,none⟩ (.int .i64 1)=C at*
      clear z9 y9
      go_wp2_with fail
      refine(az (Q.ext ((Ext.refl C).alloc (.cells #[.string yRp] 9))) hL yRp C.heap.size (by simp[World.cell?_alloc_new])).mono ?_
      rintro _ an ⟨v,rfl,z,h,_⟩
      replace h:Chg P C an:=(Chg.of ((Ext.refl C).alloc (.cells #[.string yRp] 9))).trans h
      have a3:=hid z
      have y:=hid (h.blk U (by have:=m.out;omega))
      have a1:=hid (O.trans h)
      have p:=hid (h.blk f (by have:=m.out;have:=B.out;omega))
      clear z h
      clear U O Q f
      obtain⟨b0,b1,b2,b3,b4,b5,b6,b7,b8,-⟩:=cls p
      have bw:Hid (R.1=⟨1,exZ⟩):=by
       rw[c7.out,a2]
       rfl
      have bk:Hid (R.2=(needP yRp (needP yLp s.next).next)):=by
       rw[c7.out,a2]
       rfl
      obtain⟨z0,z1,z2,z3,z4,z5,z6,z7,z8,-⟩:=cls y
      obtain⟨y0,y1,y2,y3,y4,y5,y6,y7,y8,-⟩:=frz y
      have hz:=aE y [.int .i64 1,.int .i64 0,.string ⟨#[]⟩,.string ⟨#[]⟩,.int .i64 0,.int .i64 0,.int .i64 0,.string ⟨#[]⟩,.slice none 0 0] rfl
      have G:=hid (ak g0 [.int .i64 1,.int .i64 0,.string ⟨#[]⟩,.string ⟨#[]⟩,.int .i64 0,.int .i64 0,.int .i64 0,.string ⟨#[]⟩,.slice none 0 0] an 0)
      simp only[sts]at hz
      have HZ:=hid hz
      clear hz
      go_wp2_with fail
      obtain⟨q0,q1,q2,q3,q4,q5,q6,q7,q8,-⟩:=cls HZ
      exact bodyPost_ret (v:= .agg #[.int .i64 1,.int .i64 0,.string ⟨#[]⟩,.string ⟨#[]⟩,.int .i64 0,.int .i64 0,.int .i64 0,.string ⟨#[]⟩,.slice none 0 0]) (by simp[results,Tryz.results103,go_sem,q0,q1,q2,q3,q4,q5,q6,q7,q8]) rfl ⟨_,rfl,by rw[bk.out];exact a3.grown G (fun q j=>by have:=m.out;have:=Option.some.inj j;omega),a1.own G (fun q j=>by have:=Option.some.inj j;rw[ag.out];omega),by rw[bw.out];exact⟨none,0,0,rfl,i64_1,fun w' _ _=>⟨rfl,by omega,ez (o:=0) bG,by unfold KidsAt Ex.ks;trivial⟩⟩⟩
    ·have fA:(o==2)=false:=by simpa using d0
     have d4:Hid (R=(⟨o,(ex (needP yLp s.next)).1⟩,needP yRp (ex (needP yLp s.next)).2)):=by
      unfold Hid
      rw[d3.out]
      show(if o=2 then _ else iD ex o) (needP yLp s.next)=_
      rw[if_neg d0]
      rfl
     go_wp2_with fail
     refine(hr _ _ ck (by omega)).mono ?_
     rintro _ be ⟨v,rfl,z,h,Y,k1,c1,rfl,h3⟩
     have H:=hid z
     have K:=hid (h.blk bd (by have:=m.out;omega))
     have ac:=hid (cj.trans h)
     have E:=hid (h.blk V (by have:=m.out;have:=cs.out;omega))
     have I:=hid (h.blk D (by have:=m.out;have:=cH.out;omega))
     have a:=hid (h.blk F (by have:=m.out;have:=B.out;omega))
     obtain⟨e1,ad⟩:∃e,(ex (needP yLp s.next)).1=e:=⟨_,rfl⟩
     have cy:=hid ad
     rw[ad]at h3 ⊢
     clear ad
     obtain⟨⟨op,tb,nm,ix,vk,vi,vt⟩,ks⟩:=e1
     unfold Nd.val
     simp only[Ex.d]
     have bN:Hid (Stb (Sx g0 X) be fun w'=>ExV w' (.mk ⟨op,tb,nm,ix,vk,vi,vt⟩ ks) Y k1 c1):=h3.weak fun q _ j=>⟨Nat.le_trans bd.lt j,by have h8:=F.lt;have h9:e8.heap.size≤q:=j;omega⟩
     clear z h h3
     clear bd cj ck V D F
     have z0:=a.cell_some (i:=1) rfl
     have y0:=a.frozen 1
     have z1:=a.cell_some (i:=2) rfl
     have y1:=a.frozen 2
     have z2:=a.cell_some (i:=3) rfl
     have y2:=a.frozen 3
     have z3:=a.cell_some (i:=4) rfl
     have y3:=a.frozen 4
     have z4:=a.cell_some (i:=5) rfl
     have y4:=a.frozen 5
     have z5:=a.cell_some (i:=6) rfl
     have y5:=a.frozen 6
     have z6:=a.cell_some (i:=7) rfl
     have y6:=a.frozen 7
     have z7:=a.cell_some (i:=8) rfl
     have y7:=a.frozen 8
     have l:=ak X (eC op tb nm ix vk vi vt Y k1 c1) be 1
     have bx:=d9 X 84 (eC op tb nm ix vk vi vt Y k1 c1) be [.int .i64 o] eZ rfl a
     have hs:=H.grown l (fun q j=>by have:=Option.some.inj j;have:=m.out;have:=B.out;omega)
     have bm:=K.grown l (fun e=>by have:=Option.some.inj e;have:=B.out;omega)
     have bn:=ac.own l (fun q j=>by have:=Option.some.inj j;have:=B.out;rw[ag.out];omega)
     have Z:=Stb.grown bN l (fun q j e=>j.2 (Option.some.inj e).symm)
     simp only[List.length_cons,List.length_nil,sts]at bx hs bm bn Z
     have Q:=hid hs
     have U:=hid bm
     have O:=hid bn
     have f:=hid bx
     have J:=hid Z
     clear l bx hs bm bn Z
     clear K ac H bN E I a
     go_upto_region 10 with fail
     generalize (((((((be.setCell ⟨X,1,none⟩ (.int .i64 op)).setCell ⟨X,2,none⟩ (.string tb)).setCell ⟨X,3,none⟩ (.string nm)).setCell ⟨X,4,none⟩ (.int .i64 ix)).setCell ⟨X,5,none⟩ (.int .i64 vk)).setCell ⟨X,6,none⟩ (.int .i64 vi)).setCell ⟨X,7,none⟩ (.string vt)).setCell ⟨X,8,none⟩ (.slice Y k1 c1)=C at*
     clear z0 y0 z1 y1 z2 y2 z3 y3 z4 y4 z5 y5 z6 y6 z7 y7
     go_wp2_with fail
     refine(az (Q.ext ((Ext.refl C).alloc (.cells #[.string yRp] 9))) hL yRp C.heap.size (by simp[World.cell?_alloc_new])).mono ?_
     rintro _ an ⟨v,rfl,z,h,_⟩
     replace h:Chg P C an:=(Chg.of ((Ext.refl C).alloc (.cells #[.string yRp] 9))).trans h
     have a3:=hid z
     have y:=hid (h.blk U (by have:=m.out;omega))
     have a1:=hid (O.trans h)
     have W:=hid (Stb.chg2 J h (by have:=m.out;omega))
     have p:=hid (h.blk f (by have:=m.out;have:=B.out;omega))
     clear z h
     clear U O Q J f
     obtain⟨b0,b1,b2,b3,b4,b5,b6,b7,b8,-⟩:=cls p
     have bw:Hid (R.1=⟨o,(.mk ⟨op,tb,nm,ix,vk,vi,vt⟩ ks)⟩):=by
      rw[d4.out]
      exact congrArg (fun x=> (⟨o,x⟩:Itm)) cy
     have bk:Hid (R.2=(needP yRp (ex (needP yLp s.next)).2)):=by
      rw[d4.out]
      rfl
     obtain⟨z0,z1,z2,z3,z4,z5,z6,z7,z8,-⟩:=cls y
     obtain⟨y0,y1,y2,y3,y4,y5,y6,y7,y8,-⟩:=frz y
     have hz:=aE y [.int .i64 o,.int .i64 op,.string tb,.string nm,.int .i64 ix,.int .i64 vk,.int .i64 vi,.string vt,.slice Y k1 c1] rfl
     have G:=hid (ak g0 [.int .i64 o,.int .i64 op,.string tb,.string nm,.int .i64 ix,.int .i64 vk,.int .i64 vi,.string vt,.slice Y k1 c1] an 0)
     simp only[sts]at hz
     have HZ:=hid hz
     clear hz
     go_wp2_with fail
     obtain⟨q0,q1,q2,q3,q4,q5,q6,q7,q8,-⟩:=cls HZ
     exact bodyPost_ret (v:= .agg #[.int .i64 o,.int .i64 op,.string tb,.string nm,.int .i64 ix,.int .i64 vk,.int .i64 vi,.string vt,.slice Y k1 c1]) (by simp[results,Tryz.results103,go_sem,q0,q1,q2,q3,q4,q5,q6,q7,q8]) rfl ⟨_,rfl,by rw[bk.out];exact a3.grown G (fun q j=>by have:=m.out;have:=Option.some.inj j;omega),a1.own G (fun q j=>by have:=Option.some.inj j;rw[ag.out];omega),by rw[bw.out];exact⟨Y,k1,c1,rfl,e7,by rw[ag.out];exact Stb.weak (Stb.grown W G (fun q j e=>by have:=j.1;have:=Option.some.inj e;omega)) (fun q _ j=>Nat.le_of_succ_le j.1)⟩⟩
  ·obtain rfl:k=4:=by omega
   have e3:firstP opsAgg s=(none,s):=hf
   have el:Hid (R=(⟨0,(ex s).1⟩,(ex s).2)):=by
    unfold Hid
    rw[HM.out]
    unfold gK
    rw[e3]
    rfl
   clear hf e3 hk d5
   go_wp2_with fail
   refine(hr _ _ cd hn).mono ?_
   rintro _ d1 ⟨v,rfl,z,h,Y,k1,c1,rfl,h3⟩
   have bY:=hid z
   have a0:=hid (h.blk ax (by have:=m.out;omega))
   have cb:=hid (cc.trans h)
   have a5:=hid (h.blk u (by have:=m.out;have:=cs.out;omega))
   obtain⟨e1,ad⟩:∃e,(ex s).1=e:=⟨_,rfl⟩
   have cy:=hid ad
   rw[ad]at h3 ⊢
   clear ad
   obtain⟨⟨op,tb,nm,ix,vk,vi,vt⟩,ks⟩:=e1
   unfold Nd.val
   simp only[Ex.d]
   have c6:Hid (Stb (g0+1≤·) d1 fun w'=>ExV w' (.mk ⟨op,tb,nm,ix,vk,vi,vt⟩ ks) Y k1 c1):=h3.weak fun q _ j=>Nat.le_trans ax.lt j
   clear z h h3
   clear ax cc cd u
   have bw:Hid (R.1=⟨0,(.mk ⟨op,tb,nm,ix,vk,vi,vt⟩ ks)⟩):=by
    rw[el.out]
    exact congrArg (fun x=> (⟨0,x⟩:Itm)) cy
   have bk:Hid (R.2=(ex s).2):=by
    rw[el.out]
    rfl
   obtain⟨z0,z1,z2,z3,z4,z5,z6,z7,z8,-⟩:=cls a0
   obtain⟨y0,y1,y2,y3,y4,y5,y6,y7,y8,-⟩:=frz a0
   have hz:=aE a0 [.int .i64 0,.int .i64 op,.string tb,.string nm,.int .i64 ix,.int .i64 vk,.int .i64 vi,.string vt,.slice Y k1 c1] rfl
   have G:=hid (ak g0 [.int .i64 0,.int .i64 op,.string tb,.string nm,.int .i64 ix,.int .i64 vk,.int .i64 vi,.string vt,.slice Y k1 c1] d1 0)
   simp only[sts]at hz
   have HZ:=hid hz
   clear hz
   go_wp2_with fail
   obtain⟨q0,q1,q2,q3,q4,q5,q6,q7,q8,-⟩:=cls HZ
   exact bodyPost_ret (v:= .agg #[.int .i64 0,.int .i64 op,.string tb,.string nm,.int .i64 ix,.int .i64 vk,.int .i64 vi,.string vt,.slice Y k1 c1]) (by simp[results,Tryz.results103,go_sem,q0,q1,q2,q3,q4,q5,q6,q7,q8]) rfl ⟨_,rfl,by rw[bk.out];exact bY.grown G (fun q j=>by have:=m.out;have:=Option.some.inj j;omega),cb.own G (fun q j=>by have:=Option.some.inj j;rw[ag.out];omega),by rw[bw.out];exact⟨Y,k1,c1,rfl,bG,by rw[ag.out];exact Stb.weak (Stb.grown c6 G (fun q j e=>by have:=Option.some.inj e;omega)) (fun q _ j=>Nat.le_of_succ_le j)⟩⟩
end
end
section
open Lx (Tk)
theorem entK_item:dR 103:=fun args W=>rfl
theorem entK_col:dR 106:=fun args W=>rfl
theorem entK_ord:dR 108:=fun args W=>rfl
def eJ (a:Src) (cs:List Value) (w:World):Prop:=cs= [.string a.tb,.string a.al]∧a.tb.size≤20000∧a.al.size≤20000
theorem info_src:(Tryz.prog.info? 86).map (fun i=> (i.zero,i.size,i.bytes))=some (some (.agg #[.string ⟨#[]⟩,.string ⟨#[]⟩]),2,32):=by kernel_rfl
theorem info_exq:(Tryz.prog.info? 37).map (fun i=> (i.zero,i.size,i.bytes))=some (some (.agg #[.int .i64 0,.string ⟨#[]⟩,.string ⟨#[]⟩,.int .i64 0,.int .i64 0,.int .i64 0,.string ⟨#[]⟩,.slice none 0 0]),8,104):=by kernel_rfl
def Sq (n0:Nat) (vf vx:Value) (q:Nat):Prop:=n0≤q∧vf.ownBlock≠some q∧vx.ownBlock≠some q
structure FrW (n0:Nat) (w:World) (vf vx:Value) (cf cx:List (List Value)) (fs:List Src) (xs:List Ex):Prop where
 f:cU eJ 86 2 n0 (Sq n0 vf vx) w vf fs cf
 x:cU cu 37 8 n0 (Sq n0 vf vx) w vx xs cx
 ne:∀q,vf.ownBlock=some q→vx.ownBlock≠some q
section
variable {n0 P:Nat} {w w':World} {vf vx v':Value} {cf cx:List (List Value)} {fs:List Src} {xs:List Ex} {b:Option Nat}
theorem FrW.start (n0:Nat) (w:World):FrW n0 w (.slice none 0 0) (.slice none 0 0) [] [] [] []:=⟨cU.nil _ _ _ _ _ _,cU.nil _ _ _ _ _ _,fun q h=>nomatch h⟩
theorem FrW.turn (h:FrW n0 w vf vx cf cx fs xs) (j:w.grownBy w' b) (k:∀q,b=some q→q<n0):FrW n0 w' vf vx cf cx fs xs:=by
 have l:∀ {v:Value},(∀q,v.ownBlock=some q→n0≤q)→v.ownBlock=none∨v.ownBlock≠b:=fun {v} m=>by
  cases a:v.ownBlock with
  |none=>exact .inl rfl
  |some q=>exact .inr fun e=>by have:=m q a;have:=k q e.symm;omega
 have i:∀q,q<w.heap.size→Sq n0 vf vx q→b≠some q∧Sq n0 vf vx q:=fun q _ hs=>⟨fun e=>by have:=k q e;have:=hs.1;omega,hs⟩
 exact⟨h.f.turn j (l fun q g=> (h.f.own.lt q g).1) i,h.x.turn j (l fun q g=> (h.x.own.lt q g).1) i,h.ne⟩
theorem FrW.ext (h:FrW n0 w vf vx cf cx fs xs) (a:Ext w w'):FrW n0 w' vf vx cf cx fs xs:=h.turn (ext_grown a none) (fun q e=>by cases e)
theorem FrW.chg (h:FrW n0 w vf vx cf cx fs xs) (f:Chg P w w') (a:P<n0):FrW n0 w' vf vx cf cx fs xs:=h.turn f (fun q e=>by rw[←Option.some.inj e];exact a)
theorem FrW.gef (h:FrW n0 w vf vx cf cx fs xs):∀q,vf.ownBlock=some q→n0≤q:=fun q e=> (h.f.own.lt q e).1
theorem FrW.gex (h:FrW n0 w vf vx cf cx fs xs):∀q,vx.ownBlock=some q→n0≤q:=fun q e=> (h.x.own.lt q e).1
theorem FrW.pushf (h:FrW n0 w vf vx cf cx fs xs) {y:Src} {cs:List Value} (n:cs.length=2) (l:w'.ownsRow n0 86 2 v' (fs.length+1) (cf.flatten++cs)) (k:w.grownBy w' vf.ownBlock) (a:v'.ownBlock=vf.ownBlock∨v'.ownBlock=some w.heap.size)
  (m:eJ y cs w):FrW n0 w' v' vx (cf++ [cs]) cx (fs++ [y]) xs:=by
 have i:∀q,q<w.heap.size→vf.ownBlock≠some q→v'.ownBlock≠some q:=fun q g hs e=>by
  rcases a with a|a
  ·exact hs (a.symm.trans e)
  ·rw[a]at e
   have:=Option.some.inj e
   omega
 have j:∀q,q<w.heap.size→Sq n0 vf vx q→vf.ownBlock≠some q∧Sq n0 v' vx q:=fun q g hs=>⟨hs.2.1,hs.1,i q g hs.2.1,hs.2.2⟩
 have o:vx.ownBlock=none∨vx.ownBlock≠vf.ownBlock:=by
  cases p:vx.ownBlock with
  |none=>exact .inl rfl
  |some q=>exact .inr fun e=>h.ne q e.symm p
 refine⟨h.f.push n l k j (fun _ _ _=>m),h.x.turn k o j,fun q g e=>?_⟩
 rcases a with a|a
 ·exact h.ne q (a.symm.trans g) e
 ·have:=(h.x.own.lt q e).2
  have:=Option.some.inj (a.symm.trans g)
  omega
theorem FrW.pushx (h:FrW n0 w vf vx cf cx fs xs) {y:Ex} {cs:List Value} (n:cs.length=8) (l:w'.ownsRow n0 37 8 v' (xs.length+1) (cx.flatten++cs)) (k:w.grownBy w' vx.ownBlock) (a:v'.ownBlock=vx.ownBlock∨v'.ownBlock=some w.heap.size)
  (m:Stb (Sq n0 vf vx) w (cu y cs)):FrW n0 w' vf v' cf (cx++ [cs]) fs (xs++ [y]):=by
 have i:∀q,q<w.heap.size→vx.ownBlock≠some q→v'.ownBlock≠some q:=fun q g hs e=>by
  rcases a with a|a
  ·exact hs (a.symm.trans e)
  ·rw[a]at e
   have:=Option.some.inj e
   omega
 have j:∀q,q<w.heap.size→Sq n0 vf vx q→vx.ownBlock≠some q∧Sq n0 vf v' q:=fun q g hs=>⟨hs.2.2,hs.1,hs.2.1,i q g hs.2.2⟩
 have o:vf.ownBlock=none∨vf.ownBlock≠vx.ownBlock:=by
  cases p:vf.ownBlock with
  |none=>exact .inl rfl
  |some q=>exact .inr fun e=>h.ne q p e.symm
 refine⟨h.f.turn k o j,h.x.push n l k j m,fun q g e=>?_⟩
 rcases a with a|a
 ·exact h.ne q g (a.symm.trans e)
 ·have:=(h.f.own.lt q g).2
  have:=Option.some.inj (a.symm.trans e)
  omega
theorem FrW.fine (h:FrW n0 w vf vx cf cx fs xs) {n1:Nat} (j:w.heap.size≤n1) (k:n0≤n1) {a:World} {Φ:World→Prop} (hs:Stb (n1≤·) a Φ):Stb (Sq n0 vf vx) a Φ:=hs.weak fun q _ i=>by
 have g:n1≤q:=i
 exact⟨by omega,fun e=>by have:=(h.f.own.lt q e).2;omega,fun e=>by have:=(h.x.own.lt q e).2;omega⟩
end
theorem lst_srcs {w:World} {B:Option Addr} {l:List Src} (h:Lst eJ 2 w B l):dY w B l:=fun i a hi=>by
 obtain⟨cs,_,⟨b,f,j,g⟩,e,m,k⟩:=h i a hi
 subst e
 refine⟨⟨by omega,by omega⟩,b,f,j,?_,g 1 _ rfl⟩
 have:=g 0 _ rfl
 simpa using this
theorem lst_itms {w:World} {B:Option Addr} {l:List Itm} (h:Lst bO 9 w B l):dG w B l:=fun i a hi=>by
 obtain⟨cs,_,⟨b,g,k,e⟩,m,n,c1,f,p,o⟩:=h i a hi
 subst f
 have j:=e 0 _ rfl
 refine⟨p,b,g,m,n,c1,k,by simpa using j,⟨?_,?_,?_,?_,?_,?_,?_,?_,o⟩⟩
 ·exact e 1 _ rfl
 ·exact e 2 _ rfl
 ·exact e 3 _ rfl
 ·exact e 4 _ rfl
 ·exact e 5 _ rfl
 ·exact e 6 _ rfl
 ·exact e 7 _ rfl
 ·exact e 8 _ rfl
theorem lst_ords {w:World} {B:Option Addr} {l:List Ord'} (h:Lst ea 2 w B l):dZ w B l:=fun i a hi=>by
 obtain⟨cs,_,⟨b,f,j,g⟩,e,k⟩:=h i a hi
 subst e
 refine⟨k,b,f,j,?_,g 1 _ rfl⟩
 have:=g 0 _ rfl
 simpa using this
end
end Go.Proofs.YtjigcpfjhfoheaaGreatDoor
