/- Walks: Grow of a nil slice of expressions; Walks: Concat of slices of expressions; Statements: plain functions, and how they lie in memory; Opening a statement; Opening a statement: its slices of strings are no longer than they ha. -/
import Derived.Test.YtjigcpfjhfoheaaGreatDoorEba
import Derived.Test.YtjigcpfjhfoheaaGreatDoorEaa
import Derived.Test.YtjigcpfjhfoheaaGreatDoorEag
import Derived.Deep.RegionHeld3
namespace Go.Proofs.YtjigcpfjhfoheaaGreatDoor
open Go.RowKit
set_option maxHeartbeats 4000000
set_option maxRecDepth 100000
set_option linter.unusedVariables false
set_option linter.unusedSimpArgs false
theorem info_ex:(Tryz.prog.info? 37).map (fun i=> (i.zero,i.size,i.bytes))=some (some (.agg #[.int .i64 0,.string ⟨#[]⟩,.string ⟨#[]⟩,.int .i64 0,.int .i64 0,.int .i64 0,.string ⟨#[]⟩,.slice none 0 0]),8,104):=by kernel_rfl
theorem zero_size (z:Array Value) (n:Nat):(Builtin.zeroCells z n).size=n*z.size:=by unfold Builtin.zeroCells;simp
theorem own_room (w:World) (e sz cap n m:Nat) (B:Nat) (cs:Array Value) (hB:B≤w.heap.size) (hc:cs.size=cap*sz) (hm:cap≤maxLen):(w.alloc (.cells cs e)).ownsRow B e sz (.slice (some ⟨w.heap.size,0,none⟩) 0 cap) 0 []:=
 ⟨by simp,.inr ⟨w.heap.size,cap,cs,rfl,hB,by show(w.heap.push _)[w.heap.size]? =_;simp,Nat.zero_le _,hm,hc,by simp⟩⟩
theorem grow_nil (w:World) (T:Nat) (hT:T≤1000000000):Calls Tryz.prog 180 #[.slice none 0 0,.int .i64 (T:Int)] w fun r w'=>
  ∃v,r= .returned v∧w'.ownsRow w.heap.size 37 8 v 0 []∧Ext w w':=by
 obtain⟨i0,hi,hz0,hz1,hz2⟩:=info_parts info_ex
 have d0:decide ((T:Int)<0)=false:=by simp
 by_cases h0:0<T
 ·have d1:decide ((0:Int)<(T:Int))=true:=by simp;omega
  go_enter Tryz.func180,Tryz.ntmps180
  go_wp2_with (at_builtin;refine wpList_append_make _ rfl (.tmp 20) (.tmp 21) _ _ rfl 37 i0 _ Tryz.underlying27 Tryz.underlying3 hi hz0 T rfl rfl h0 (by omega) (by rw[hz2];omega) ?_)
  go_ret
  refine⟨_,rfl,?_,((Ext.refl w).drew).alloc _⟩
  have hge:=grownCap_ge w T 0 37
  refine own_room w.drew 37 8 (grownCap w T 0 37) T T w.heap.size _ (Nat.le_refl _) ?_ (grownCap_le_maxLen w T 0 37 (by unfold maxLen;omega))
  rw[Array.size_append,zero_size,zero_size,←Nat.add_mul]
  show(T+(grownCap w T 0 37-T))*8=_
  congr 1
  omega
 ·obtain rfl:T=0:=by omega
  go_enter Tryz.func180,Tryz.ntmps180
  go_wp2_with fail
  go_ret
  exact⟨_,rfl,⟨rfl,.inl ⟨rfl,rfl⟩⟩,Ext.refl w⟩
inductive LC (w:World):List Ex→List Value→Prop
 |nil:LC w [] []
 |cons {e:Ex} {es:List Ex} {cs rest:List Value} :ExC w e cs→LC w es rest→LC w (e::es) (cs++rest)
theorem exc_len {w:World} {e:Ex} {cs:List Value} (h:ExC w e cs):cs.length=8∧∀u∈cs,u.oneCell'=true:=by
 cases e with
 |mk d ks=>
  rw[ExC]at h
  obtain⟨_,_,A,c,rfl,_⟩:=h
  refine⟨rfl,fun u hu=>?_⟩
  simp[Nd.cells]at hu
  rcases hu with rfl|rfl|rfl|rfl|rfl|rfl|rfl|rfl<;>rfl
theorem LC.len {w:World} {l:List Ex} {xs:List Value} (h:LC w l xs):xs.length=l.length*8∧∀u∈xs,u.oneCell'=true:=by
 induction h with
 |nil=>exact⟨rfl,by simp⟩
 |cons hc _ ih=>
  obtain⟨h1,h2⟩:=exc_len hc
  refine⟨by rw[List.length_append,h1,ih.1,List.length_cons];omega,fun u hu=>?_⟩
  rcases List.mem_append.1 hu with hu|hu
  ·exact h2 u hu
  ·exact ih.2 u hu
theorem LC.app {w:World} {l m:List Ex} {xs ys:List Value} (h:LC w l xs) (k:LC w m ys):LC w (l++m) (xs++ys):=by
 induction h with
 |nil=>exact k
 |cons hc _ ih=>rw[List.cons_append,List.append_assoc];exact .cons hc ih
theorem LC.one {w:World} {e:Ex} {cs:List Value} (h:ExC w e cs):LC w [e] cs:=by
 have:=LC.cons h LC.nil
 rwa [List.append_nil]at this
theorem LC.ext {w w':World} {l:List Ex} {xs:List Value} (h:LC w l xs) (hx:Ext w w'):LC w' l xs:=by
 induction h with
 |nil=>exact .nil
 |cons hc _ ih=>exact .cons (exc_ext hx _ _ hc) ih
theorem LC.get {w:World} {l:List Ex} {xs:List Value} (h:LC w l xs):∀(i:Nat) (e:Ex),l[i]? =some e→∃cs,ExC w e cs∧∀(j:Nat) (v:Value),cs[j]? =some v→xs[i*8+j]? =some v:=by
 induction h with
 |nil=>intro i e h;simp at h
 | @cons e es cs rest hc hr ih=>
  intro i x hx
  obtain⟨hl,_⟩:=exc_len hc
  cases i with
  |zero=>
   simp at hx
   subst hx
   refine⟨cs,hc,fun j v hv=>?_⟩
   have hj:=(List.getElem?_eq_some_iff.1 hv).1
   rw[Nat.zero_mul,Nat.zero_add,List.getElem?_append_left hj]
   exact hv
  |succ i=>
   obtain⟨cs',h1,h2⟩:=ih i x (by simpa using hx)
   refine⟨cs',h1,fun j v hv=>?_⟩
   rw[List.getElem?_append_right (by omega),hl,show(i+1)*8+j-8=i*8+j by omega]
   exact h2 j v hv
theorem kids_reads {w:World} {A:Option Addr} {l:List Ex} {n:Nat} (h:KidsAt w A l) (hl:l.length=n):∃xs,LC w l xs∧Reads w w.heap.size 8 A n xs:=by
 have key:∀(l:List Ex) (i:Nat),ExsAt w l A i→∃xs,LC w l xs∧(l≠[]→∃b off,A=some ⟨b,off,none⟩∧b<w.heap.size∧∀j u,xs[j]? =some u→w.cell? ⟨b,off+(i*8+j),none⟩=some u):=by
  intro l
  induction l with
  |nil=>intro i _;exact⟨[],.nil,fun h=>absurd rfl h⟩
  |cons e es ih=>
   intro i h
   rw[ExsAt]at h
   obtain⟨⟨cs,⟨b,off,hA,hc⟩,he⟩,hr⟩:=h
   obtain⟨xs,h1,h2⟩:=ih (i+1) hr
   obtain⟨hl8,_⟩:=exc_len he
   have h0:0<cs.length:=by omega
   have hb:b<w.heap.size:=cell_lt (hc 0 cs[0] (List.getElem?_eq_getElem h0))
   refine⟨cs++xs,.cons he h1,fun _=>⟨b,off,hA,hb,fun j u hj=>?_⟩⟩
   by_cases hj8:j<8
   ·rw[List.getElem?_append_left (by omega)]at hj
    have:=hc j u hj
    rwa [Nat.add_assoc]at this
   ·rw[List.getElem?_append_right (by omega),hl8]at hj
    have hne:es≠[]:=by
     rintro rfl
     have:=h1.len.1
     have hx0:xs= []:=List.eq_nil_of_length_eq_zero (by simpa using this)
     rw[hx0]at hj
     simp at hj
    obtain⟨b2,off2,hA2,_,h3⟩:=h2 hne
    rw[hA]at hA2
    simp only[Option.some.injEq,Addr.mk.injEq,and_true]at hA2
    obtain⟨rfl,rfl⟩:=hA2
    have:=h3 (j-8) u hj
    rwa [show(i+1)*8+(j-8)=i*8+j by omega]at this
 obtain⟨xs,h1,h2⟩:=key l 0 h
 refine⟨xs,h1,by rw[h1.len.1,hl],fun hn=>?_⟩
 obtain⟨b,off,hA,hb,h3⟩:=h2 (by rintro rfl;simp at hl;omega)
 refine⟨⟨b,off,none⟩,hA,hb,fun j u hj=>?_⟩
 have:=h3 j u hj
 rw[Nat.zero_mul,Nat.zero_add]at this
 have hadd:(⟨b,off,none⟩:Addr).add j=⟨b,off+j,none⟩:=by unfold Addr.add;split<;>simp_all
 rw[hadd]
 exact this
theorem own_kids {w:World} {B e n:Nat} {v:Value} {l:List Ex} {xs:List Value} (h:w.ownsRow B e 8 v n xs) (hl:LC w l xs):∃A c,v= .slice A n c∧KidsAt w A l∧l.length=n:=by
 have hn:l.length=n:=by have:=h.1;have:=hl.len.1;omega
 have hc:=fun g (hg:v.ownBlock=some g)=>h.cells hg
 have hk:∀A,(∀i e,l[i]? =some e→∃cs,CellsAt w A (i*8) cs∧ExC w e cs)→KidsAt w A l:=by
  intro A hA
  unfold KidsAt
  rw[exsAt_iff]
  intro j e he
  obtain⟨cs,h1,h2⟩:=hA j e he
  exact⟨cs,by rwa [Nat.zero_add],h2⟩
 rcases h.2 with ⟨rfl,h0⟩|⟨g,cap,cur,rfl,_⟩
 ·refine⟨none,0,by rw[h0],hk _ ?_,hn⟩
  intro i e he
  have:l= []:=List.eq_nil_of_length_eq_zero (by omega)
  subst this
  simp at he
 ·refine⟨_,_,rfl,hk _ ?_,hn⟩
  intro i e he
  obtain⟨cs,h1,h2⟩:=hl.get i e he
  refine⟨cs,⟨g,0,rfl,fun j u hj=>?_⟩,h1⟩
  have:=hc g rfl (i*8+j) u (h2 j u hj)
  have hadd:∀j,(⟨g,0,none⟩:Addr).add j=⟨g,0+j,none⟩:=fun j=>by unfold Addr.add;split<;>simp_all
  rwa [hadd,←Nat.add_assoc]at this
def RowsAt (w:World) (A:Option Addr) (L:List (List Ex)):Prop:=
 ∀(i:Nat) (l:List Ex),L[i]? =some l→∃b off Ai ni ci,A=some ⟨b,off,none⟩∧w.cell? ⟨b,off+i,none⟩=some (.slice Ai ni ci)∧l.length=ni∧KidsAt w Ai l
theorem RowsAt.ext {w w':World} {A:Option Addr} {L:List (List Ex)} (h:RowsAt w A L) (hx:Ext w w'):RowsAt w' A L:=fun i l hl=>by
 obtain⟨b,off,Ai,ni,ci,hA,hc,hn,hk⟩:=h i l hl
 exact⟨b,off,Ai,ni,ci,hA,hx.keep hc,hn,hk.ext hx⟩
theorem rat_lt {α:Type} {L:List α} {i n:Nat} (hl:L.length=n) (h:i<n):∃e,L[i]? =some e:=⟨_,List.getElem?_eq_getElem (by omega)⟩
theorem flat_step {α:Type} {L:List (List α)} {k:Nat} {l:List α} (h:L[k]? =some l):(L.take (k+1)).flatten=(L.take k).flatten++l:=by
 obtain⟨hi,rfl⟩:=List.getElem?_eq_some_iff.1 h
 rw[List.take_succ_eq_append_getElem hi,List.flatten_append]
 simp
theorem flat_le {α:Type} (L:List (List α)) (k:Nat):(L.take k).flatten.length≤L.flatten.length:=by
 conv=>rhs;rw[←List.take_append_drop k L,List.flatten_append,List.length_append]
 omega
theorem concat_any (L:List (List Ex)) (A:Option Addr) (n c:Nat) (w:World) (hl:L.length=n) (hn:n≤9223372036854775807) (hr:RowsAt w A L) (hT:L.flatten.length≤1000000000):
  Calls Tryz.prog 114 #[.slice A n c] w fun r w'=>
   ∃v xs,r= .returned v∧w'.ownsRow w.heap.size 37 8 v L.flatten.length xs∧LC w L.flatten xs∧Ext w w':=by
 obtain⟨i0,hi,hz0,hz1,hz2⟩:=info_parts info_ex
 have HL:=hid hl
 have HR:=hid hr
 have HT:=hid hT
 clear hl hr
 go_enter Tryz.func114,Tryz.ntmps114
 go_wp2_with fail
 go_loop [3,5,11] (fun sv _ iv=> ∃(k s:Nat),k≤n∧s≤1000000000∧iv= .int .i64 k∧sv= .int .i64 s∧s=(L.take k).flatten.length) (fun _ _ i=>n- (intOf i).toNat)
 case atStart=>exact⟨0,0,Nat.zero_le _,Nat.zero_le _,rfl,rfl,rfl⟩
 case round=>
  obtain⟨k,s,hk,hs,rfl,rfl,hv⟩:=hrel
  have HV:=hid hv
  clear hv
  by_cases hlt:k<n
  ·obtain⟨l,hl⟩:=rat_lt HL.out hlt
   obtain⟨b,off,Ai,ni,ci,rfl,hc,hni,hki⟩:=HR.out k l hl
   have HS:=hid (flat_step hl)
   have HNi:=hid hni
   have hs2:s+ni≤1000000000:=by
    have h1:=flat_le L (k+1)
    rw[HS.out,List.length_append]at h1
    have:=HV.out
    have:=HT.out
    omega
   have d0:decide ((s:Int)+(ni:Int)<0)=false:=by simp;omega
   clear hl hni hki
   go_wp2_with fail
   go_round
   case rel=>exact⟨k+1,s+ni,by omega,by omega,by go_num,by go_num,by rw[HS.out,List.length_append,HNi.out,HV.out]⟩
   case measure=>simp[intOf];omega
  ·obtain rfl:k=n:=by omega
   have HTk:Hid (L.take k=L):=List.take_of_length_le (Nat.le_of_eq HL.out)
   have HSL:Hid (s=L.flatten.length):=by unfold Hid;rw[HV.out,HTk.out]
   go_wp2_with (go_at_call 180;refine(grow_nil _ s hs).mono ?_;rintro _ w2 ⟨v0,rfl,hown0,hx0⟩;have HO0:=hid hown0;clear hown0)
   go_loopw [6,8,27] (fun nv _ iv wr=> ∃(j:Nat) (xs:List Value),j≤k∧iv= .int .i64 j∧wr.ownsRow w.heap.size 37 8 nv (L.take j).flatten.length xs∧LC w (L.take j).flatten xs∧Ext w wr) (fun _ _ i _=>k- (intOf i).toNat)
   case atStart=>exact⟨0,[],Nat.zero_le _,rfl,HO0.out,.nil,hx0⟩
   case round=>
    obtain⟨j,xs,hj,rfl,hown,hlc,hxr⟩:=hrel
    have HO:=hid hown
    have HLC:=hid hlc
    have HXr:=hid hxr
    clear hown hlc
    by_cases hlt2:j<k
    ·obtain⟨l,hl⟩:=rat_lt HL.out hlt2
     obtain⟨b,off,Ai,ni,ci,rfl,hc0,hni,hki⟩:=HR.out j l hl
     have hc:=hxr.keep hc0
     have HS:=hid (flat_step hl)
     obtain⟨news,hnl,hnr⟩:=kids_reads hki hni
     have HNL:=hid hnl
     have HNR:=hid (hnr.below hxr)
     have HNi:=hid hni
     have hb1:(L.take j).flatten.length+ni≤1000000000:=by
      have h1:=flat_le L (j+1)
      rw[HS.out,List.length_append]at h1
      have:=HT.out
      omega
     obtain⟨p,hp⟩:∃p,(L.take j).flatten.length=p:=⟨_,rfl⟩
     have HP:=hid hp
     rw[hp]at hb1
     rw[hp]at HO
     clear hl hni hki hnl hnr hc0 hxr hp
     go_wp2_with (at_builtin;refine wpList_append_any _ rfl (.tmp 31) (.tmp 32) _ rfl w.heap.size 37 i0 _ 8 104 Tryz.underlying27 hi hz0 hz1 hz2 rfl (by decide) _ p xs rfl HO.out w.heap.size Ai ni ci news rfl HNR.out HNL.out.len.2 (by unfold maxLen;omega) (by omega) HXr.out.size ?_;intro v1 w3 hown3 hgr3 hat3;have HO3:=hid hown3;have HG3:=hid hgr3;clear hown3 hgr3 hat3)
     go_roundw
     case rel=>
      refine⟨j+1,xs++news,by omega,by go_num,?_,?_,?_⟩
      ·rw[HS.out,List.length_append,HP.out,HNi.out]
       exact HO3.out
      ·rw[HS.out]
       exact HLC.out.app HNL.out
      ·refine HXr.out.grown HG3.out fun q hq=> (HO.out.lt q hq).1
     case measure=>simp[intOf];omega
    ·obtain rfl:j=k:=by omega
     go_wp2_with fail
     go_ret
     refine⟨_,xs,rfl,?_,?_,HXr.out⟩
     ·have:=HO.out
      rwa [HTk.out]at this
     ·have:=HLC.out
      rwa [HTk.out]at this
section
def St.all (s:St):List Ex:=s.chk++s.vals.flatten++s.grp++s.sets.map Asg.ex++s.itms.map Itm.ex++ [s.whr]
section
variable {w w':World}
def StrsAt (w:World) (A:Option Addr) (l:List ByteArray):Prop:=
 ∀(i:Nat) (s:ByteArray),l[i]? =some s→s.size≤9223372036854775807∧∃b off,A=some ⟨b,off,none⟩∧w.cell? ⟨b,off+i,none⟩=some (.string s)
theorem StrsAt.ext {A:Option Addr} {l:List ByteArray} (h:StrsAt w A l) (hx:Ext w w'):StrsAt w' A l:=fun i s hs=>by
 obtain⟨h1,b,off,hA,hc⟩:=h i s hs
 exact⟨h1,b,off,hA,hx.keep hc⟩
def CdsAt (w:World) (A:Option Addr) (l:List Cd):Prop:=
 ∀(i:Nat) (x:Cd),l[i]? =some x→(x.nm.size≤9223372036854775807∧I64 x.ty∧I64 x.lo∧I64 x.hi∧I64 x.mx)∧∃b off,A=some ⟨b,off,none⟩∧w.cell? ⟨b,off+i*6,none⟩=some (.string x.nm)∧w.cell? ⟨b,off+i*6+1,none⟩=some (.int .i64 x.ty)∧
  w.cell? ⟨b,off+i*6+2,none⟩=some (.int .i64 x.lo)∧w.cell? ⟨b,off+i*6+3,none⟩=some (.int .i64 x.hi)∧w.cell? ⟨b,off+i*6+4,none⟩=some (.int .i64 x.mx)∧w.cell? ⟨b,off+i*6+5,none⟩=some (.bool x.nn)
theorem CdsAt.ext {A:Option Addr} {l:List Cd} (h:CdsAt w A l) (hx:Ext w w'):CdsAt w' A l:=fun i s hs=>by
 obtain⟨h0,b,off,hA,h1,h2,h3,h4,h5,h6⟩:=h i s hs
 exact⟨h0,b,off,hA,hx.keep h1,hx.keep h2,hx.keep h3,hx.keep h4,hx.keep h5,hx.keep h6⟩
def KeysAt (w:World) (A:Option Addr) (L:List (List ByteArray)):Prop:=
 ∀(i:Nat) (l:List ByteArray),L[i]? =some l→∃b off Ai ni ci,A=some ⟨b,off,none⟩∧w.cell? ⟨b,off+i,none⟩=some (.slice Ai ni ci)∧l.length=ni∧ni≤9223372036854775807∧StrsAt w Ai l
theorem KeysAt.ext {A:Option Addr} {L:List (List ByteArray)} (h:KeysAt w A L) (hx:Ext w w'):KeysAt w' A L:=fun i l hl=>by
 obtain⟨b,off,Ai,ni,ci,hA,hc,hn,hm,hk⟩:=h i l hl
 exact⟨b,off,Ai,ni,ci,hA,hx.keep hc,hn,hm,hk.ext hx⟩
def RfsAt (w:World) (A:Option Addr) (l:List Rf):Prop:=
 ∀(i:Nat) (x:Rf),l[i]? =some x→x.tb.size≤9223372036854775807∧∃b off A1 n1 c1 A2 n2 c2,A=some ⟨b,off,none⟩∧w.cell? ⟨b,off+i*3,none⟩=some (.slice A1 n1 c1)∧w.cell? ⟨b,off+i*3+1,none⟩=some (.string x.tb)∧
  w.cell? ⟨b,off+i*3+2,none⟩=some (.slice A2 n2 c2)∧x.cs.length=n1∧n1≤9223372036854775807∧StrsAt w A1 x.cs∧x.tg.length=n2∧n2≤9223372036854775807∧StrsAt w A2 x.tg
theorem RfsAt.ext {A:Option Addr} {l:List Rf} (h:RfsAt w A l) (hx:Ext w w'):RfsAt w' A l:=fun i s hs=>by
 obtain⟨h0,b,off,A1,n1,c1,A2,n2,c2,hA,h1,h2,h3,h4,h5,h6,h7,h8,h9⟩:=h i s hs
 exact⟨h0,b,off,A1,n1,c1,A2,n2,c2,hA,hx.keep h1,hx.keep h2,hx.keep h3,h4,h5,h6.ext hx,h7,h8,h9.ext hx⟩
def AsgsAt (w:World) (A:Option Addr) (l:List Asg):Prop:=
 ∀(i:Nat) (x:Asg),l[i]? =some x→(x.cl.size≤9223372036854775807∧I64 x.ix)∧∃b off A' n c,A=some ⟨b,off,none⟩∧w.cell? ⟨b,off+i*10,none⟩=some (.string x.cl)∧w.cell? ⟨b,off+i*10+1,none⟩=some (.int .i64 x.ix)∧EltAt w b (off+i*10+2) x.ex A' n c
theorem elt_ext {b o:Nat} {e:Ex} {A:Option Addr} {n c:Nat} (h:EltAt w b o e A n c) (hx:Ext w w'):EltAt w' b o e A n c:=
 ⟨hx.keep h.c0,hx.keep h.c1,hx.keep h.c2,hx.keep h.c3,hx.keep h.c4,hx.keep h.c5,hx.keep h.c6,hx.keep h.c7,h.val.ext hx⟩
theorem AsgsAt.ext {A:Option Addr} {l:List Asg} (h:AsgsAt w A l) (hx:Ext w w'):AsgsAt w' A l:=fun i s hs=>by
 obtain⟨h0,b,off,A',n,c,hA,h1,h2,h3⟩:=h i s hs
 exact⟨h0,b,off,A',n,c,hA,hx.keep h1,hx.keep h2,elt_ext h3 hx⟩
def ItmsAt (w:World) (A:Option Addr) (l:List Itm):Prop:=
 ∀(i:Nat) (x:Itm),l[i]? =some x→I64 x.ag∧∃b off A' n c,A=some ⟨b,off,none⟩∧w.cell? ⟨b,off+i*9,none⟩=some (.int .i64 x.ag)∧EltAt w b (off+i*9+1) x.ex A' n c
theorem ItmsAt.ext {A:Option Addr} {l:List Itm} (h:ItmsAt w A l) (hx:Ext w w'):ItmsAt w' A l:=fun i s hs=>by
 obtain⟨h0,b,off,A',n,c,hA,h1,h2⟩:=h i s hs
 exact⟨h0,b,off,A',n,c,hA,hx.keep h1,elt_ext h2 hx⟩
def SrcsAt (w:World) (A:Option Addr) (l:List Src):Prop:=
 ∀(i:Nat) (x:Src),l[i]? =some x→(x.tb.size≤9223372036854775807∧x.al.size≤9223372036854775807)∧∃b off,A=some ⟨b,off,none⟩∧w.cell? ⟨b,off+i*2,none⟩=some (.string x.tb)∧w.cell? ⟨b,off+i*2+1,none⟩=some (.string x.al)
theorem SrcsAt.ext {A:Option Addr} {l:List Src} (h:SrcsAt w A l) (hx:Ext w w'):SrcsAt w' A l:=fun i s hs=>by
 obtain⟨h0,b,off,hA,h1,h2⟩:=h i s hs
 exact⟨h0,b,off,hA,hx.keep h1,hx.keep h2⟩
def OrdsAt (w:World) (A:Option Addr) (l:List Ord'):Prop:=
 ∀(i:Nat) (x:Ord'),l[i]? =some x→I64 x.it∧∃b off,A=some ⟨b,off,none⟩∧w.cell? ⟨b,off+i*2,none⟩=some (.int .i64 x.it)∧w.cell? ⟨b,off+i*2+1,none⟩=some (.bool x.ds)
theorem OrdsAt.ext {A:Option Addr} {l:List Ord'} (h:OrdsAt w A l) (hx:Ext w w'):OrdsAt w' A l:=fun i s hs=>by
 obtain⟨h0,b,off,hA,h1,h2⟩:=h i s hs
 exact⟨h0,b,off,hA,hx.keep h1,hx.keep h2⟩
end
structure Sl where
 A:Option Addr
 n:Nat
 c:Nat
def Sl.v (s:Sl):Value:= .slice s.A s.n s.c
structure SA where
 cols:Sl
 keys:Sl
 frs:Sl
 chk:Sl
 vals:Sl
 sets:Sl
 itms:Sl
 frm:Sl
 whr:Sl
 grp:Sl
 ord:Sl
def St.cells (s:St) (a:SA):List Value:=
 (sC (k:=s.kd) (t:=s.tb) (a:=a.cols.v) (b:=a.keys.v) (c:=a.frs.v) (d:=a.chk.v) (v:=a.vals.v) (s:=a.sets.v) (i:=a.itms.v) (f:=a.frm.v) (o:=s.whr.d.op) (q:=s.whr.d.tb) (m:=s.whr.d.nm) (x:=s.whr.d.ix) (y:=s.whr.d.vk) (z:=s.whr.d.vi) (u:=s.whr.d.vt) (e:=a.whr.v) (g:=a.grp.v) (r:=a.ord.v) (l:=s.lim) (n:=s.nm))
def St.val (s:St) (a:SA):Value:= .agg (s.cells a).toArray
structure StV (w:World) (s:St) (a:SA):Prop where
 kd:I64 s.kd
 tb:s.tb.size≤9223372036854775807
 lim:I64 s.lim
 nm:s.nm.size≤9223372036854775807
 cols:s.cols.length=a.cols.n∧a.cols.n≤9223372036854775807∧CdsAt w a.cols.A s.cols
 keys:s.keys.length=a.keys.n∧a.keys.n≤9223372036854775807∧KeysAt w a.keys.A s.keys
 frs:s.frs.length=a.frs.n∧a.frs.n≤9223372036854775807∧RfsAt w a.frs.A s.frs
 chk:s.chk.length=a.chk.n∧a.chk.n≤9223372036854775807∧KidsAt w a.chk.A s.chk
 vals:s.vals.length=a.vals.n∧a.vals.n≤9223372036854775807∧RowsAt w a.vals.A s.vals
 valn:∀l∈s.vals,l.length≤9223372036854775807
 sets:s.sets.length=a.sets.n∧a.sets.n≤9223372036854775807∧AsgsAt w a.sets.A s.sets
 itms:s.itms.length=a.itms.n∧a.itms.n≤9223372036854775807∧ItmsAt w a.itms.A s.itms
 frm:s.frm.length=a.frm.n∧a.frm.n≤9223372036854775807∧SrcsAt w a.frm.A s.frm
 whr:ExV w s.whr a.whr.A a.whr.n a.whr.c
 grp:s.grp.length=a.grp.n∧a.grp.n≤9223372036854775807∧KidsAt w a.grp.A s.grp
 ord:s.ord.length=a.ord.n∧a.ord.n≤9223372036854775807∧OrdsAt w a.ord.A s.ord
theorem StV.ext {w w':World} {s:St} {a:SA} (h:StV w s a) (hx:Ext w w'):StV w' s a:=
 ⟨h.kd,h.tb,h.lim,h.nm,⟨h.cols.1,h.cols.2.1,h.cols.2.2.ext hx⟩,⟨h.keys.1,h.keys.2.1,h.keys.2.2.ext hx⟩,⟨h.frs.1,h.frs.2.1,h.frs.2.2.ext hx⟩,⟨h.chk.1,h.chk.2.1,h.chk.2.2.ext hx⟩,⟨h.vals.1,h.vals.2.1,h.vals.2.2.ext hx⟩,h.valn,
  ⟨h.sets.1,h.sets.2.1,h.sets.2.2.ext hx⟩,⟨h.itms.1,h.itms.2.1,h.itms.2.2.ext hx⟩,⟨h.frm.1,h.frm.2.1,h.frm.2.2.ext hx⟩,h.whr.ext hx,⟨h.grp.1,h.grp.2.1,h.grp.2.2.ext hx⟩,⟨h.ord.1,h.ord.2.1,h.ord.2.2.ext hx⟩⟩
end
section
open Go.ChangeShapes Go.WideShapes Go.Deep Go.RowKit
def sumB {α:Type} (bk:α→Nat):List α→Nat
 | []=>0
 |a::l=>bk a+sumB bk l
theorem sumB_len {α:Type} {bk:α→Nat} (h:∀a,1≤bk a):∀l:List α,l.length≤sumB bk l
 | []=>Nat.le_refl _
 |a::l=>by have:=sumB_len h l;have:=h a;rw[sumB,List.length_cons];omega
section
variable {H:Type}
end
section
variable {H:Type} {enc:TypeId×Value→H} {w:World} {spare:Nat→Bool} {held:Bool} {base:Nat}
instance:Inhabited Ex:=⟨exZ⟩
def bkS (s:ByteArray):Nat:=s.size+1
def bkK (l:List ByteArray):Nat:=sumB bkS l+1
def bkR (l:List Ex):Nat:=sizeL l+1
def bkCd (x:Cd):Nat:=x.nm.size+1
instance:Inhabited Cd:=⟨⟨⟨#[]⟩,0,0,0,0,false⟩⟩
def bkRf (x:Rf):Nat:=sumB bkS x.cs+sumB bkS x.tg+x.tb.size+1
instance:Inhabited Rf:=⟨⟨[],⟨#[]⟩,[]⟩⟩
def bkA (x:Asg):Nat:=x.cl.size+x.ex.size+1
def bkI (x:Itm):Nat:=x.ex.size+1
def bkF (x:Src):Nat:=x.tb.size+x.al.size+1
def bkO (_:Ord'):Nat:=1
instance:Inhabited Asg:=⟨⟨⟨#[]⟩,0,exZ⟩⟩
instance:Inhabited Itm:=⟨⟨0,exZ⟩⟩
instance:Inhabited Src:=⟨⟨⟨#[]⟩,⟨#[]⟩⟩⟩
instance:Inhabited Ord':=⟨⟨0,false⟩⟩
def St.bulk (s:St):Nat:=s.tb.size+(sumB bkCd s.cols+sumB bkK s.keys+sumB bkRf s.frs+sizeL s.chk)+sumB bkR s.vals+sumB bkA s.sets+sumB bkI s.itms+sumB bkF s.frm+s.whr.size+sizeL s.grp+sumB bkO s.ord+s.nm.size
end
end
section
open Go.ChangeShapes Go.WideShapes Go.Deep Go.RowKit
def CapK (w:World) (A:Option Addr) (n:Nat):Prop:=∀i,i<n→∃b off Ai ni ci,A=some ⟨b,off,none⟩∧w.cell? ⟨b,off+i,none⟩=some (.slice Ai ni ci)∧ni≤ci
def CapR (w:World) (A:Option Addr) (n:Nat):Prop:=∀i,i<n→∃b off A1 n1 c1 A2 n2 c2,A=some ⟨b,off,none⟩∧w.cell? ⟨b,off+i*3,none⟩=some (.slice A1 n1 c1)∧n1≤c1∧w.cell? ⟨b,off+i*3+2,none⟩=some (.slice A2 n2 c2)∧n2≤c2
theorem CapK.ext {w w':World} {A:Option Addr} {n:Nat} (h:CapK w A n) (hx:Ext w w'):CapK w' A n:=fun i hi=>by
 obtain⟨b,off,Ai,ni,ci,h1,h2,h3⟩:=h i hi
 exact⟨b,off,Ai,ni,ci,h1,hx.keep h2,h3⟩
theorem CapR.ext {w w':World} {A:Option Addr} {n:Nat} (h:CapR w A n) (hx:Ext w w'):CapR w' A n:=fun i hi=>by
 obtain⟨b,off,A1,n1,c1,A2,n2,c2,h1,h2,h3,h4,h5⟩:=h i hi
 exact⟨b,off,A1,n1,c1,A2,n2,c2,h1,hx.keep h2,h3,hx.keep h4,h5⟩
theorem CapK.at {w:World} {b off n i:Nat} (h:CapK w (some ⟨b,off,none⟩) n) (hi:i<n) {Ai:Option Addr} {ni ci:Nat} (hc:w.cell? ⟨b,off+i,none⟩=some (.slice Ai ni ci)):ni≤ci:=by
 obtain⟨b',off',A',n',c',h1,h2,h3⟩:=h i hi
 simp only[Option.some.injEq,Addr.mk.injEq,and_true]at h1
 obtain⟨rfl,rfl⟩:=h1
 rw[hc]at h2
 simp only[Option.some.injEq,Value.slice.injEq]at h2
 obtain⟨_,rfl,rfl⟩:=h2
 exact h3
theorem CapR.at {w:World} {b off n i:Nat} (h:CapR w (some ⟨b,off,none⟩) n) (hi:i<n) {A1:Option Addr} {n1 c1:Nat} (hc:w.cell? ⟨b,off+i*3,none⟩=some (.slice A1 n1 c1))
  {A2:Option Addr} {n2 c2:Nat} (hd:w.cell? ⟨b,off+i*3+2,none⟩=some (.slice A2 n2 c2)):n1≤c1∧n2≤c2:=by
 obtain⟨b',off',A1',n1',c1',A2',n2',c2',h1,h2,h3,h4,h5⟩:=h i hi
 simp only[Option.some.injEq,Addr.mk.injEq,and_true]at h1
 obtain⟨rfl,rfl⟩:=h1
 rw[hc]at h2
 rw[hd]at h4
 simp only[Option.some.injEq,Value.slice.injEq]at h2 h4
 obtain⟨_,rfl,rfl⟩:=h2
 obtain⟨_,rfl,rfl⟩:=h4
 exact⟨h3,h5⟩
section
variable {H:Type} {enc:TypeId×Value→H} {w:World} {spare:Nat→Bool} {held:Bool} {base:Nat}
instance:Inhabited Sl:=⟨⟨none,0,0⟩⟩
end
end
theorem ownN_ext {w w':World} {B e sz n:Nat} {v:Value} {xs:List Value} (h:w.ownsRow B e sz v n xs) (hx:Ext w w'):w'.ownsRow B e sz v n xs:=by
 obtain⟨h1,h2⟩:=h
 refine⟨h1,?_⟩
 rcases h2 with h2|⟨g,cap,cur,hv,hg,hh,r⟩
 ·exact .inl h2
 ·exact .inr ⟨g,cap,cur,hv,hg,(Below.block hx g (Array.getElem?_eq_some_iff.1 hh).1).trans hh,r⟩
theorem news_at (w:World) (cs:Array Value) (e:TypeId) (n:Nat) (hn:n=w.heap.size):∀(j:Nat) (u:Value),cs.toList[j]? =some u→(w.alloc (.cells cs e)).cell? ((⟨n,0,none⟩:Addr).add j)=some u:=by
 subst hn
 exact news_new w cs e
theorem elt_cells {w:World} {e:Ex} {A:Option Addr} {n c:Nat} (h:ExV w e A n c):ExC w e (e.d.cells A n c):=by
 obtain⟨d,ks⟩:=e
 rw[ExC]
 have h1:=h.len
 have h1:ks.length=n:=h1
 subst h1
 exact⟨h.fit,h.le,A,c,rfl,h.kids⟩
theorem map_step {α β:Type} {l:List α} {k:Nat} {x:α} (f:α→β) (h:l[k]? =some x):(l.take (k+1)).map f=(l.take k).map f++ [f x]:=by
 obtain⟨hi,rfl⟩:=List.getElem?_eq_some_iff.1 h
 rw[List.take_succ_eq_append_getElem hi,List.map_append]
 rfl
theorem concat_kids (L:List (List Ex)) (A:Option Addr) (n c:Nat) (w:World) (hl:L.length=n) (hn:n≤9223372036854775807) (hr:RowsAt w A L) (hT:L.flatten.length≤1000000000):
  Calls Tryz.prog 114 #[.slice A n c] w fun r w'=> ∃A' c',r= .returned (.slice A' L.flatten.length c')∧KidsAt w' A' L.flatten∧Ext w w':=
 (concat_any L A n c w hl hn hr hT).mono fun r w' ⟨v,xs,hr,ho,hc,hx⟩=>by
  obtain⟨A',c',rfl,hk,hn'⟩:=own_kids ho (hc.ext hx)
  exact⟨A',c',hr,hk,hx⟩
theorem rows3 {w:World} {g t:Nat} {A1 A2 A3:Option Addr} {n1 n2 n3 c1 c2 c3:Nat} {l1 l2 l3:List Ex} (hb:Blk w g t [.slice A1 n1 c1,.slice A2 n2 c2,.slice A3 n3 c3])
  (h1:l1.length=n1∧KidsAt w A1 l1) (h2:l2.length=n2∧KidsAt w A2 l2) (h3:l3.length=n3∧KidsAt w A3 l3):RowsAt w (some ⟨g,0,none⟩) [l1,l2,l3]:=by
 intro i l hl
 match i with
 |0=>simp at hl;subst hl;exact⟨g,0,A1,n1,c1,rfl,by simpa using hb.cell 0,h1.1,h1.2⟩
 |1=>simp at hl;subst hl;exact⟨g,0,A2,n2,c2,rfl,by simpa using hb.cell 1,h2.1,h2.2⟩
 |2=>simp at hl;subst hl;exact⟨g,0,A3,n3,c3,rfl,by simpa using hb.cell 2,h3.1,h3.2⟩
 |i+3=>simp at hl
theorem asg_get {w:World} {A:Option Addr} {l:List Asg} (h:AsgsAt w A l) {i:Nat} {x:Asg} (hx:l[i]? =some x):∃b off A' n c,A=some ⟨b,off,none⟩∧w.cell? ⟨b,off+i*10,none⟩=some (.string x.cl)∧w.cell? ⟨b,off+i*10+1,none⟩=some (.int .i64 x.ix)∧
  w.cell? ⟨b,off+i*10+2,none⟩=some (.int .i64 x.ex.d.op)∧w.cell? ⟨b,off+i*10+3,none⟩=some (.string x.ex.d.tb)∧w.cell? ⟨b,off+i*10+4,none⟩=some (.string x.ex.d.nm)∧w.cell? ⟨b,off+i*10+5,none⟩=some (.int .i64 x.ex.d.ix)∧
  w.cell? ⟨b,off+i*10+6,none⟩=some (.int .i64 x.ex.d.vk)∧w.cell? ⟨b,off+i*10+7,none⟩=some (.int .i64 x.ex.d.vi)∧w.cell? ⟨b,off+i*10+8,none⟩=some (.string x.ex.d.vt)∧w.cell? ⟨b,off+i*10+9,none⟩=some (.slice A' n c)∧ExV w x.ex A' n c:=by
 obtain⟨_,b,off,A',n,c,hA,h1,h2,h3⟩:=h i x hx
 exact⟨b,off,A',n,c,hA,h1,h2,h3.c0,h3.c1,h3.c2,h3.c3,h3.c4,h3.c5,h3.c6,h3.c7,h3.val⟩
theorem itm_get {w:World} {A:Option Addr} {l:List Itm} (h:ItmsAt w A l) {i:Nat} {x:Itm} (hx:l[i]? =some x):∃b off A' n c,A=some ⟨b,off,none⟩∧w.cell? ⟨b,off+i*9,none⟩=some (.int .i64 x.ag)∧
  w.cell? ⟨b,off+i*9+1,none⟩=some (.int .i64 x.ex.d.op)∧w.cell? ⟨b,off+i*9+2,none⟩=some (.string x.ex.d.tb)∧w.cell? ⟨b,off+i*9+3,none⟩=some (.string x.ex.d.nm)∧w.cell? ⟨b,off+i*9+4,none⟩=some (.int .i64 x.ex.d.ix)∧
  w.cell? ⟨b,off+i*9+5,none⟩=some (.int .i64 x.ex.d.vk)∧w.cell? ⟨b,off+i*9+6,none⟩=some (.int .i64 x.ex.d.vi)∧w.cell? ⟨b,off+i*9+7,none⟩=some (.string x.ex.d.vt)∧w.cell? ⟨b,off+i*9+8,none⟩=some (.slice A' n c)∧ExV w x.ex A' n c:=by
 obtain⟨_,b,off,A',n,c,hA,h1,h3⟩:=h i x hx
 exact⟨b,off,A',n,c,hA,h1,h3.c0,h3.c1,h3.c2,h3.c3,h3.c4,h3.c5,h3.c6,h3.c7,h3.val⟩
theorem cells8_one (d:Nd) (A:Option Addr) (n c:Nat):∀u∈d.cells A n c,u.oneCell'=true:=by
 intro u hu
 simp[Nd.cells]at hu
 rcases hu with rfl|rfl|rfl|rfl|rfl|rfl|rfl|rfl<;>rfl
theorem all_any (s:St) (a:SA) (w:World) (hv:StV w s a) (hT:s.all.length≤100000000):
  Calls Tryz.prog 63 #[s.val a] w fun r w'=> ∃A c,r= .returned (.slice A s.all.length c)∧KidsAt w' A s.all∧Ext w w':=by
 obtain⟨i0,hi,hz0,hz1,hz2⟩:=info_parts info_ex
 have HV:=hid hv
 have HTl:=hid hT
 have HB:=hid (Blk.of_new w 40 (s.cells a))
 have HX:=hid ((Ext.refl w).alloc (.cells (s.cells a).toArray 40))
 have hsn:=hv.sets.2.1
 have hin:=hv.itms.2.1
 have hfl:s.vals.flatten.length≤100000000∧(s.chk++s.vals.flatten++s.grp).length≤100000000∧(s.chk++s.vals.flatten++s.grp++s.sets.map Asg.ex).length≤100000000∧(s.chk++s.vals.flatten++s.grp++s.sets.map Asg.ex++s.itms.map Itm.ex).length<100000000:=by
  unfold St.all at hT
  simp only[List.length_append,List.length_singleton]at*
  omega
 have HFL:=hid hfl
 have HC1:=hid (fun W (hW:Ext w W)=>concat_kids s.vals a.vals.A a.vals.n a.vals.c W hv.vals.1 hv.vals.2.1 (hv.vals.2.2.ext hW) (by omega))
 have HC2:Hid (∀(W:World) (g':Nat) (A':Option Addr) (c':Nat),Ext w W→KidsAt W A' s.vals.flatten→Blk W g' 27 [.slice a.chk.A a.chk.n a.chk.c,.slice A' s.vals.flatten.length c',.slice a.grp.A a.grp.n a.grp.c]→
   Calls Tryz.prog 114 #[.slice (some ⟨g',0,none⟩) 3 3] W fun r w'=> ∃v xs,r= .returned v∧w'.ownsRow W.heap.size 37 8 v (s.chk++s.vals.flatten++s.grp).length xs∧LC W (s.chk++s.vals.flatten++s.grp) xs∧Ext W w'):=by
  intro W g' A' c' hW hk hb
  have he: [s.chk,s.vals.flatten,s.grp].flatten=s.chk++s.vals.flatten++s.grp:=by simp
  have:=concat_any [s.chk,s.vals.flatten,s.grp] _ 3 3 W rfl (by omega) (rows3 hb ⟨hv.chk.1,hv.chk.2.2.ext hW⟩ ⟨rfl,hk⟩ ⟨hv.grp.1,hv.grp.2.2.ext hW⟩) (by rw[he];omega)
  rwa [he]at this
 clear hv hT hfl
 unfold St.val
 unfold St.cells at*
 unfold Sl.v at*
 have Hsets:=hid HV.out.sets.2.2
 have Hitms:=hid HV.out.itms.2.2
 generalize a.sets.A=P1 at*
 generalize a.itms.A=P2 at*
 go_enter Tryz.func63,Tryz.ntmps63
 go_wp2_with fail
 generalize w.alloc (.cells _ 40)=w1 at*
 generalize w.heap.size=g at*
 obtain⟨-,-,-,-,-,c5,c6,-,-,-,-,-,-,-,-,-,-,-,c18,-⟩:=cls HB.out
 generalize s.vals.flatten.length=nv at*
 go_region_held3 (fun w'=>w'.cell? ⟨g,5,none⟩=some (.slice a.chk.A a.chk.n a.chk.c)∧w'.cell? ⟨g,6,none⟩=some (.slice a.vals.A a.vals.n a.vals.c)∧w'.cell? ⟨g,18,none⟩=some (.slice a.grp.A a.grp.n a.grp.c))
  (first|go_keep|exact⟨hx1.keep c5,hx1.keep c6,hx1.keep c18⟩|exact⟨hx2.keep (((Ext.refl w2).alloc _).keep (hx1.keep c5)),hx2.keep (((Ext.refl w2).alloc _).keep (hx1.keep c6)),hx2.keep (((Ext.refl w2).alloc _).keep (hx1.keep c18))⟩)
  (first
   |(go_at_call 114;(with_reducible refine(HC1.out _ HX.out.drew).mono ?_);rintro _ w2 ⟨A1,c1,rfl,hk1,hx1⟩)
   |(go_at_call 114;(with_reducible refine(HC2.out _ _ A1 c1 ((HX.out.drew.trans hx1).alloc _) (hk1.ext ((Ext.refl w2).alloc _)) (Blk.of_new w2 _ _)).mono ?_);rintro _ w3 ⟨v3,xs3,rfl,hown3,hlc3,hx2⟩))
 have hbx:=Blk.of_new w2 27 [.slice a.chk.A a.chk.n a.chk.c,.slice A1 nv c1,.slice a.grp.A a.grp.n a.grp.c]
 have HX0:=hid ((HX.out.drew.trans hx1).alloc (.cells #[.slice a.chk.A a.chk.n a.chk.c,.slice A1 nv c1,.slice a.grp.A a.grp.n a.grp.c] 27))
 have HB0:=hid ((HB.out.ext (((Ext.refl w1).drew.trans hx1).alloc (.cells #[.slice a.chk.A a.chk.n a.chk.c,.slice A1 nv c1,.slice a.grp.A a.grp.n a.grp.c] 27))))
 have HO3:=hid hown3
 have HLC3:=hid hlc3
 rename_i hHeld
 clear hHeld hown3 hlc3 hbx HC1 HC2 c5 c6 c18 hk1
 generalize w2.alloc (.cells #[.slice a.chk.A a.chk.n a.chk.c,.slice A1 nv c1,.slice a.grp.A a.grp.n a.grp.c] 27)=W0 at*
 generalize hL0:s.chk++s.vals.flatten++s.grp=L0 at*
 have c7:=(HB0.out.ext hx2).cell 7
 simp only[List.getElem?_cons_succ,List.getElem?_cons_zero]at c7
 have HX2:=hid hx2
 clear hx1 hx2
 go_wp2_with fail
 go_loopw [3,21] (fun nv iv wr=> ∃(k:Nat) (xs:List Value),k≤a.sets.n∧iv= .int .i64 k∧wr.ownsRow W0.heap.size 37 8 nv (L0++(s.sets.take k).map Asg.ex).length xs∧LC W0 (L0++(s.sets.take k).map Asg.ex) xs∧Ext W0 wr) (fun _ i _=>a.sets.n- (intOf i).toNat)
 case atStart=>exact⟨0,xs3,Nat.zero_le _,rfl,by simpa using HO3.out,by simpa using HLC3.out,HX2.out⟩
 case round=>
  obtain⟨k,xs,hk,rfl,hown,hlc,hxr⟩:=hrel
  have HO:=hid hown
  have HLC:=hid hlc
  have HXr:=hid hxr
  clear hown hlc
  by_cases hlt:k<a.sets.n
  ·obtain⟨x,hx⟩:=rat_lt HV.out.sets.1 hlt
   obtain⟨b,off,A',n',c',rfl,q0,q1,q2,q3,q4,q5,q6,q7,q8,q9,hxv⟩:=asg_get (Hsets.out.ext HX0.out) hx
   replace q0:=hxr.keep q0
   replace q1:=hxr.keep q1
   replace q2:=hxr.keep q2
   replace q3:=hxr.keep q3
   replace q4:=hxr.keep q4
   replace q5:=hxr.keep q5
   replace q6:=hxr.keep q6
   replace q7:=hxr.keep q7
   replace q8:=hxr.keep q8
   replace q9:=hxr.keep q9
   have HEx:=hid (elt_cells hxv)
   have HMs:=hid (map_step Asg.ex hx)
   have HONE:=hid (cells8_one x.ex.d A' n' c')
   obtain⟨p,hp⟩:∃p,(L0++(s.sets.take k).map Asg.ex).length=p:=⟨_,rfl⟩
   have HP:=hid hp
   rw[hp]at HO
   have hpl:p+1≤100000000:=by
    have h1:=HFL.out.2.2.1
    have h2:(s.sets.take (k+1)).length≤s.sets.length:=by rw[List.length_take];omega
    rw[←hp]
    simp only[List.length_append,List.length_map,List.length_take]at*
    have:=HV.out.sets.1
    omega
   clear hx hxv hp hxr
   unfold Nd.cells at HEx HONE
   generalize hd:x.ex.d=d at*
   obtain⟨op,tb,nm,ix,vk,vi,vt⟩:=d
   simp only at*
   clear hd
   go_wp2_with (at_builtin;refine wpList_append_own _ rfl (.tmp 25) (.tmp 28) 27 rfl W0.heap.size 37 i0 _ 8 104 Tryz.underlying27 hi hz0 hz1 hz2 rfl (by decide) _ p xs rfl (ownN_ext HO.out (((Ext.refl wr).alloc _).alloc _)) ⟨_,0,none⟩ 1 1 (eC op tb nm ix vk vi vt A' n' c') rfl rfl (news_at _ _ _ _ (by simp)) HONE.out (by unfold maxLen;omega) (by omega) (by simp;have:=HXr.out.size;omega) ?_;intro v1 w5 hown5 hgr5 _;have HO5:=hid hown5;have HG5:=hid hgr5;clear hown5 hgr5)
   go_roundw
   case rel=>
    refine⟨k+1,xs++(eC op tb nm ix vk vi vt A' n' c'),by omega,by go_num,?_,?_,?_⟩
    ·rw[HMs.out,←List.append_assoc,List.length_append,HP.out]
     exact HO5.out
    ·rw[HMs.out,←List.append_assoc]
     exact HLC.out.app (LC.one HEx.out)
    ·refine((HXr.out.alloc _).alloc _).grown HG5.out fun q hq=> (HO.out.lt q hq).1
   case measure=>simp[intOf];omega
  ·obtain rfl:k=a.sets.n:=by omega
   have HTk:Hid (s.sets.take a.sets.n=s.sets):=List.take_of_length_le (Nat.le_of_eq HV.out.sets.1)
   rw[HTk.out]at HO HLC
   generalize hL1:L0++s.sets.map Asg.ex=L1 at*
   have c8:=(HB0.out.ext hxr).cell 8
   simp only[List.getElem?_cons_succ,List.getElem?_cons_zero]at c8
   clear hxr
   go_wp2_with fail
   go_loopw [3,34] (fun nv iv wr=> ∃(k:Nat) (xs:List Value),k≤a.itms.n∧iv= .int .i64 k∧wr.ownsRow W0.heap.size 37 8 nv (L1++(s.itms.take k).map Itm.ex).length xs∧LC W0 (L1++(s.itms.take k).map Itm.ex) xs∧Ext W0 wr) (fun _ i _=>a.itms.n- (intOf i).toNat)
   case atStart=>exact⟨0,xs,Nat.zero_le _,rfl,by simpa using HO.out,by simpa using HLC.out,HXr.out⟩
   case round=>
    clear HO HLC HXr
    obtain⟨k,xs,hk,rfl,hown,hlc,hxr⟩:=hrel
    have HO:=hid hown
    have HLC:=hid hlc
    have HXr:=hid hxr
    clear hown hlc
    by_cases hlt:k<a.itms.n
    ·obtain⟨x,hx⟩:=rat_lt HV.out.itms.1 hlt
     obtain⟨b,off,A',n',c',rfl,q0,q1,q2,q3,q4,q5,q6,q7,q8,hxv⟩:=itm_get (Hitms.out.ext HX0.out) hx
     replace q0:=hxr.keep q0
     replace q1:=hxr.keep q1
     replace q2:=hxr.keep q2
     replace q3:=hxr.keep q3
     replace q4:=hxr.keep q4
     replace q5:=hxr.keep q5
     replace q6:=hxr.keep q6
     replace q7:=hxr.keep q7
     replace q8:=hxr.keep q8
     have HEx:=hid (elt_cells hxv)
     have HMs:=hid (map_step Itm.ex hx)
     have HONE:=hid (cells8_one x.ex.d A' n' c')
     obtain⟨p,hp⟩:∃p,(L1++(s.itms.take k).map Itm.ex).length=p:=⟨_,rfl⟩
     have HP:=hid hp
     rw[hp]at HO
     have hpl:p+1≤100000000:=by
      have h1:=HFL.out.2.2.2
      have h2:(s.itms.take (k+1)).length≤s.itms.length:=by rw[List.length_take];omega
      rw[←hp]
      simp only[List.length_append,List.length_map,List.length_take]at*
      have:=HV.out.itms.1
      omega
     clear hx hxv hp hxr
     unfold Nd.cells at HEx HONE
     generalize hd:x.ex.d=d at*
     obtain⟨op,tb,nm,ix,vk,vi,vt⟩:=d
     simp only at*
     clear hd
     go_wp2_with (at_builtin;refine wpList_append_own _ rfl (.tmp 38) (.tmp 41) 27 rfl W0.heap.size 37 i0 _ 8 104 Tryz.underlying27 hi hz0 hz1 hz2 rfl (by decide) _ p xs rfl (ownN_ext HO.out (((Ext.refl wr).alloc _).alloc _)) ⟨_,0,none⟩ 1 1 (eC op tb nm ix vk vi vt A' n' c') rfl rfl (news_at _ _ _ _ (by simp)) HONE.out (by unfold maxLen;omega) (by omega) (by simp;have:=HXr.out.size;omega) ?_;intro v1 w5 hown5 hgr5 _;have HO5:=hid hown5;have HG5:=hid hgr5;clear hown5 hgr5)
     go_roundw
     case rel=>
      refine⟨k+1,xs++(eC op tb nm ix vk vi vt A' n' c'),by omega,by go_num,?_,?_,?_⟩
      ·rw[HMs.out,←List.append_assoc,List.length_append,HP.out]
       exact HO5.out
      ·rw[HMs.out,←List.append_assoc]
       exact HLC.out.app (LC.one HEx.out)
      ·refine((HXr.out.alloc _).alloc _).grown HG5.out fun q hq=> (HO.out.lt q hq).1
     case measure=>simp[intOf];omega
    ·obtain rfl:k=a.itms.n:=by omega
     have HTi:Hid (s.itms.take a.itms.n=s.itms):=List.take_of_length_le (Nat.le_of_eq HV.out.itms.1)
     rw[HTi.out]at HO HLC
     have hb:=HB0.out.ext hxr
     obtain⟨-,-,-,-,-,-,-,-,-,-,d10,d11,d12,d13,d14,d15,d16,d17,-⟩:=cls hb
     have HEx:=hid (elt_cells (HV.out.whr.ext HX0.out))
     have HONE:=hid (cells8_one s.whr.d a.whr.A a.whr.n a.whr.c)
     obtain⟨p,hp⟩:∃p,(L1++s.itms.map Itm.ex).length=p:=⟨_,rfl⟩
     have HP:=hid hp
     rw[hp]at HO
     have hpl:p+1≤100000000:=by
      have h1:=HFL.out.2.2.2
      omega
     have HALL:Hid (s.all=L1++s.itms.map Itm.ex++ [s.whr]):=by unfold Hid St.all;rw[hL0,hL1]
     clear hb hxr hp hL0 hL1
     unfold Nd.cells at HEx HONE
     generalize hd:s.whr.d=d at*
     obtain⟨op,tb,nm,ix,vk,vi,vt⟩:=d
     simp only at*
     clear hd
     go_wp2_with (at_builtin;refine wpList_append_own _ rfl (.tmp 44) (.tmp 47) 27 rfl W0.heap.size 37 i0 _ 8 104 Tryz.underlying27 hi hz0 hz1 hz2 rfl (by decide) _ p xs rfl (ownN_ext HO.out ((Ext.refl wr).alloc _)) ⟨_,0,none⟩ 1 1 (eC op tb nm ix vk vi vt a.whr.A a.whr.n a.whr.c) rfl rfl (news_at _ _ _ _ (by simp)) HONE.out (by unfold maxLen;omega) (by omega) (by simp;have:=HXr.out.size;omega) ?_;intro v1 w5 hown5 hgr5 _;have HO5:=hid hown5;have HG5:=hid hgr5;clear hown5 hgr5)
     go_ret
     have hx5:Ext W0 w5:=(HXr.out.alloc _).grown HG5.out fun q hq=> (HO.out.lt q hq).1
     have hlc5:LC W0 s.all (xs++(eC op tb nm ix vk vi vt a.whr.A a.whr.n a.whr.c)):=by rw[HALL.out];exact HLC.out.app (LC.one HEx.out)
     obtain⟨A5,c5,rfl,hk5,hn5⟩:=own_kids HO5.out (hlc5.ext hx5)
     rw[hn5]
     exact⟨A5,c5,rfl,hk5,HX0.out.trans hx5⟩
def sWhere:ByteArray:=⟨#[32,87,72,69,82,69,32]⟩
def sDelete:ByteArray:=⟨#[68,69,76,69,84,69,32,70,82,79,77,32]⟩
mutual
def Ex.num (n:Int):Ex→Ex
 | .mk d ks=> .mk { d with ix:=n } (numL n ks)
def numL (n:Int):List Ex→List Ex
 | []=> []
 |e::es=>e.num n::numL n es
end
end Go.Proofs.YtjigcpfjhfoheaaGreatDoor
