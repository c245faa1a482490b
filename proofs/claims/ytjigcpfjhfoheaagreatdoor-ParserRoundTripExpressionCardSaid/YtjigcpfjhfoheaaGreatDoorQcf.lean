/- Statements: how they lie in memory, whole structs loaded and stored; a parser's steps with known answers; Walk: a statement. -/
import Derived.Test.YtjigcpfjhfoheaaGreatDoorQbf
import Derived.Test.YtjigcpfjhfoheaaGreatDoorQbj
import Derived.Great.Walk
namespace Go.Proofs.YtjigcpfjhfoheaaGreatDoor
open Go.RowKit
set_option maxHeartbeats 4000000
set_option maxRecDepth 100000
set_option linter.unusedVariables false
set_option linter.unusedSimpArgs false
section
open Lx (Tk)
section
variable {ops:Array Oper} {rest:List Oper} {o:Oper} {a:Act} {w:World} {Q:Exit→Act→World→Prop}
theorem ldS {x:Operand} (hgd:o.guard=none) (ho:o.op= .load 40 x) (g:Nat) (hx:a.eval x= .pointer (some ⟨g,0,none⟩)) {cs:List Value} (hg:Blk w g 40 cs) (hl:cs.length=22) (h:wpList Tryz.prog ops Q rest (a.put o.dst (.agg cs.toArray)) w):wpList Tryz.prog ops Q (o::rest) a w:=
 aw hgd 40 x ho g hx 40 cs _ hg Tryz.underlying40 rfl (by rw[hl];kernel_rfl) h
theorem stS {x y:Operand} (hgd:o.guard=none) (ho:o.op= .store 40 x y) (hd:o.dst=none) (g:Nat) (ds:List Value) (hx:a.eval x= .pointer (some ⟨g,0,none⟩)) (hy:a.eval y= .agg ds.toArray) {cs:List Value} (hg:Blk w g 40 cs) (hl:cs.length=22) (hm:ds.length=22) (h1:ds.toArray.all (·.oneCell')=true)
  (h:wpList Tryz.prog ops Q rest a (w.setRow g ds.toArray)):wpList Tryz.prog ops Q (o::rest) a w:=
 wpList_store_rowTo hgd 40 x y ho hd g ds.toArray hx hy 40 cs.toArray hg (by rw[List.size_toArray,hm];kernel_rfl) (by rw[List.size_toArray,List.size_toArray,hl,hm]) h1 h
theorem stS' {x y:Operand} (hgd:o.guard=none) (ho:o.op= .store 40 x y) (hd:o.dst=none) (ds:List Value) (hx:a.eval x= .pointer (some ⟨w.heap.size,0,none⟩)) (hy:a.eval y= .agg ds.toArray) {cs:List Value} (hl:cs.length=22) (hm:ds.length=22) (h1:ds.toArray.all (·.oneCell')=true)
  (h:wpList Tryz.prog ops Q rest a (w.alloc (.cells ds.toArray 40))):wpList Tryz.prog ops Q (o::rest) a (w.alloc (.cells cs.toArray 40)):=
 wpList_store_rowTo hgd 40 x y ho hd w.heap.size ds.toArray hx hy 40 cs.toArray (heap_alloc_new w _) (by rw[List.size_toArray,hm];kernel_rfl) (by rw[List.size_toArray,List.size_toArray,hl,hm]) h1 (by rw[World.setRow_alloc_new];exact h)
end
section
variable {T P c:Nat} {A:Option Addr} {L:List Tk} {w0 wi w w':World} {s:Ps} {V:List Vb} {Φ:World→Prop}
theorem En.mid (h:En T P A c L w0 wi w s V Φ) {j g t:Nat} (pre old vs post:List Value) (hj:V[j]? =some (g,t,pre++old++post)) (hl:old.length=vs.length):En T P A c L w0 wi (sts w g pre.length vs) s (V.set j (g,t,pre++vs++post)) Φ:=
 h.put hj (ak g vs w pre.length) (ln (h.get hj) hl)
theorem mid8 {w:World} {g t:Nat} {u0 u1 u2 u3 u4 u5 u6 u7 u8 u9 v0 v1 v2 v3 v4 v5 v6 v7:Value} {l:List Value} (h:Blk w g t ([u0,u1,u2,u3,u4,u5,u6,u7,u8,u9,v0,v1,v2,v3,v4,v5,v6,v7]++l)):w.cell? ⟨g,10,none⟩=some v0∧w.cell? ⟨g,11,none⟩=some v1∧w.cell? ⟨g,12,none⟩=some v2∧w.cell? ⟨g,13,none⟩=some v3∧w.cell? ⟨g,14,none⟩=some v4∧w.cell? ⟨g,15,none⟩=some v5∧w.cell? ⟨g,16,none⟩=some v6∧w.cell? ⟨g,17,none⟩=some v7∧
  w.frozen? ⟨g,10,none⟩=false∧w.frozen? ⟨g,11,none⟩=false∧w.frozen? ⟨g,12,none⟩=false∧w.frozen? ⟨g,13,none⟩=false∧w.frozen? ⟨g,14,none⟩=false∧w.frozen? ⟨g,15,none⟩=false∧w.frozen? ⟨g,16,none⟩=false∧w.frozen? ⟨g,17,none⟩=false:=
 ⟨h.cell_some rfl,h.cell_some rfl,h.cell_some rfl,h.cell_some rfl,h.cell_some rfl,h.cell_some rfl,h.cell_some rfl,h.cell_some rfl,h.frozen 10,h.frozen 11,h.frozen 12,h.frozen 13,h.frozen 14,h.frozen 15,h.frozen 16,h.frozen 17⟩
end
theorem lst_rows {w:World} {B:Option Addr} {l:List (List Ex)} (h:Lst Phirow 1 w B l):cR w B l:=fun i a hi=>by
 obtain⟨cs,_,⟨b,off,hB,hc⟩,B2,k,hcs,hz,hv⟩:=h i a hi
 subst hcs
 exact⟨b,off,B2,a.length,k,hB,by simpa using hc 0 _ rfl,rfl,hv⟩
theorem lst_asgs {w:World} {B:Option Addr} {l:List Asg} (h:Lst Phiasg 10 w B l):dO w B l:=fun i a hi=>by
 obtain⟨cs,_,⟨b,off,hB,hc⟩,B2,k,c2,hcs,hz,hv⟩:=h i a hi
 subst hcs
 refine⟨hz,b,off,B2,k,c2,hB,by simpa using hc 0 _ rfl,hc 1 _ rfl,⟨?_,?_,?_,?_,?_,?_,?_,?_,hv⟩⟩
 ·exact hc 2 _ rfl
 ·exact hc 3 _ rfl
 ·exact hc 4 _ rfl
 ·exact hc 5 _ rfl
 ·exact hc 6 _ rfl
 ·exact hc 7 _ rfl
 ·exact hc 8 _ rfl
 ·exact hc 9 _ rfl
def lowS (k:Int) (X N:ByteArray) (V:List (List Ex)) (S:List Asg) (e:Ex):St:= { stZ with kd:=k,tb:=X,vals:=V,sets:=S,whr:=e,nm:=N }
def fj (B C D:Option Addr) (k n m c d f:Nat):SA:=⟨⟨none,0,0⟩,⟨none,0,0⟩,⟨none,0,0⟩,⟨none,0,0⟩,⟨B,k,c⟩,⟨C,n,d⟩,⟨none,0,0⟩,⟨none,0,0⟩,⟨D,m,f⟩,⟨none,0,0⟩,⟨none,0,0⟩⟩
theorem lB {w:World} {k:Int} {X N:ByteArray} {V:List (List Ex)} {S:List Asg} {e:Ex} {B C D:Option Addr} {m c d f:Nat} (hk:I64 k) (hX:X.size≤20000) (hN:N.size≤20000) (hV:V.length≤20001) (hS:S.length≤20001)
  (h1:Lst Phirow 1 w B V) (h2:Lst Phiasg 10 w C S) (h3:ExV w e D m f):StV w (lowS k X N V S e) (fj B C D V.length S.length m c d f):=by
 have e0:∀A:Option Addr,KidsAt w A []:=fun A=>by unfold KidsAt;exact trivial
 refine⟨hk,by show X.size≤_;omega,ca,by show N.size≤_;omega,⟨rfl,by show 0≤_;omega,fun i x h=>by cases h⟩,⟨rfl,by show 0≤_;omega,fun i x h=>by cases h⟩,⟨rfl,by show 0≤_;omega,fun i x h=>by cases h⟩,⟨rfl,by show 0≤_;omega,e0 _⟩,
  ⟨rfl,by show V.length≤_;omega,lst_rows h1⟩,?_,⟨rfl,by show S.length≤_;omega,lst_asgs h2⟩,⟨rfl,by show 0≤_;omega,fun i x h=>by cases h⟩,⟨rfl,by show 0≤_;omega,fun i x h=>by cases h⟩,h3,⟨rfl,by show 0≤_;omega,e0 _⟩,⟨rfl,by show 0≤_;omega,fun i x h=>by cases h⟩⟩
 intro l hl
 obtain⟨i,hi⟩:=List.getElem?_of_mem hl
 obtain⟨cs,_,_,B2,k2,_,hz,_⟩:=h1 i l hi
 exact hz
theorem cW {α:Type} {Φ:α→List Value→World→Prop} {n:Nat} {w:World} {B:Option Addr} :Lst Φ n w B []:=fun i a h=>by cases h
theorem dM {w:World} {k:Int} {X N:ByteArray} (hk:I64 k) (hX:X.size≤20000) (hN:N.size≤20000):StV w (lowS k X N [] [] exZ) (fj none none none 0 0 0 0 0 0):=lB hk hX hN (by simp) (by simp) cW cW (jR w)
section
variable {P c:Nat} {A:Option Addr} {L:List Tk} {w0 w:World} {s:Ps}
theorem atk1 (hp:PsAt 68 P A c L w0 w s) (hL:TkL L) {t:ByteArray} (hb:isS t s=true):
  Calls Tryz.prog 53 #[.pointer (some ⟨P,0,none⟩),.string t] w fun e w'=>e= .returned (.bool true)∧PsAt 68 P A c L w0 w' s.next∧Chg P w w':=
 (aq hp hL t).mono fun e w' ⟨v,h1,h2,h3,h4⟩=>⟨by rw[h1,h4,hb],by rw[au,hb]at h2;exact h2,h3⟩
theorem atk0 (hp:PsAt 68 P A c L w0 w s) (hL:TkL L) {t:ByteArray} (hb:isS t s=false):
  Calls Tryz.prog 53 #[.pointer (some ⟨P,0,none⟩),.string t] w fun e w'=>e= .returned (.bool false)∧PsAt 68 P A c L w0 w' s∧Chg P w w':=
 (aq hp hL t).mono fun e w' ⟨v,h1,h2,h3,h4⟩=>⟨by rw[h1,h4,hb],by rw[au,hb]at h2;exact h2,h3⟩
theorem pneed (hp:PsAt 68 P A c L w0 w s) (hL:TkL L) (t:ByteArray):
  Calls Tryz.prog 44 #[.pointer (some ⟨P,0,none⟩),.slice (some ⟨w.heap.size,0,none⟩) 1 1] (w.alloc (.cells #[.string t] 9)) fun e w'=> ∃v,e= .returned v∧PsAt 68 P A c L w0 w' (needP t s)∧Chg P w w':=
 (a7 (hp.ext ((Ext.refl w).alloc _)) hL t w.heap.size (by simp[World.cell?_alloc_new])).mono fun e w' ⟨v,h1,h2,h3,_⟩=>⟨v,h1,h2,(Chg.of ((Ext.refl w).alloc _)).trans h3⟩
theorem kG (hp:PsAt 68 P A c L w0 w s) (hL:TkL L):
  Calls Tryz.prog 55 #[.pointer (some ⟨P,0,none⟩)] w fun e w'=>e= .returned (.string (takP 1 s).1)∧PsAt 68 P A c L w0 w' (takP 1 s).2∧Chg P w w':=
 (dY hp hL).mono fun e w' ⟨v,h1,h2,h3,h4⟩=>⟨by rw[h1,h4],h2,h3⟩
end
theorem ran_ex {T P c:Nat} {A:Option Addr} {L:List Tk} {w0 w:World} {F:Nat} {x:Array Value} {R:Ex×Ps} (h:Calls Tryz.prog F x w (Ran T P A c L w0 w R.2 fun v w'=>ExG w.heap.size w' R.1 v)):
  ∃(op ix vk vi:Int) (tb nm vt:ByteArray) (ks:List Ex) (s1:Ps),R=(.mk ⟨op,tb,nm,ix,vk,vi,vt⟩ ks,s1)∧Calls Tryz.prog F x w fun e w'=> ∃A1 k1 c1,e= .returned (.agg #[.int .i64 op,.string tb,.string nm,.int .i64 ix,.int .i64 vk,.int .i64 vi,.string vt,.slice A1 k1 c1])∧PsAt T P A c L w0 w' s1∧Chg P w w'∧
   Stb (w.heap.size≤·) w' (fun u=>ExV u (.mk ⟨op,tb,nm,ix,vk,vi,vt⟩ ks) A1 k1 c1):=by
 obtain⟨⟨⟨op,tb,nm,ix,vk,vi,vt⟩,ks⟩,s1⟩:=R
 exact⟨op,ix,vk,vi,tb,nm,vt,ks,s1,rfl,h.mono fun e w' ⟨v,h1,h2,h3,A1,k1,c1,h4,h5⟩=>⟨A1,k1,c1,by rw[h1,h4];rfl,h2,h3,h5⟩⟩
end
section
open Lx (Tk)
section
variable {P c:Nat} {A:Option Addr} {L:List Tk} {w0 w:World} {s:Ps}
theorem lC {n:Nat} {ex:M Ex} (hr:Rdr 68 P A c L w0 n 39 ex) (hn:s.r.length<n) (hp:PsAt 68 P A c L w0 w s) (hL:TkL L)
  (hcr:isS kCREATE s=true→∀W st,PsAt 68 P A c L w0 W st→st.r.length<n→Calls Tryz.prog 54 #[.pointer (some ⟨P,0,none⟩)] W (Ran 68 P A c L w0 W (createP ex st).2 fun v w'=>ElSt W.heap.size w' (createP ex st).1 v))
  (hqu:isS iE s=true→∀W st,PsAt 68 P A c L w0 W st→st.r.length<n→Calls Tryz.prog 61 #[.pointer (some ⟨P,0,none⟩)] W (Ran 68 P A c L w0 W (queryP ex posP andL st).2 fun v w'=>ElSt W.heap.size w' (queryP ex posP andL st).1 v))
  (hin:isS dF s=true→∀W st,PsAt 68 P A c L w0 W st→st.r.length<n→Calls Tryz.prog 56 #[.pointer (some ⟨P,0,none⟩),.func (Fn.func 57) #[.pointer (some ⟨P,0,none⟩)] #[]] W (Ran 68 P A c L w0 W (listP (tupP ex) st).2 fun v w'=> (listP (tupP ex) st).1.length≤st.r.length+1∧∃B k,v= .slice B (listP (tupP ex) st).1.length k∧Stb (W.heap.size≤·) w' (fun w2=>Lst Phirow 1 w2 B (listP (tupP ex) st).1)))
  (hup:isS dG s=true→∀W st,PsAt 68 P A c L w0 W st→st.r.length<n→Calls Tryz.prog 58 #[.pointer (some ⟨P,0,none⟩),.func (Fn.func 59) #[.pointer (some ⟨P,0,none⟩)] #[]] W (Ran 68 P A c L w0 W (listP (asgP ex) st).2 fun v w'=> (listP (asgP ex) st).1.length≤st.r.length+1∧(listP (asgP ex) st).2.r.length≤st.r.length∧∃B k,v= .slice B (listP (asgP ex) st).1.length k∧Stb (W.heap.size≤·) w' (fun w2=>Lst Phiasg 10 w2 B (listP (asgP ex) st).1))):
  Calls Tryz.prog 29 #[.pointer (some ⟨P,0,none⟩)] w (Ran 68 P A c L w0 w (eu ex posP andL gc s).2 fun v w'=>ElSt w.heap.size w' (eu ex posP andL gc s).1 v):=by
 have HM:Hid (eu ex posP andL gc s=if isS kCREATE s=true then createP ex s.next else if isS dF s=true then
   (lowS 2 (takP 1 (needP kINTO s.next)).1 ⟨#[]⟩ (listP (tupP ex) (needP kVALUES (takP 1 (needP kINTO s.next)).2)).1 [] exZ,(listP (tupP ex) (needP kVALUES (takP 1 (needP kINTO s.next)).2)).2)
  else if isS dG s=true then (lowS 3 (takP 1 s.next).1 ⟨#[]⟩ [] (listP (asgP ex) (needP kSET (takP 1 s.next).2)).1 (whrP ex (listP (asgP ex) (needP kSET (takP 1 s.next).2)).2).1,(whrP ex (listP (asgP ex) (needP kSET (takP 1 s.next).2)).2).2)
  else if isS kQ s=true then (lowS 4 (takP 1 (needP kFROM s.next)).1 ⟨#[]⟩ [] [] (whrP ex (takP 1 (needP kFROM s.next)).2).1,(whrP ex (takP 1 (needP kFROM s.next)).2).2)
  else if isS iE s=true then queryP ex posP andL s.next
  else if isS kBEGIN s=true then (lowS 6 ⟨#[]⟩ ⟨#[]⟩ [] [] exZ,s.next)
  else if isS kR s=true then (lowS 7 ⟨#[]⟩ ⟨#[]⟩ [] [] exZ,s.next)
  else if isS gF s=true then (if isS kTO s.next=true then (lowS 10 ⟨#[]⟩ (takP 1 s.next.next).1 [] [] exZ,(takP 1 s.next.next).2)else (lowS 8 ⟨#[]⟩ ⟨#[]⟩ [] [] exZ,s.next))
  else if isS fx s=true then (lowS 9 ⟨#[]⟩ (takP 1 s.next).1 [] [] exZ,(takP 1 s.next).2)
  else if isS jc s=true then (lowS 11 ⟨#[]⟩ (takP 1 s.next).1 [] [] exZ,(takP 1 s.next).2)else (lowS 0 ⟨#[]⟩ ⟨#[]⟩ [] [] exZ,s.fail)):=rfl
 obtain⟨R,hR⟩:∃R,eu ex posP andL gc s=R:=⟨_,rfl⟩
 rw[hR]at HM ⊢
 clear hR
 have hle:=hp.le
 have hLl:=hL.len
 replace hcr:=hid hcr
 replace hqu:=hid hqu
 replace hin:=hid hin
 replace hup:=hid hup
 go_enter Tryz.func29,Tryz.ntmps29
 go_upto_region 1 with fail
 generalize hw:World.alloc _ _=w1
 have E:=hid (en_of (cs:= [.int .i64 0,.string ⟨#[]⟩,.slice none 0 0,.slice none 0 0,.slice none 0 0,.slice none 0 0,.slice none 0 0,.slice none 0 0,.slice none 0 0,.slice none 0 0,.int .i64 0,.string ⟨#[]⟩,.string ⟨#[]⟩,.int .i64 0,.int .i64 0,.int .i64 0,.string ⟨#[]⟩,.slice none 0 0,.slice none 0 0,.slice none 0 0,.int .i64 0,.string ⟨#[]⟩]) hp hw)
 obtain⟨g0,hg0⟩:∃g,w.heap.size=g:=⟨_,rfl⟩
 rw[hg0]at E ⊢
 clear hw hp hg0
 go_wp2_with fail
 cases hCR:isS kCREATE s
 rotate_left
 ·refine(atk1 E.out.ps hL hCR).mono ?_
  rintro _ w2 ⟨rfl,h1,h2⟩
  replace E:=hid (E.out.call h1 h2)
  clear h1 h2
  have hln:=aP hCR
  go_wp2_with fail
  refine(hcr.out hCR _ _ E.out.ps (by omega)).mono ?_
  rintro _ w3 ⟨_,rfl,h1,h2,a1,rfl,h3⟩
  replace E:=hid (E.out.calls h1 h2 h3)
  clear h1 h2 h3
  obtain⟨Y,hY⟩:∃x,createP ex s.next=x:=⟨_,rfl⟩
  rw[hY]at E HM ⊢
  clear hY
  unfold St.val
  obtain rfl:Y=R:=by rw[HM.out,if_pos hCR]
  go_wp2_with (first|(refine stS rfl rfl rfl _ (St.cells Y.1 a1) rfl rfl (E.out.get (j:=0) rfl) rfl rfl (by kernel_rfl) ?_))
  refine bodyPost_ret (v:= .agg ((St.cells Y.1 a1)).toArray) (results_cell_row (p:=2) (ty:=40) rfl _ _ g0 40 _ _ _ (by rfl) ((E.out.row (j:=0) rfl (St.cells Y.1 a1)).get (j:=0) rfl) Tryz.underlying40 rfl (by kernel_rfl)) rfl ?_
  have F:=E.out.row (j:=0) rfl (St.cells Y.1 a1)
  exact⟨_,rfl,F.ps,F.chg,a1,rfl,F.keep.imp fun u h=>h.2⟩
 refine(atk0 E.out.ps hL hCR).mono ?_
 rintro _ w2 ⟨rfl,h1,h2⟩
 replace E:=hid (E.out.call h1 h2)
 clear h1 h2
 have hm2:=HM.out
 rw[if_neg (by rw[hCR];simp)]at hm2
 replace HM:=hid hm2
 clear hm2
 go_wp2_with fail
 cases hIN:isS dF s
 rotate_left
 ·refine(atk1 E.out.ps hL hIN).mono ?_
  rintro _ w3 ⟨rfl,h1,h2⟩
  replace E:=hid (E.out.call h1 h2)
  clear h1 h2
  have hln:=aP hIN
  have hnl:=aO kINTO s.next
  go_wp2_with fail
  refine(pneed E.out.ps hL kINTO).mono ?_
  rintro _ w4 ⟨v,rfl,h1,h2⟩
  replace E:=hid (E.out.call h1 h2)
  clear h1 h2
  have hX:=E.out.ps.tak_size hL 1
  go_wp2_with fail
  refine(kG E.out.ps hL).mono ?_
  rintro _ w5 ⟨rfl,h1,h2⟩
  replace E:=hid (E.out.call h1 h2)
  clear h1 h2
  have hl1:=fwd_tak 1 (needP kINTO s.next)
  generalize hXe:(takP 1 (needP kINTO s.next)).1=X at*
  generalize hs1:(takP 1 (needP kINTO s.next)).2=s1 at*
  go_upto_region 6 with (first|(refine wpList_buildTo rfl 40 _ rfl _ rfl #[.int .i64 2,.string X,.slice none 0 0,.slice none 0 0,.slice none 0 0,.slice none 0 0,.slice none 0 0,.slice none 0 0,.slice none 0 0,.slice none 0 0,.int .i64 0,.string ⟨#[]⟩,.string ⟨#[]⟩,.int .i64 0,.int .i64 0,.int .i64 0,.string ⟨#[]⟩,.slice none 0 0,.slice none 0 0,.slice none 0 0,.int .i64 0,.string ⟨#[]⟩] (by kernel_rfl) ?_)|(refine Great.wpList_allocTo rfl _ rfl (.pointer (some ⟨_,0,none⟩)) (.cells #[.int .i64 0,.string ⟨#[]⟩,.slice none 0 0,.slice none 0 0,.slice none 0 0,.slice none 0 0,.slice none 0 0,.slice none 0 0,.slice none 0 0,.slice none 0 0,.int .i64 0,.string ⟨#[]⟩,.string ⟨#[]⟩,.int .i64 0,.int .i64 0,.int .i64 0,.string ⟨#[]⟩,.slice none 0 0,.slice none 0 0,.slice none 0 0,.int .i64 0,.string ⟨#[]⟩] 40) (by kernel_rfl) ?_)|(refine stS' rfl rfl rfl [.int .i64 2,.string X,.slice none 0 0,.slice none 0 0,.slice none 0 0,.slice none 0 0,.slice none 0 0,.slice none 0 0,.slice none 0 0,.slice none 0 0,.int .i64 0,.string ⟨#[]⟩,.string ⟨#[]⟩,.int .i64 0,.int .i64 0,.int .i64 0,.string ⟨#[]⟩,.slice none 0 0,.slice none 0 0,.slice none 0 0,.int .i64 0,.string ⟨#[]⟩] rfl rfl (cs:= [.int .i64 0,.string ⟨#[]⟩,.slice none 0 0,.slice none 0 0,.slice none 0 0,.slice none 0 0,.slice none 0 0,.slice none 0 0,.slice none 0 0,.slice none 0 0,.int .i64 0,.string ⟨#[]⟩,.string ⟨#[]⟩,.int .i64 0,.int .i64 0,.int .i64 0,.string ⟨#[]⟩,.slice none 0 0,.slice none 0 0,.slice none 0 0,.int .i64 0,.string ⟨#[]⟩]) rfl rfl (by kernel_rfl) ?_))
  generalize hw:World.alloc _ _=w6
  replace E:=hid (jM (cs:= [.int .i64 2,.string X,.slice none 0 0,.slice none 0 0,.slice none 0 0,.slice none 0 0,.slice none 0 0,.slice none 0 0,.slice none 0 0,.slice none 0 0,.int .i64 0,.string ⟨#[]⟩,.string ⟨#[]⟩,.int .i64 0,.int .i64 0,.int .i64 0,.string ⟨#[]⟩,.slice none 0 0,.slice none 0 0,.slice none 0 0,.int .i64 0,.string ⟨#[]⟩]) E.out hw)
  obtain⟨g3,hg1⟩:∃g,w5.heap.size=g:=⟨_,rfl⟩
  rw[hg1]at E ⊢
  clear hw hg1
  have hnl2:=aO kVALUES s1
  go_wp2_with fail
  refine(pneed E.out.ps hL kVALUES).mono ?_
  rintro _ w7 ⟨v,rfl,h1,h2⟩
  replace E:=hid (E.out.call h1 h2)
  clear h1 h2
  go_wp2_with fail
  refine(hin.out hIN _ _ E.out.ps (by omega)).mono ?_
  rintro _ w8 ⟨_,rfl,h1,h2,hVl,B,k,rfl,h3⟩
  replace E:=hid (E.out.calls h1 h2 h3)
  clear h1 h2 h3
  generalize hlt:listP (tupP ex) (needP kVALUES s1)=Lv at*
  have z6:=(E.out.get (j:=0) rfl).cell_some (i:=6) rfl
  have y6:=(E.out.get (j:=0) rfl).frozen 6
  go_upto_region 8 with fail
  replace E:=hid (E.out.set (j:=0) rfl 6 (.slice B Lv.1.length k))
  simp only[List.set_cons_zero,List.set_cons_succ]at E
  clear z6 y6
  obtain rfl:R=(lowS 2 X ⟨#[]⟩ (Lv.1) ([]) (exZ),Lv.2):=by rw[HM.out,if_pos hIN]
  go_wp2_with (first|(refine ldS rfl rfl _ rfl (E.out.get (j:=0) rfl) rfl ?_)|(refine stS rfl rfl rfl _ [.int .i64 2,.string X,.slice none 0 0,.slice none 0 0,.slice none 0 0,.slice none 0 0,.slice B Lv.1.length k,.slice none 0 0,.slice none 0 0,.slice none 0 0,.int .i64 0,.string ⟨#[]⟩,.string ⟨#[]⟩,.int .i64 0,.int .i64 0,.int .i64 0,.string ⟨#[]⟩,.slice none 0 0,.slice none 0 0,.slice none 0 0,.int .i64 0,.string ⟨#[]⟩] rfl rfl (E.out.get (j:=1) rfl) rfl rfl (by kernel_rfl) ?_))
  refine bodyPost_ret (v:= .agg ([.int .i64 2,.string X,.slice none 0 0,.slice none 0 0,.slice none 0 0,.slice none 0 0,.slice B Lv.1.length k,.slice none 0 0,.slice none 0 0,.slice none 0 0,.int .i64 0,.string ⟨#[]⟩,.string ⟨#[]⟩,.int .i64 0,.int .i64 0,.int .i64 0,.string ⟨#[]⟩,.slice none 0 0,.slice none 0 0,.slice none 0 0,.int .i64 0,.string ⟨#[]⟩]).toArray) (results_cell_row (p:=2) (ty:=40) rfl _ _ g0 40 _ _ _ (by rfl) ((E.out.row (j:=1) rfl [.int .i64 2,.string X,.slice none 0 0,.slice none 0 0,.slice none 0 0,.slice none 0 0,.slice B Lv.1.length k,.slice none 0 0,.slice none 0 0,.slice none 0 0,.int .i64 0,.string ⟨#[]⟩,.string ⟨#[]⟩,.int .i64 0,.int .i64 0,.int .i64 0,.string ⟨#[]⟩,.slice none 0 0,.slice none 0 0,.slice none 0 0,.int .i64 0,.string ⟨#[]⟩]).get (j:=1) rfl) Tryz.underlying40 rfl (by kernel_rfl)) rfl ?_
  have F:=E.out.row (j:=1) rfl [.int .i64 2,.string X,.slice none 0 0,.slice none 0 0,.slice none 0 0,.slice none 0 0,.slice B Lv.1.length k,.slice none 0 0,.slice none 0 0,.slice none 0 0,.int .i64 0,.string ⟨#[]⟩,.string ⟨#[]⟩,.int .i64 0,.int .i64 0,.int .i64 0,.string ⟨#[]⟩,.slice none 0 0,.slice none 0 0,.slice none 0 0,.int .i64 0,.string ⟨#[]⟩]
  exact⟨_,rfl,F.ps,F.chg,fj B none none Lv.1.length 0 0 k 0 0,rfl,F.keep.imp fun u h=>StW.of (lB (by unfold I64;omega) hX (Nat.zero_le _) (by omega) (Nat.zero_le _) h.2 cW (jR u)) rfl rfl⟩
 refine(atk0 E.out.ps hL hIN).mono ?_
 rintro _ w3 ⟨rfl,h1,h2⟩
 replace E:=hid (E.out.call h1 h2)
 clear h1 h2
 have hm2:=HM.out
 rw[if_neg (by rw[hIN];simp)]at hm2
 replace HM:=hid hm2
 clear hm2
 go_wp2_with fail
 cases hUP:isS dG s
 rotate_left
 ·refine(atk1 E.out.ps hL hUP).mono ?_
  rintro _ w4 ⟨rfl,h1,h2⟩
  replace E:=hid (E.out.call h1 h2)
  clear h1 h2
  have hln:=aP hUP
  have hX:=E.out.ps.tak_size hL 1
  go_wp2_with fail
  refine(kG E.out.ps hL).mono ?_
  rintro _ w5 ⟨rfl,h1,h2⟩
  replace E:=hid (E.out.call h1 h2)
  clear h1 h2
  have hl1:=fwd_tak 1 s.next
  generalize hXe:(takP 1 s.next).1=X at*
  generalize hs1:(takP 1 s.next).2=s1 at*
  go_upto_region 11 with (first|(refine wpList_buildTo rfl 40 _ rfl _ rfl #[.int .i64 3,.string X,.slice none 0 0,.slice none 0 0,.slice none 0 0,.slice none 0 0,.slice none 0 0,.slice none 0 0,.slice none 0 0,.slice none 0 0,.int .i64 0,.string ⟨#[]⟩,.string ⟨#[]⟩,.int .i64 0,.int .i64 0,.int .i64 0,.string ⟨#[]⟩,.slice none 0 0,.slice none 0 0,.slice none 0 0,.int .i64 0,.string ⟨#[]⟩] (by kernel_rfl) ?_)|(refine Great.wpList_allocTo rfl _ rfl (.pointer (some ⟨_,0,none⟩)) (.cells #[.int .i64 0,.string ⟨#[]⟩,.slice none 0 0,.slice none 0 0,.slice none 0 0,.slice none 0 0,.slice none 0 0,.slice none 0 0,.slice none 0 0,.slice none 0 0,.int .i64 0,.string ⟨#[]⟩,.string ⟨#[]⟩,.int .i64 0,.int .i64 0,.int .i64 0,.string ⟨#[]⟩,.slice none 0 0,.slice none 0 0,.slice none 0 0,.int .i64 0,.string ⟨#[]⟩] 40) (by kernel_rfl) ?_)|(refine stS' rfl rfl rfl [.int .i64 3,.string X,.slice none 0 0,.slice none 0 0,.slice none 0 0,.slice none 0 0,.slice none 0 0,.slice none 0 0,.slice none 0 0,.slice none 0 0,.int .i64 0,.string ⟨#[]⟩,.string ⟨#[]⟩,.int .i64 0,.int .i64 0,.int .i64 0,.string ⟨#[]⟩,.slice none 0 0,.slice none 0 0,.slice none 0 0,.int .i64 0,.string ⟨#[]⟩] rfl rfl (cs:= [.int .i64 0,.string ⟨#[]⟩,.slice none 0 0,.slice none 0 0,.slice none 0 0,.slice none 0 0,.slice none 0 0,.slice none 0 0,.slice none 0 0,.slice none 0 0,.int .i64 0,.string ⟨#[]⟩,.string ⟨#[]⟩,.int .i64 0,.int .i64 0,.int .i64 0,.string ⟨#[]⟩,.slice none 0 0,.slice none 0 0,.slice none 0 0,.int .i64 0,.string ⟨#[]⟩]) rfl rfl (by kernel_rfl) ?_))
  generalize hw:World.alloc _ _=w6
  replace E:=hid (jM (cs:= [.int .i64 3,.string X,.slice none 0 0,.slice none 0 0,.slice none 0 0,.slice none 0 0,.slice none 0 0,.slice none 0 0,.slice none 0 0,.slice none 0 0,.int .i64 0,.string ⟨#[]⟩,.string ⟨#[]⟩,.int .i64 0,.int .i64 0,.int .i64 0,.string ⟨#[]⟩,.slice none 0 0,.slice none 0 0,.slice none 0 0,.int .i64 0,.string ⟨#[]⟩]) E.out hw)
  obtain⟨g3,hg1⟩:∃g,w5.heap.size=g:=⟨_,rfl⟩
  rw[hg1]at E ⊢
  clear hw hg1
  have hnl2:=aO kSET s1
  go_wp2_with fail
  refine(pneed E.out.ps hL kSET).mono ?_
  rintro _ w7 ⟨v,rfl,h1,h2⟩
  replace E:=hid (E.out.call h1 h2)
  clear h1 h2
  go_wp2_with fail
  refine(hup.out hUP _ _ E.out.ps (by omega)).mono ?_
  rintro _ w8 ⟨_,rfl,h1,h2,hVl,hVf,B,k,rfl,h3⟩
  replace E:=hid (E.out.calls h1 h2 h3)
  clear h1 h2 h3
  generalize hlt:listP (asgP ex) (needP kSET s1)=Lv at*
  have z7:=(E.out.get (j:=0) rfl).cell_some (i:=7) rfl
  have y7:=(E.out.get (j:=0) rfl).frozen 7
  go_upto_region 13 with fail
  replace E:=hid (E.out.set (j:=0) rfl 7 (.slice B Lv.1.length k))
  simp only[List.set_cons_zero,List.set_cons_succ]at E
  clear z7 y7
  obtain⟨op4,ix4,vk4,vi4,tb4,nm4,vt4,ks4,s4,hm4,hc⟩:=ran_ex (mB hr (by omega) E.out.ps hL)
  go_wp2_with fail
  refine hc.mono ?_
  rintro _ w9 ⟨A4,k4,c4,rfl,h1,h2,h3⟩
  replace E:=hid (E.out.calls h1 h2 h3)
  clear h1 h2 h3 hc
  obtain⟨z0,z1,z2,z3,z4,z5,z6,z7,y0,y1,y2,y3,y4,y5,y6,y7⟩:=mid8 (E.out.get (j:=0) rfl)
  go_upto_region 14 with fail
  replace E:=hid (E.out.mid (j:=0) [.int .i64 3,.string X,.slice none 0 0,.slice none 0 0,.slice none 0 0,.slice none 0 0,.slice none 0 0,.slice B Lv.1.length k,.slice none 0 0,.slice none 0 0] [.int .i64 0,.string ⟨#[]⟩,.string ⟨#[]⟩,.int .i64 0,.int .i64 0,.int .i64 0,.string ⟨#[]⟩,.slice none 0 0] [.int .i64 op4,.string tb4,.string nm4,.int .i64 ix4,.int .i64 vk4,.int .i64 vi4,.string vt4,.slice A4 k4 c4] [.slice none 0 0,.slice none 0 0,.int .i64 0,.string ⟨#[]⟩] rfl rfl)
  simp only[sts,List.length_cons,List.length_nil,List.cons_append,List.nil_append,List.set_cons_zero,Nat.zero_add,Nat.reduceAdd]at E
  clear z0 z1 z2 z3 z4 z5 z6 z7 y0 y1 y2 y3 y4 y5 y6 y7
  obtain rfl:R=(lowS 3 X ⟨#[]⟩ ([]) (Lv.1) (.mk ⟨op4,tb4,nm4,ix4,vk4,vi4,vt4⟩ ks4),s4):=by rw[HM.out,if_pos hUP,hm4]
  go_wp2_with (first|(refine ldS rfl rfl _ rfl (E.out.get (j:=0) rfl) rfl ?_)|(refine stS rfl rfl rfl _ [.int .i64 3,.string X,.slice none 0 0,.slice none 0 0,.slice none 0 0,.slice none 0 0,.slice none 0 0,.slice B Lv.1.length k,.slice none 0 0,.slice none 0 0,.int .i64 op4,.string tb4,.string nm4,.int .i64 ix4,.int .i64 vk4,.int .i64 vi4,.string vt4,.slice A4 k4 c4,.slice none 0 0,.slice none 0 0,.int .i64 0,.string ⟨#[]⟩] rfl rfl (E.out.get (j:=1) rfl) rfl rfl (by kernel_rfl) ?_))
  refine bodyPost_ret (v:= .agg ([.int .i64 3,.string X,.slice none 0 0,.slice none 0 0,.slice none 0 0,.slice none 0 0,.slice none 0 0,.slice B Lv.1.length k,.slice none 0 0,.slice none 0 0,.int .i64 op4,.string tb4,.string nm4,.int .i64 ix4,.int .i64 vk4,.int .i64 vi4,.string vt4,.slice A4 k4 c4,.slice none 0 0,.slice none 0 0,.int .i64 0,.string ⟨#[]⟩]).toArray) (results_cell_row (p:=2) (ty:=40) rfl _ _ g0 40 _ _ _ (by rfl) ((E.out.row (j:=1) rfl [.int .i64 3,.string X,.slice none 0 0,.slice none 0 0,.slice none 0 0,.slice none 0 0,.slice none 0 0,.slice B Lv.1.length k,.slice none 0 0,.slice none 0 0,.int .i64 op4,.string tb4,.string nm4,.int .i64 ix4,.int .i64 vk4,.int .i64 vi4,.string vt4,.slice A4 k4 c4,.slice none 0 0,.slice none 0 0,.int .i64 0,.string ⟨#[]⟩]).get (j:=1) rfl) Tryz.underlying40 rfl (by kernel_rfl)) rfl ?_
  have F:=E.out.row (j:=1) rfl [.int .i64 3,.string X,.slice none 0 0,.slice none 0 0,.slice none 0 0,.slice none 0 0,.slice none 0 0,.slice B Lv.1.length k,.slice none 0 0,.slice none 0 0,.int .i64 op4,.string tb4,.string nm4,.int .i64 ix4,.int .i64 vk4,.int .i64 vi4,.string vt4,.slice A4 k4 c4,.slice none 0 0,.slice none 0 0,.int .i64 0,.string ⟨#[]⟩]
  exact⟨_,rfl,F.ps,F.chg,fj none B A4 0 Lv.1.length k4 0 k c4,rfl,F.keep.imp fun u h=>StW.of (lB (by unfold I64;omega) hX (Nat.zero_le _) (Nat.zero_le _) (by omega) cW h.1.2 h.2) rfl rfl⟩
 refine(atk0 E.out.ps hL hUP).mono ?_
 rintro _ w4 ⟨rfl,h1,h2⟩
 replace E:=hid (E.out.call h1 h2)
 clear h1 h2
 have hm2:=HM.out
 rw[if_neg (by rw[hUP];simp)]at hm2
 replace HM:=hid hm2
 clear hm2
 go_wp2_with fail
 cases hDE:isS kQ s
 rotate_left
 ·refine(atk1 E.out.ps hL hDE).mono ?_
  rintro _ w5 ⟨rfl,h1,h2⟩
  replace E:=hid (E.out.call h1 h2)
  clear h1 h2
  have hln:=aP hDE
  have hnl:=aO kFROM s.next
  go_wp2_with fail
  refine(pneed E.out.ps hL kFROM).mono ?_
  rintro _ w6 ⟨v,rfl,h1,h2⟩
  replace E:=hid (E.out.call h1 h2)
  clear h1 h2
  have hX:=E.out.ps.tak_size hL 1
  go_wp2_with fail
  refine(kG E.out.ps hL).mono ?_
  rintro _ w7 ⟨rfl,h1,h2⟩
  replace E:=hid (E.out.call h1 h2)
  clear h1 h2
  have hl1:=fwd_tak 1 (needP kFROM s.next)
  generalize hXe:(takP 1 (needP kFROM s.next)).1=X at*
  generalize hs1:(takP 1 (needP kFROM s.next)).2=s1 at*
  go_upto_region 18 with (first|(refine wpList_buildTo rfl 40 _ rfl _ rfl #[.int .i64 4,.string X,.slice none 0 0,.slice none 0 0,.slice none 0 0,.slice none 0 0,.slice none 0 0,.slice none 0 0,.slice none 0 0,.slice none 0 0,.int .i64 0,.string ⟨#[]⟩,.string ⟨#[]⟩,.int .i64 0,.int .i64 0,.int .i64 0,.string ⟨#[]⟩,.slice none 0 0,.slice none 0 0,.slice none 0 0,.int .i64 0,.string ⟨#[]⟩] (by kernel_rfl) ?_)|(refine Great.wpList_allocTo rfl _ rfl (.pointer (some ⟨_,0,none⟩)) (.cells #[.int .i64 0,.string ⟨#[]⟩,.slice none 0 0,.slice none 0 0,.slice none 0 0,.slice none 0 0,.slice none 0 0,.slice none 0 0,.slice none 0 0,.slice none 0 0,.int .i64 0,.string ⟨#[]⟩,.string ⟨#[]⟩,.int .i64 0,.int .i64 0,.int .i64 0,.string ⟨#[]⟩,.slice none 0 0,.slice none 0 0,.slice none 0 0,.int .i64 0,.string ⟨#[]⟩] 40) (by kernel_rfl) ?_)|(refine stS' rfl rfl rfl [.int .i64 4,.string X,.slice none 0 0,.slice none 0 0,.slice none 0 0,.slice none 0 0,.slice none 0 0,.slice none 0 0,.slice none 0 0,.slice none 0 0,.int .i64 0,.string ⟨#[]⟩,.string ⟨#[]⟩,.int .i64 0,.int .i64 0,.int .i64 0,.string ⟨#[]⟩,.slice none 0 0,.slice none 0 0,.slice none 0 0,.int .i64 0,.string ⟨#[]⟩] rfl rfl (cs:= [.int .i64 0,.string ⟨#[]⟩,.slice none 0 0,.slice none 0 0,.slice none 0 0,.slice none 0 0,.slice none 0 0,.slice none 0 0,.slice none 0 0,.slice none 0 0,.int .i64 0,.string ⟨#[]⟩,.string ⟨#[]⟩,.int .i64 0,.int .i64 0,.int .i64 0,.string ⟨#[]⟩,.slice none 0 0,.slice none 0 0,.slice none 0 0,.int .i64 0,.string ⟨#[]⟩]) rfl rfl (by kernel_rfl) ?_))
  generalize hw:World.alloc _ _=w8
  replace E:=hid (jM (cs:= [.int .i64 4,.string X,.slice none 0 0,.slice none 0 0,.slice none 0 0,.slice none 0 0,.slice none 0 0,.slice none 0 0,.slice none 0 0,.slice none 0 0,.int .i64 0,.string ⟨#[]⟩,.string ⟨#[]⟩,.int .i64 0,.int .i64 0,.int .i64 0,.string ⟨#[]⟩,.slice none 0 0,.slice none 0 0,.slice none 0 0,.int .i64 0,.string ⟨#[]⟩]) E.out hw)
  obtain⟨g3,hg1⟩:∃g,w7.heap.size=g:=⟨_,rfl⟩
  rw[hg1]at E ⊢
  clear hw hg1
  obtain⟨op4,ix4,vk4,vi4,tb4,nm4,vt4,ks4,s4,hm4,hc⟩:=ran_ex (mB hr (by omega) E.out.ps hL)
  go_wp2_with fail
  refine hc.mono ?_
  rintro _ w9 ⟨A4,k4,c4,rfl,h1,h2,h3⟩
  replace E:=hid (E.out.calls h1 h2 h3)
  clear h1 h2 h3 hc
  obtain⟨z0,z1,z2,z3,z4,z5,z6,z7,y0,y1,y2,y3,y4,y5,y6,y7⟩:=mid8 (E.out.get (j:=0) rfl)
  go_upto_region 19 with fail
  replace E:=hid (E.out.mid (j:=0) [.int .i64 4,.string X,.slice none 0 0,.slice none 0 0,.slice none 0 0,.slice none 0 0,.slice none 0 0,.slice none 0 0,.slice none 0 0,.slice none 0 0] [.int .i64 0,.string ⟨#[]⟩,.string ⟨#[]⟩,.int .i64 0,.int .i64 0,.int .i64 0,.string ⟨#[]⟩,.slice none 0 0] [.int .i64 op4,.string tb4,.string nm4,.int .i64 ix4,.int .i64 vk4,.int .i64 vi4,.string vt4,.slice A4 k4 c4] [.slice none 0 0,.slice none 0 0,.int .i64 0,.string ⟨#[]⟩] rfl rfl)
  simp only[sts,List.length_cons,List.length_nil,List.cons_append,List.nil_append,List.set_cons_zero,Nat.zero_add,Nat.reduceAdd]at E
  clear z0 z1 z2 z3 z4 z5 z6 z7 y0 y1 y2 y3 y4 y5 y6 y7
  obtain rfl:R=(lowS 4 X ⟨#[]⟩ ([]) ([]) (.mk ⟨op4,tb4,nm4,ix4,vk4,vi4,vt4⟩ ks4),s4):=by rw[HM.out,if_pos hDE,hm4]
  go_wp2_with (first|(refine ldS rfl rfl _ rfl (E.out.get (j:=0) rfl) rfl ?_)|(refine stS rfl rfl rfl _ [.int .i64 4,.string X,.slice none 0 0,.slice none 0 0,.slice none 0 0,.slice none 0 0,.slice none 0 0,.slice none 0 0,.slice none 0 0,.slice none 0 0,.int .i64 op4,.string tb4,.string nm4,.int .i64 ix4,.int .i64 vk4,.int .i64 vi4,.string vt4,.slice A4 k4 c4,.slice none 0 0,.slice none 0 0,.int .i64 0,.string ⟨#[]⟩] rfl rfl (E.out.get (j:=1) rfl) rfl rfl (by kernel_rfl) ?_))
  refine bodyPost_ret (v:= .agg ([.int .i64 4,.string X,.slice none 0 0,.slice none 0 0,.slice none 0 0,.slice none 0 0,.slice none 0 0,.slice none 0 0,.slice none 0 0,.slice none 0 0,.int .i64 op4,.string tb4,.string nm4,.int .i64 ix4,.int .i64 vk4,.int .i64 vi4,.string vt4,.slice A4 k4 c4,.slice none 0 0,.slice none 0 0,.int .i64 0,.string ⟨#[]⟩]).toArray) (results_cell_row (p:=2) (ty:=40) rfl _ _ g0 40 _ _ _ (by rfl) ((E.out.row (j:=1) rfl [.int .i64 4,.string X,.slice none 0 0,.slice none 0 0,.slice none 0 0,.slice none 0 0,.slice none 0 0,.slice none 0 0,.slice none 0 0,.slice none 0 0,.int .i64 op4,.string tb4,.string nm4,.int .i64 ix4,.int .i64 vk4,.int .i64 vi4,.string vt4,.slice A4 k4 c4,.slice none 0 0,.slice none 0 0,.int .i64 0,.string ⟨#[]⟩]).get (j:=1) rfl) Tryz.underlying40 rfl (by kernel_rfl)) rfl ?_
  have F:=E.out.row (j:=1) rfl [.int .i64 4,.string X,.slice none 0 0,.slice none 0 0,.slice none 0 0,.slice none 0 0,.slice none 0 0,.slice none 0 0,.slice none 0 0,.slice none 0 0,.int .i64 op4,.string tb4,.string nm4,.int .i64 ix4,.int .i64 vk4,.int .i64 vi4,.string vt4,.slice A4 k4 c4,.slice none 0 0,.slice none 0 0,.int .i64 0,.string ⟨#[]⟩]
  exact⟨_,rfl,F.ps,F.chg,fj none none A4 0 0 k4 0 0 c4,rfl,F.keep.imp fun u h=>StW.of (lB (by unfold I64;omega) hX (Nat.zero_le _) (Nat.zero_le _) (Nat.zero_le _) cW cW h.2) rfl rfl⟩
 refine(atk0 E.out.ps hL hDE).mono ?_
 rintro _ w5 ⟨rfl,h1,h2⟩
 replace E:=hid (E.out.call h1 h2)
 clear h1 h2
 have hm2:=HM.out
 rw[if_neg (by rw[hDE];simp)]at hm2
 replace HM:=hid hm2
 clear hm2
 go_wp2_with fail
 cases hSE:isS iE s
 rotate_left
 ·refine(atk1 E.out.ps hL hSE).mono ?_
  rintro _ w6 ⟨rfl,h1,h2⟩
  replace E:=hid (E.out.call h1 h2)
  clear h1 h2
  have hln:=aP hSE
  go_wp2_with fail
  refine(hqu.out hSE _ _ E.out.ps (by omega)).mono ?_
  rintro _ w7 ⟨_,rfl,h1,h2,a1,rfl,h3⟩
  replace E:=hid (E.out.calls h1 h2 h3)
  clear h1 h2 h3
  obtain⟨Y,hY⟩:∃x,queryP ex posP andL s.next=x:=⟨_,rfl⟩
  rw[hY]at E HM ⊢
  clear hY
  unfold St.val
  obtain rfl:Y=R:=by rw[HM.out,if_pos hSE]
  go_wp2_with (first|(refine stS rfl rfl rfl _ (St.cells Y.1 a1) rfl rfl (E.out.get (j:=0) rfl) rfl rfl (by kernel_rfl) ?_))
  refine bodyPost_ret (v:= .agg ((St.cells Y.1 a1)).toArray) (results_cell_row (p:=2) (ty:=40) rfl _ _ g0 40 _ _ _ (by rfl) ((E.out.row (j:=0) rfl (St.cells Y.1 a1)).get (j:=0) rfl) Tryz.underlying40 rfl (by kernel_rfl)) rfl ?_
  have F:=E.out.row (j:=0) rfl (St.cells Y.1 a1)
  exact⟨_,rfl,F.ps,F.chg,a1,rfl,F.keep.imp fun u h=>h.2⟩
 refine(atk0 E.out.ps hL hSE).mono ?_
 rintro _ w6 ⟨rfl,h1,h2⟩
 replace E:=hid (E.out.call h1 h2)
 clear h1 h2
 have hm2:=HM.out
 rw[if_neg (by rw[hSE];simp)]at hm2
 replace HM:=hid hm2
 clear hm2
 go_wp2_with fail
 cases hBE:isS kBEGIN s
 rotate_left
 ·refine(atk1 E.out.ps hL hBE).mono ?_
  rintro _ w7 ⟨rfl,h1,h2⟩
  replace E:=hid (E.out.call h1 h2)
  clear h1 h2
  obtain rfl:R=(lowS 6 ⟨#[]⟩ ⟨#[]⟩ ([]) ([]) (exZ),s.next):=by rw[HM.out,if_pos hBE]
  go_wp2_with (first|(refine wpList_buildTo rfl 40 _ rfl _ rfl #[.int .i64 6,.string ⟨#[]⟩,.slice none 0 0,.slice none 0 0,.slice none 0 0,.slice none 0 0,.slice none 0 0,.slice none 0 0,.slice none 0 0,.slice none 0 0,.int .i64 0,.string ⟨#[]⟩,.string ⟨#[]⟩,.int .i64 0,.int .i64 0,.int .i64 0,.string ⟨#[]⟩,.slice none 0 0,.slice none 0 0,.slice none 0 0,.int .i64 0,.string ⟨#[]⟩] (by kernel_rfl) ?_)|(refine stS rfl rfl rfl _ [.int .i64 6,.string ⟨#[]⟩,.slice none 0 0,.slice none 0 0,.slice none 0 0,.slice none 0 0,.slice none 0 0,.slice none 0 0,.slice none 0 0,.slice none 0 0,.int .i64 0,.string ⟨#[]⟩,.string ⟨#[]⟩,.int .i64 0,.int .i64 0,.int .i64 0,.string ⟨#[]⟩,.slice none 0 0,.slice none 0 0,.slice none 0 0,.int .i64 0,.string ⟨#[]⟩] rfl rfl (E.out.get (j:=0) rfl) rfl rfl (by kernel_rfl) ?_))
  refine bodyPost_ret (v:= .agg ([.int .i64 6,.string ⟨#[]⟩,.slice none 0 0,.slice none 0 0,.slice none 0 0,.slice none 0 0,.slice none 0 0,.slice none 0 0,.slice none 0 0,.slice none 0 0,.int .i64 0,.string ⟨#[]⟩,.string ⟨#[]⟩,.int .i64 0,.int .i64 0,.int .i64 0,.string ⟨#[]⟩,.slice none 0 0,.slice none 0 0,.slice none 0 0,.int .i64 0,.string ⟨#[]⟩]).toArray) (results_cell_row (p:=2) (ty:=40) rfl _ _ g0 40 _ _ _ (by rfl) ((E.out.row (j:=0) rfl [.int .i64 6,.string ⟨#[]⟩,.slice none 0 0,.slice none 0 0,.slice none 0 0,.slice none 0 0,.slice none 0 0,.slice none 0 0,.slice none 0 0,.slice none 0 0,.int .i64 0,.string ⟨#[]⟩,.string ⟨#[]⟩,.int .i64 0,.int .i64 0,.int .i64 0,.string ⟨#[]⟩,.slice none 0 0,.slice none 0 0,.slice none 0 0,.int .i64 0,.string ⟨#[]⟩]).get (j:=0) rfl) Tryz.underlying40 rfl (by kernel_rfl)) rfl ?_
  have F:=E.out.row (j:=0) rfl [.int .i64 6,.string ⟨#[]⟩,.slice none 0 0,.slice none 0 0,.slice none 0 0,.slice none 0 0,.slice none 0 0,.slice none 0 0,.slice none 0 0,.slice none 0 0,.int .i64 0,.string ⟨#[]⟩,.string ⟨#[]⟩,.int .i64 0,.int .i64 0,.int .i64 0,.string ⟨#[]⟩,.slice none 0 0,.slice none 0 0,.slice none 0 0,.int .i64 0,.string ⟨#[]⟩]
  exact⟨_,rfl,F.ps,F.chg,fj none none none 0 0 0 0 0 0,rfl,F.keep.imp fun u _=>StW.of (dM (by unfold I64;omega) (Nat.zero_le _) (Nat.zero_le _)) rfl rfl⟩
 refine(atk0 E.out.ps hL hBE).mono ?_
 rintro _ w7 ⟨rfl,h1,h2⟩
 replace E:=hid (E.out.call h1 h2)
 clear h1 h2
 have hm2:=HM.out
 rw[if_neg (by rw[hBE];simp)]at hm2
 replace HM:=hid hm2
 clear hm2
 go_wp2_with fail
 cases hCO:isS kR s
 rotate_left
 ·refine(atk1 E.out.ps hL hCO).mono ?_
  rintro _ w8 ⟨rfl,h1,h2⟩
  replace E:=hid (E.out.call h1 h2)
  clear h1 h2
  obtain rfl:R=(lowS 7 ⟨#[]⟩ ⟨#[]⟩ ([]) ([]) (exZ),s.next):=by rw[HM.out,if_pos hCO]
  go_wp2_with (first|(refine wpList_buildTo rfl 40 _ rfl _ rfl #[.int .i64 7,.string ⟨#[]⟩,.slice none 0 0,.slice none 0 0,.slice none 0 0,.slice none 0 0,.slice none 0 0,.slice none 0 0,.slice none 0 0,.slice none 0 0,.int .i64 0,.string ⟨#[]⟩,.string ⟨#[]⟩,.int .i64 0,.int .i64 0,.int .i64 0,.string ⟨#[]⟩,.slice none 0 0,.slice none 0 0,.slice none 0 0,.int .i64 0,.string ⟨#[]⟩] (by kernel_rfl) ?_)|(refine stS rfl rfl rfl _ [.int .i64 7,.string ⟨#[]⟩,.slice none 0 0,.slice none 0 0,.slice none 0 0,.slice none 0 0,.slice none 0 0,.slice none 0 0,.slice none 0 0,.slice none 0 0,.int .i64 0,.string ⟨#[]⟩,.string ⟨#[]⟩,.int .i64 0,.int .i64 0,.int .i64 0,.string ⟨#[]⟩,.slice none 0 0,.slice none 0 0,.slice none 0 0,.int .i64 0,.string ⟨#[]⟩] rfl rfl (E.out.get (j:=0) rfl) rfl rfl (by kernel_rfl) ?_))
  refine bodyPost_ret (v:= .agg ([.int .i64 7,.string ⟨#[]⟩,.slice none 0 0,.slice none 0 0,.slice none 0 0,.slice none 0 0,.slice none 0 0,.slice none 0 0,.slice none 0 0,.slice none 0 0,.int .i64 0,.string ⟨#[]⟩,.string ⟨#[]⟩,.int .i64 0,.int .i64 0,.int .i64 0,.string ⟨#[]⟩,.slice none 0 0,.slice none 0 0,.slice none 0 0,.int .i64 0,.string ⟨#[]⟩]).toArray) (results_cell_row (p:=2) (ty:=40) rfl _ _ g0 40 _ _ _ (by rfl) ((E.out.row (j:=0) rfl [.int .i64 7,.string ⟨#[]⟩,.slice none 0 0,.slice none 0 0,.slice none 0 0,.slice none 0 0,.slice none 0 0,.slice none 0 0,.slice none 0 0,.slice none 0 0,.int .i64 0,.string ⟨#[]⟩,.string ⟨#[]⟩,.int .i64 0,.int .i64 0,.int .i64 0,.string ⟨#[]⟩,.slice none 0 0,.slice none 0 0,.slice none 0 0,.int .i64 0,.string ⟨#[]⟩]).get (j:=0) rfl) Tryz.underlying40 rfl (by kernel_rfl)) rfl ?_
  have F:=E.out.row (j:=0) rfl [.int .i64 7,.string ⟨#[]⟩,.slice none 0 0,.slice none 0 0,.slice none 0 0,.slice none 0 0,.slice none 0 0,.slice none 0 0,.slice none 0 0,.slice none 0 0,.int .i64 0,.string ⟨#[]⟩,.string ⟨#[]⟩,.int .i64 0,.int .i64 0,.int .i64 0,.string ⟨#[]⟩,.slice none 0 0,.slice none 0 0,.slice none 0 0,.int .i64 0,.string ⟨#[]⟩]
  exact⟨_,rfl,F.ps,F.chg,fj none none none 0 0 0 0 0 0,rfl,F.keep.imp fun u _=>StW.of (dM (by unfold I64;omega) (Nat.zero_le _) (Nat.zero_le _)) rfl rfl⟩
 refine(atk0 E.out.ps hL hCO).mono ?_
 rintro _ w8 ⟨rfl,h1,h2⟩
 replace E:=hid (E.out.call h1 h2)
 clear h1 h2
 have hm2:=HM.out
 rw[if_neg (by rw[hCO];simp)]at hm2
 replace HM:=hid hm2
 clear hm2
 go_wp2_with fail
 cases hRO:isS gF s
 rotate_left
 ·refine(atk1 E.out.ps hL hRO).mono ?_
  rintro _ w9 ⟨rfl,h1,h2⟩
  replace E:=hid (E.out.call h1 h2)
  clear h1 h2
  have hm2:=HM.out
  rw[if_pos hRO]at hm2
  replace HM:=hid hm2
  clear hm2
  go_wp2_with fail
  cases hTO:isS kTO s.next
  rotate_left
  ·refine(atk1 E.out.ps hL hTO).mono ?_
   rintro _ w10 ⟨rfl,h1,h2⟩
   replace E:=hid (E.out.call h1 h2)
   clear h1 h2
   have hX:=E.out.ps.tak_size hL 1
   go_wp2_with fail
   refine(kG E.out.ps hL).mono ?_
   rintro _ w11 ⟨rfl,h1,h2⟩
   replace E:=hid (E.out.call h1 h2)
   clear h1 h2
   have hl1:=fwd_tak 1 s.next.next
   generalize hXe:(takP 1 s.next.next).1=X at*
   generalize hs1:(takP 1 s.next.next).2=s1 at*
   obtain rfl:R=(lowS 10 ⟨#[]⟩ X ([]) ([]) (exZ),s1):=by rw[HM.out,if_pos hTO]
   go_wp2_with (first|(refine wpList_buildTo rfl 40 _ rfl _ rfl #[.int .i64 10,.string ⟨#[]⟩,.slice none 0 0,.slice none 0 0,.slice none 0 0,.slice none 0 0,.slice none 0 0,.slice none 0 0,.slice none 0 0,.slice none 0 0,.int .i64 0,.string ⟨#[]⟩,.string ⟨#[]⟩,.int .i64 0,.int .i64 0,.int .i64 0,.string ⟨#[]⟩,.slice none 0 0,.slice none 0 0,.slice none 0 0,.int .i64 0,.string X] (by kernel_rfl) ?_)|(refine stS rfl rfl rfl _ [.int .i64 10,.string ⟨#[]⟩,.slice none 0 0,.slice none 0 0,.slice none 0 0,.slice none 0 0,.slice none 0 0,.slice none 0 0,.slice none 0 0,.slice none 0 0,.int .i64 0,.string ⟨#[]⟩,.string ⟨#[]⟩,.int .i64 0,.int .i64 0,.int .i64 0,.string ⟨#[]⟩,.slice none 0 0,.slice none 0 0,.slice none 0 0,.int .i64 0,.string X] rfl rfl (E.out.get (j:=0) rfl) rfl rfl (by kernel_rfl) ?_))
   refine bodyPost_ret (v:= .agg ([.int .i64 10,.string ⟨#[]⟩,.slice none 0 0,.slice none 0 0,.slice none 0 0,.slice none 0 0,.slice none 0 0,.slice none 0 0,.slice none 0 0,.slice none 0 0,.int .i64 0,.string ⟨#[]⟩,.string ⟨#[]⟩,.int .i64 0,.int .i64 0,.int .i64 0,.string ⟨#[]⟩,.slice none 0 0,.slice none 0 0,.slice none 0 0,.int .i64 0,.string X]).toArray) (results_cell_row (p:=2) (ty:=40) rfl _ _ g0 40 _ _ _ (by rfl) ((E.out.row (j:=0) rfl [.int .i64 10,.string ⟨#[]⟩,.slice none 0 0,.slice none 0 0,.slice none 0 0,.slice none 0 0,.slice none 0 0,.slice none 0 0,.slice none 0 0,.slice none 0 0,.int .i64 0,.string ⟨#[]⟩,.string ⟨#[]⟩,.int .i64 0,.int .i64 0,.int .i64 0,.string ⟨#[]⟩,.slice none 0 0,.slice none 0 0,.slice none 0 0,.int .i64 0,.string X]).get (j:=0) rfl) Tryz.underlying40 rfl (by kernel_rfl)) rfl ?_
   have F:=E.out.row (j:=0) rfl [.int .i64 10,.string ⟨#[]⟩,.slice none 0 0,.slice none 0 0,.slice none 0 0,.slice none 0 0,.slice none 0 0,.slice none 0 0,.slice none 0 0,.slice none 0 0,.int .i64 0,.string ⟨#[]⟩,.string ⟨#[]⟩,.int .i64 0,.int .i64 0,.int .i64 0,.string ⟨#[]⟩,.slice none 0 0,.slice none 0 0,.slice none 0 0,.int .i64 0,.string X]
   exact⟨_,rfl,F.ps,F.chg,fj none none none 0 0 0 0 0 0,rfl,F.keep.imp fun u _=>StW.of (dM (by unfold I64;omega) (Nat.zero_le _) hX) rfl rfl⟩
  refine(atk0 E.out.ps hL hTO).mono ?_
  rintro _ w10 ⟨rfl,h1,h2⟩
  replace E:=hid (E.out.call h1 h2)
  clear h1 h2
  have hm2:=HM.out
  rw[if_neg (by rw[hTO];simp)]at hm2
  replace HM:=hid hm2
  clear hm2
  obtain rfl:R=(lowS 8 ⟨#[]⟩ ⟨#[]⟩ ([]) ([]) (exZ),s.next):=by rw[HM.out]
  go_wp2_with (first|(refine wpList_buildTo rfl 40 _ rfl _ rfl #[.int .i64 8,.string ⟨#[]⟩,.slice none 0 0,.slice none 0 0,.slice none 0 0,.slice none 0 0,.slice none 0 0,.slice none 0 0,.slice none 0 0,.slice none 0 0,.int .i64 0,.string ⟨#[]⟩,.string ⟨#[]⟩,.int .i64 0,.int .i64 0,.int .i64 0,.string ⟨#[]⟩,.slice none 0 0,.slice none 0 0,.slice none 0 0,.int .i64 0,.string ⟨#[]⟩] (by kernel_rfl) ?_)|(refine stS rfl rfl rfl _ [.int .i64 8,.string ⟨#[]⟩,.slice none 0 0,.slice none 0 0,.slice none 0 0,.slice none 0 0,.slice none 0 0,.slice none 0 0,.slice none 0 0,.slice none 0 0,.int .i64 0,.string ⟨#[]⟩,.string ⟨#[]⟩,.int .i64 0,.int .i64 0,.int .i64 0,.string ⟨#[]⟩,.slice none 0 0,.slice none 0 0,.slice none 0 0,.int .i64 0,.string ⟨#[]⟩] rfl rfl (E.out.get (j:=0) rfl) rfl rfl (by kernel_rfl) ?_))
  refine bodyPost_ret (v:= .agg ([.int .i64 8,.string ⟨#[]⟩,.slice none 0 0,.slice none 0 0,.slice none 0 0,.slice none 0 0,.slice none 0 0,.slice none 0 0,.slice none 0 0,.slice none 0 0,.int .i64 0,.string ⟨#[]⟩,.string ⟨#[]⟩,.int .i64 0,.int .i64 0,.int .i64 0,.string ⟨#[]⟩,.slice none 0 0,.slice none 0 0,.slice none 0 0,.int .i64 0,.string ⟨#[]⟩]).toArray) (results_cell_row (p:=2) (ty:=40) rfl _ _ g0 40 _ _ _ (by rfl) ((E.out.row (j:=0) rfl [.int .i64 8,.string ⟨#[]⟩,.slice none 0 0,.slice none 0 0,.slice none 0 0,.slice none 0 0,.slice none 0 0,.slice none 0 0,.slice none 0 0,.slice none 0 0,.int .i64 0,.string ⟨#[]⟩,.string ⟨#[]⟩,.int .i64 0,.int .i64 0,.int .i64 0,.string ⟨#[]⟩,.slice none 0 0,.slice none 0 0,.slice none 0 0,.int .i64 0,.string ⟨#[]⟩]).get (j:=0) rfl) Tryz.underlying40 rfl (by kernel_rfl)) rfl ?_
  have F:=E.out.row (j:=0) rfl [.int .i64 8,.string ⟨#[]⟩,.slice none 0 0,.slice none 0 0,.slice none 0 0,.slice none 0 0,.slice none 0 0,.slice none 0 0,.slice none 0 0,.slice none 0 0,.int .i64 0,.string ⟨#[]⟩,.string ⟨#[]⟩,.int .i64 0,.int .i64 0,.int .i64 0,.string ⟨#[]⟩,.slice none 0 0,.slice none 0 0,.slice none 0 0,.int .i64 0,.string ⟨#[]⟩]
  exact⟨_,rfl,F.ps,F.chg,fj none none none 0 0 0 0 0 0,rfl,F.keep.imp fun u _=>StW.of (dM (by unfold I64;omega) (Nat.zero_le _) (Nat.zero_le _)) rfl rfl⟩
 refine(atk0 E.out.ps hL hRO).mono ?_
 rintro _ w9 ⟨rfl,h1,h2⟩
 replace E:=hid (E.out.call h1 h2)
 clear h1 h2
 have hm2:=HM.out
 rw[if_neg (by rw[hRO];simp)]at hm2
 replace HM:=hid hm2
 clear hm2
 go_wp2_with fail
 cases hSA:isS fx s
 rotate_left
 ·refine(atk1 E.out.ps hL hSA).mono ?_
  rintro _ w10 ⟨rfl,h1,h2⟩
  replace E:=hid (E.out.call h1 h2)
  clear h1 h2
  have hX:=E.out.ps.tak_size hL 1
  go_wp2_with fail
  refine(kG E.out.ps hL).mono ?_
  rintro _ w11 ⟨rfl,h1,h2⟩
  replace E:=hid (E.out.call h1 h2)
  clear h1 h2
  have hl1:=fwd_tak 1 s.next
  generalize hXe:(takP 1 s.next).1=X at*
  generalize hs1:(takP 1 s.next).2=s1 at*
  obtain rfl:R=(lowS 9 ⟨#[]⟩ X ([]) ([]) (exZ),s1):=by rw[HM.out,if_pos hSA]
  go_wp2_with (first|(refine wpList_buildTo rfl 40 _ rfl _ rfl #[.int .i64 9,.string ⟨#[]⟩,.slice none 0 0,.slice none 0 0,.slice none 0 0,.slice none 0 0,.slice none 0 0,.slice none 0 0,.slice none 0 0,.slice none 0 0,.int .i64 0,.string ⟨#[]⟩,.string ⟨#[]⟩,.int .i64 0,.int .i64 0,.int .i64 0,.string ⟨#[]⟩,.slice none 0 0,.slice none 0 0,.slice none 0 0,.int .i64 0,.string X] (by kernel_rfl) ?_)|(refine stS rfl rfl rfl _ [.int .i64 9,.string ⟨#[]⟩,.slice none 0 0,.slice none 0 0,.slice none 0 0,.slice none 0 0,.slice none 0 0,.slice none 0 0,.slice none 0 0,.slice none 0 0,.int .i64 0,.string ⟨#[]⟩,.string ⟨#[]⟩,.int .i64 0,.int .i64 0,.int .i64 0,.string ⟨#[]⟩,.slice none 0 0,.slice none 0 0,.slice none 0 0,.int .i64 0,.string X] rfl rfl (E.out.get (j:=0) rfl) rfl rfl (by kernel_rfl) ?_))
  refine bodyPost_ret (v:= .agg ([.int .i64 9,.string ⟨#[]⟩,.slice none 0 0,.slice none 0 0,.slice none 0 0,.slice none 0 0,.slice none 0 0,.slice none 0 0,.slice none 0 0,.slice none 0 0,.int .i64 0,.string ⟨#[]⟩,.string ⟨#[]⟩,.int .i64 0,.int .i64 0,.int .i64 0,.string ⟨#[]⟩,.slice none 0 0,.slice none 0 0,.slice none 0 0,.int .i64 0,.string X]).toArray) (results_cell_row (p:=2) (ty:=40) rfl _ _ g0 40 _ _ _ (by rfl) ((E.out.row (j:=0) rfl [.int .i64 9,.string ⟨#[]⟩,.slice none 0 0,.slice none 0 0,.slice none 0 0,.slice none 0 0,.slice none 0 0,.slice none 0 0,.slice none 0 0,.slice none 0 0,.int .i64 0,.string ⟨#[]⟩,.string ⟨#[]⟩,.int .i64 0,.int .i64 0,.int .i64 0,.string ⟨#[]⟩,.slice none 0 0,.slice none 0 0,.slice none 0 0,.int .i64 0,.string X]).get (j:=0) rfl) Tryz.underlying40 rfl (by kernel_rfl)) rfl ?_
  have F:=E.out.row (j:=0) rfl [.int .i64 9,.string ⟨#[]⟩,.slice none 0 0,.slice none 0 0,.slice none 0 0,.slice none 0 0,.slice none 0 0,.slice none 0 0,.slice none 0 0,.slice none 0 0,.int .i64 0,.string ⟨#[]⟩,.string ⟨#[]⟩,.int .i64 0,.int .i64 0,.int .i64 0,.string ⟨#[]⟩,.slice none 0 0,.slice none 0 0,.slice none 0 0,.int .i64 0,.string X]
  exact⟨_,rfl,F.ps,F.chg,fj none none none 0 0 0 0 0 0,rfl,F.keep.imp fun u _=>StW.of (dM (by unfold I64;omega) (Nat.zero_le _) hX) rfl rfl⟩
 refine(atk0 E.out.ps hL hSA).mono ?_
 rintro _ w10 ⟨rfl,h1,h2⟩
 replace E:=hid (E.out.call h1 h2)
 clear h1 h2
 have hm2:=HM.out
 rw[if_neg (by rw[hSA];simp)]at hm2
 replace HM:=hid hm2
 clear hm2
 go_wp2_with fail
 cases hRE:isS jc s
 rotate_left
 ·refine(atk1 E.out.ps hL hRE).mono ?_
  rintro _ w11 ⟨rfl,h1,h2⟩
  replace E:=hid (E.out.call h1 h2)
  clear h1 h2
  have hX:=E.out.ps.tak_size hL 1
  go_wp2_with fail
  refine(kG E.out.ps hL).mono ?_
  rintro _ w12 ⟨rfl,h1,h2⟩
  replace E:=hid (E.out.call h1 h2)
  clear h1 h2
  have hl1:=fwd_tak 1 s.next
  generalize hXe:(takP 1 s.next).1=X at*
  generalize hs1:(takP 1 s.next).2=s1 at*
  obtain rfl:R=(lowS 11 ⟨#[]⟩ X ([]) ([]) (exZ),s1):=by rw[HM.out,if_pos hRE]
  go_wp2_with (first|(refine wpList_buildTo rfl 40 _ rfl _ rfl #[.int .i64 11,.string ⟨#[]⟩,.slice none 0 0,.slice none 0 0,.slice none 0 0,.slice none 0 0,.slice none 0 0,.slice none 0 0,.slice none 0 0,.slice none 0 0,.int .i64 0,.string ⟨#[]⟩,.string ⟨#[]⟩,.int .i64 0,.int .i64 0,.int .i64 0,.string ⟨#[]⟩,.slice none 0 0,.slice none 0 0,.slice none 0 0,.int .i64 0,.string X] (by kernel_rfl) ?_)|(refine stS rfl rfl rfl _ [.int .i64 11,.string ⟨#[]⟩,.slice none 0 0,.slice none 0 0,.slice none 0 0,.slice none 0 0,.slice none 0 0,.slice none 0 0,.slice none 0 0,.slice none 0 0,.int .i64 0,.string ⟨#[]⟩,.string ⟨#[]⟩,.int .i64 0,.int .i64 0,.int .i64 0,.string ⟨#[]⟩,.slice none 0 0,.slice none 0 0,.slice none 0 0,.int .i64 0,.string X] rfl rfl (E.out.get (j:=0) rfl) rfl rfl (by kernel_rfl) ?_))
  refine bodyPost_ret (v:= .agg ([.int .i64 11,.string ⟨#[]⟩,.slice none 0 0,.slice none 0 0,.slice none 0 0,.slice none 0 0,.slice none 0 0,.slice none 0 0,.slice none 0 0,.slice none 0 0,.int .i64 0,.string ⟨#[]⟩,.string ⟨#[]⟩,.int .i64 0,.int .i64 0,.int .i64 0,.string ⟨#[]⟩,.slice none 0 0,.slice none 0 0,.slice none 0 0,.int .i64 0,.string X]).toArray) (results_cell_row (p:=2) (ty:=40) rfl _ _ g0 40 _ _ _ (by rfl) ((E.out.row (j:=0) rfl [.int .i64 11,.string ⟨#[]⟩,.slice none 0 0,.slice none 0 0,.slice none 0 0,.slice none 0 0,.slice none 0 0,.slice none 0 0,.slice none 0 0,.slice none 0 0,.int .i64 0,.string ⟨#[]⟩,.string ⟨#[]⟩,.int .i64 0,.int .i64 0,.int .i64 0,.string ⟨#[]⟩,.slice none 0 0,.slice none 0 0,.slice none 0 0,.int .i64 0,.string X]).get (j:=0) rfl) Tryz.underlying40 rfl (by kernel_rfl)) rfl ?_
  have F:=E.out.row (j:=0) rfl [.int .i64 11,.string ⟨#[]⟩,.slice none 0 0,.slice none 0 0,.slice none 0 0,.slice none 0 0,.slice none 0 0,.slice none 0 0,.slice none 0 0,.slice none 0 0,.int .i64 0,.string ⟨#[]⟩,.string ⟨#[]⟩,.int .i64 0,.int .i64 0,.int .i64 0,.string ⟨#[]⟩,.slice none 0 0,.slice none 0 0,.slice none 0 0,.int .i64 0,.string X]
  exact⟨_,rfl,F.ps,F.chg,fj none none none 0 0 0 0 0 0,rfl,F.keep.imp fun u _=>StW.of (dM (by unfold I64;omega) (Nat.zero_le _) hX) rfl rfl⟩
 refine(atk0 E.out.ps hL hRE).mono ?_
 rintro _ w11 ⟨rfl,h1,h2⟩
 replace E:=hid (E.out.call h1 h2)
 clear h1 h2
 have hm2:=HM.out
 rw[if_neg (by rw[hRE];simp)]at hm2
 replace HM:=hid hm2
 clear hm2
 have f2:=E.out.ps.blk.frozen 2
 have p2:=E.out.ps.blk.cell_some (i:=2) rfl
 replace E:=hid E.out.fail
 go_upto_region 35 with fail
 obtain rfl:R=(lowS 0 ⟨#[]⟩ ⟨#[]⟩ ([]) ([]) (exZ),s.fail):=by rw[HM.out]
 go_wp2_with (first|(refine wpList_buildTo rfl 40 _ rfl _ rfl #[.int .i64 0,.string ⟨#[]⟩,.slice none 0 0,.slice none 0 0,.slice none 0 0,.slice none 0 0,.slice none 0 0,.slice none 0 0,.slice none 0 0,.slice none 0 0,.int .i64 0,.string ⟨#[]⟩,.string ⟨#[]⟩,.int .i64 0,.int .i64 0,.int .i64 0,.string ⟨#[]⟩,.slice none 0 0,.slice none 0 0,.slice none 0 0,.int .i64 0,.string ⟨#[]⟩] (by kernel_rfl) ?_)|(refine stS rfl rfl rfl _ [.int .i64 0,.string ⟨#[]⟩,.slice none 0 0,.slice none 0 0,.slice none 0 0,.slice none 0 0,.slice none 0 0,.slice none 0 0,.slice none 0 0,.slice none 0 0,.int .i64 0,.string ⟨#[]⟩,.string ⟨#[]⟩,.int .i64 0,.int .i64 0,.int .i64 0,.string ⟨#[]⟩,.slice none 0 0,.slice none 0 0,.slice none 0 0,.int .i64 0,.string ⟨#[]⟩] rfl rfl (E.out.get (j:=0) rfl) rfl rfl (by kernel_rfl) ?_))
 refine bodyPost_ret (v:= .agg ([.int .i64 0,.string ⟨#[]⟩,.slice none 0 0,.slice none 0 0,.slice none 0 0,.slice none 0 0,.slice none 0 0,.slice none 0 0,.slice none 0 0,.slice none 0 0,.int .i64 0,.string ⟨#[]⟩,.string ⟨#[]⟩,.int .i64 0,.int .i64 0,.int .i64 0,.string ⟨#[]⟩,.slice none 0 0,.slice none 0 0,.slice none 0 0,.int .i64 0,.string ⟨#[]⟩]).toArray) (results_cell_row (p:=2) (ty:=40) rfl _ _ g0 40 _ _ _ (by rfl) ((E.out.row (j:=0) rfl [.int .i64 0,.string ⟨#[]⟩,.slice none 0 0,.slice none 0 0,.slice none 0 0,.slice none 0 0,.slice none 0 0,.slice none 0 0,.slice none 0 0,.slice none 0 0,.int .i64 0,.string ⟨#[]⟩,.string ⟨#[]⟩,.int .i64 0,.int .i64 0,.int .i64 0,.string ⟨#[]⟩,.slice none 0 0,.slice none 0 0,.slice none 0 0,.int .i64 0,.string ⟨#[]⟩]).get (j:=0) rfl) Tryz.underlying40 rfl (by kernel_rfl)) rfl ?_
 have F:=E.out.row (j:=0) rfl [.int .i64 0,.string ⟨#[]⟩,.slice none 0 0,.slice none 0 0,.slice none 0 0,.slice none 0 0,.slice none 0 0,.slice none 0 0,.slice none 0 0,.slice none 0 0,.int .i64 0,.string ⟨#[]⟩,.string ⟨#[]⟩,.int .i64 0,.int .i64 0,.int .i64 0,.string ⟨#[]⟩,.slice none 0 0,.slice none 0 0,.slice none 0 0,.int .i64 0,.string ⟨#[]⟩]
 exact⟨_,rfl,F.ps,F.chg,fj none none none 0 0 0 0 0 0,rfl,F.keep.imp fun u _=>StW.of (dM (by unfold I64;omega) (Nat.zero_le _) (Nat.zero_le _)) rfl rfl⟩
end
end
end Go.Proofs.YtjigcpfjhfoheaaGreatDoor
