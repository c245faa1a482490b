/- Statements: how they lie in memory, whole structs loaded and stored; a parser's steps with known answers; Walk: a statement; Walks: Statement and Expression, over what they call. -/
import Derived.Test.YtjigcpfjhfoheaaGreatDoorEbh
import Derived.Test.YtjigcpfjhfoheaaGreatDoorEcf
import Derived.Great.Walk
import Derived.Test.YtjigcpfjhfoheaaGreatDoorEbi
import Derived.Test.YtjigcpfjhfoheaaGreatDoorEaf
import Derived.StillTactics
namespace Go.Proofs.YtjigcpfjhfoheaaGreatDoor
open Go.RowKit
set_option maxHeartbeats 4000000
set_option maxRecDepth 100000
set_option linter.unusedVariables false
set_option linter.unusedSimpArgs false
section
open Lx (Tk)
section
variable {ops:Array Oper} {rest:List Oper} {o:Oper} {a:Act} {w:World} {Q:Exit→Act→World→Prop}
theorem ldS {x:Operand} (hgd:o.guard=none) (ho:o.op= .load 40 x) (g:Nat) (hx:a.eval x= .pointer (some ⟨g,0,none⟩)) {cs:List Value} (hg:Blk w g 40 cs) (hl:cs.length=22) (h:wpList Tryz.prog ops Q rest (a.put o.dst (.agg cs.toArray)) w):wpList Tryz.prog ops Q (o::rest) a w:=
 wpList_load_blk hgd 40 x ho g hx 40 cs _ hg Tryz.underlying40 rfl (by rw[hl];kernel_rfl) h
theorem stS {x y:Operand} (hgd:o.guard=none) (ho:o.op= .store 40 x y) (hd:o.dst=none) (g:Nat) (ds:List Value) (hx:a.eval x= .pointer (some ⟨g,0,none⟩)) (hy:a.eval y= .agg ds.toArray) {cs:List Value} (hg:Blk w g 40 cs) (hl:cs.length=22) (hm:ds.length=22) (h1:ds.toArray.all (·.oneCell')=true)
  (h:wpList Tryz.prog ops Q rest a (w.setRow g ds.toArray)):wpList Tryz.prog ops Q (o::rest) a w:=
 wpList_store_rowTo hgd 40 x y ho hd g ds.toArray hx hy 40 cs.toArray hg (by rw[List.size_toArray,hm];kernel_rfl) (by rw[List.size_toArray,List.size_toArray,hl,hm]) h1 h
theorem stS' {x y:Operand} (hgd:o.guard=none) (ho:o.op= .store 40 x y) (hd:o.dst=none) (ds:List Value) (hx:a.eval x= .pointer (some ⟨w.heap.size,0,none⟩)) (hy:a.eval y= .agg ds.toArray) {cs:List Value} (hl:cs.length=22) (hm:ds.length=22) (h1:ds.toArray.all (·.oneCell')=true)
  (h:wpList Tryz.prog ops Q rest a (w.alloc (.cells ds.toArray 40))):wpList Tryz.prog ops Q (o::rest) a (w.alloc (.cells cs.toArray 40)):=
 wpList_store_rowTo hgd 40 x y ho hd w.heap.size ds.toArray hx hy 40 cs.toArray (heap_alloc_new w _) (by rw[List.size_toArray,hm];kernel_rfl) (by rw[List.size_toArray,List.size_toArray,hl,hm]) h1 (by rw[World.setRow_alloc_new];exact h)
end
section
variable {T P c:Nat} {A:Option Addr} {L:List Tk} {w0 wi w w':World} {s:Ps} {V:List Vb} {Φ:World→Prop}
theorem En.mid (h:En T P A c L w0 wi w s V Φ) {j g t:Nat} (pre old vs post:List Value) (hj:V[j]? =some (g,t,pre++old++post)) (hl:old.length=vs.length):En T P A c L w0 wi (sts w g pre.length vs) s (V.set j (g,t,pre++vs++post)) Φ:=
 h.put hj (sts_grown g vs w pre.length) (blk_mid (h.get hj) hl)
theorem mid8 {w:World} {g t:Nat} {u0 u1 u2 u3 u4 u5 u6 u7 u8 u9 v0 v1 v2 v3 v4 v5 v6 v7:Value} {l:List Value} (h:Blk w g t ([u0,u1,u2,u3,u4,u5,u6,u7,u8,u9,v0,v1,v2,v3,v4,v5,v6,v7]++l)):w.cell? ⟨g,10,none⟩=some v0∧w.cell? ⟨g,11,none⟩=some v1∧w.cell? ⟨g,12,none⟩=some v2∧w.cell? ⟨g,13,none⟩=some v3∧w.cell? ⟨g,14,none⟩=some v4∧w.cell? ⟨g,15,none⟩=some v5∧w.cell? ⟨g,16,none⟩=some v6∧w.cell? ⟨g,17,none⟩=some v7∧
  w.frozen? ⟨g,10,none⟩=false∧w.frozen? ⟨g,11,none⟩=false∧w.frozen? ⟨g,12,none⟩=false∧w.frozen? ⟨g,13,none⟩=false∧w.frozen? ⟨g,14,none⟩=false∧w.frozen? ⟨g,15,none⟩=false∧w.frozen? ⟨g,16,none⟩=false∧w.frozen? ⟨g,17,none⟩=false:=
 ⟨h.cell_some rfl,h.cell_some rfl,h.cell_some rfl,h.cell_some rfl,h.cell_some rfl,h.cell_some rfl,h.cell_some rfl,h.cell_some rfl,h.frozen 10,h.frozen 11,h.frozen 12,h.frozen 13,h.frozen 14,h.frozen 15,h.frozen 16,h.frozen 17⟩
end
theorem lst_rows {w:World} {B:Option Addr} {l:List (List Ex)} (h:Lst Phirow 1 w B l):RowsAt w B l:=fun i a hi=>by
 obtain⟨cs,_,⟨b,off,hB,hc⟩,B2,k,hcs,hz,hv⟩:=h i a hi
 subst hcs
 exact⟨b,off,B2,a.length,k,hB,by simpa using hc 0 _ rfl,rfl,hv⟩
theorem lst_asgs {w:World} {B:Option Addr} {l:List Asg} (h:Lst Phiasg 10 w B l):AsgsAt w B l:=fun i a hi=>by
 obtain⟨cs,_,⟨b,off,hB,hc⟩,B2,k,c2,hcs,hz,hv⟩:=h i a hi
 subst hcs
 refine⟨hz,b,off,B2,k,c2,hB,by simpa using hc 0 _ rfl,hc 1 _ rfl,⟨?_,?_,?_,?_,?_,?_,?_,?_,hv⟩⟩
 ·exact hc 2 _ rfl
 ·exact hc 3 _ rfl
 ·exact hc 4 _ rfl
 ·exact hc 5 _ rfl
 ·exact hc 6 _ rfl
 ·exact hc 7 _ rfl
 ·exact hc 8 _ rfl
 ·exact hc 9 _ rfl
def lowS (k:Int) (X N:ByteArray) (V:List (List Ex)) (S:List Asg) (e:Ex):St:= { stZ with kd:=k,tb:=X,vals:=V,sets:=S,whr:=e,nm:=N }
def lowA (B C D:Option Addr) (k n m c d f:Nat):SA:=⟨⟨none,0,0⟩,⟨none,0,0⟩,⟨none,0,0⟩,⟨none,0,0⟩,⟨B,k,c⟩,⟨C,n,d⟩,⟨none,0,0⟩,⟨none,0,0⟩,⟨D,m,f⟩,⟨none,0,0⟩,⟨none,0,0⟩⟩
theorem low_st {w:World} {k:Int} {X N:ByteArray} {V:List (List Ex)} {S:List Asg} {e:Ex} {B C D:Option Addr} {m c d f:Nat} (hk:I64 k) (hX:X.size≤20000) (hN:N.size≤20000) (hV:V.length≤20001) (hS:S.length≤20001)
  (h1:Lst Phirow 1 w B V) (h2:Lst Phiasg 10 w C S) (h3:ExV w e D m f):StV w (lowS k X N V S e) (lowA B C D V.length S.length m c d f):=by
 have e0:∀A:Option Addr,KidsAt w A []:=fun A=>by unfold KidsAt;exact trivial
 refine⟨hk,by show X.size≤_;omega,i64_0,by show N.size≤_;omega,⟨rfl,by show 0≤_;omega,fun i x h=>by cases h⟩,⟨rfl,by show 0≤_;omega,fun i x h=>by cases h⟩,⟨rfl,by show 0≤_;omega,fun i x h=>by cases h⟩,⟨rfl,by show 0≤_;omega,e0 _⟩,
  ⟨rfl,by show V.length≤_;omega,lst_rows h1⟩,?_,⟨rfl,by show S.length≤_;omega,lst_asgs h2⟩,⟨rfl,by show 0≤_;omega,fun i x h=>by cases h⟩,⟨rfl,by show 0≤_;omega,fun i x h=>by cases h⟩,h3,⟨rfl,by show 0≤_;omega,e0 _⟩,⟨rfl,by show 0≤_;omega,fun i x h=>by cases h⟩⟩
 intro l hl
 obtain⟨i,hi⟩:=List.getElem?_of_mem hl
 obtain⟨cs,_,_,B2,k2,_,hz,_⟩:=h1 i l hi
 exact hz
theorem lst_nil {α:Type} {Φ:α→List Value→World→Prop} {n:Nat} {w:World} {B:Option Addr} :Lst Φ n w B []:=fun i a h=>by cases h
theorem low0_st {w:World} {k:Int} {X N:ByteArray} (hk:I64 k) (hX:X.size≤20000) (hN:N.size≤20000):StV w (lowS k X N [] [] exZ) (lowA none none none 0 0 0 0 0 0):=low_st hk hX hN (by simp) (by simp) lst_nil lst_nil (exZ_at w)
section
variable {P c:Nat} {A:Option Addr} {L:List Tk} {w0 w:World} {s:Ps}
theorem atk1 (hp:PsAt 68 P A c L w0 w s) (hL:TkL L) {t:ByteArray} (hb:isS t s=true):
  Calls Tryz.prog 53 #[.pointer (some ⟨P,0,none⟩),.string t] w fun e w'=>e= .returned (.bool true)∧PsAt 68 P A c L w0 w' s.next∧Chg P w w':=
 (accept_any hp hL t).mono fun e w' ⟨v,h1,h2,h3,h4⟩=>⟨by rw[h1,h4,hb],by rw[accP,hb]at h2;exact h2,h3⟩
theorem atk0 (hp:PsAt 68 P A c L w0 w s) (hL:TkL L) {t:ByteArray} (hb:isS t s=false):
  Calls Tryz.prog 53 #[.pointer (some ⟨P,0,none⟩),.string t] w fun e w'=>e= .returned (.bool false)∧PsAt 68 P A c L w0 w' s∧Chg P w w':=
 (accept_any hp hL t).mono fun e w' ⟨v,h1,h2,h3,h4⟩=>⟨by rw[h1,h4,hb],by rw[accP,hb]at h2;exact h2,h3⟩
theorem pneed (hp:PsAt 68 P A c L w0 w s) (hL:TkL L) (t:ByteArray):
  Calls Tryz.prog 44 #[.pointer (some ⟨P,0,none⟩),.slice (some ⟨w.heap.size,0,none⟩) 1 1] (w.alloc (.cells #[.string t] 9)) fun e w'=> ∃v,e= .returned v∧PsAt 68 P A c L w0 w' (needP t s)∧Chg P w w':=
 (need_any (hp.ext ((Ext.refl w).alloc _)) hL t w.heap.size (by simp[World.cell?_alloc_new])).mono fun e w' ⟨v,h1,h2,h3,_⟩=>⟨v,h1,h2,(Chg.of ((Ext.refl w).alloc _)).trans h3⟩
theorem pname (hp:PsAt 68 P A c L w0 w s) (hL:TkL L):
  Calls Tryz.prog 55 #[.pointer (some ⟨P,0,none⟩)] w fun e w'=>e= .returned (.string (takP 1 s).1)∧PsAt 68 P A c L w0 w' (takP 1 s).2∧Chg P w w':=
 (name_tok hp hL).mono fun e w' ⟨v,h1,h2,h3,h4⟩=>⟨by rw[h1,h4],h2,h3⟩
end
theorem ran_ex {T P c:Nat} {A:Option Addr} {L:List Tk} {w0 w:World} {F:Nat} {x:Array Value} {R:Ex×Ps} (h:Calls Tryz.prog F x w (Ran T P A c L w0 w R.2 fun v w'=>ExG w.heap.size w' R.1 v)):
  ∃(op ix vk vi:Int) (tb nm vt:ByteArray) (ks:List Ex) (s1:Ps),R=(.mk ⟨op,tb,nm,ix,vk,vi,vt⟩ ks,s1)∧Calls Tryz.prog F x w fun e w'=> ∃A1 k1 c1,e= .returned (.agg #[.int .i64 op,.string tb,.string nm,.int .i64 ix,.int .i64 vk,.int .i64 vi,.string vt,.slice A1 k1 c1])∧PsAt T P A c L w0 w' s1∧Chg P w w'∧
   Stb (w.heap.size≤·) w' (fun u=>ExV u (.mk ⟨op,tb,nm,ix,vk,vi,vt⟩ ks) A1 k1 c1):=by
 obtain⟨⟨⟨op,tb,nm,ix,vk,vi,vt⟩,ks⟩,s1⟩:=R
 exact⟨op,ix,vk,vi,tb,nm,vt,ks,s1,rfl,h.mono fun e w' ⟨v,h1,h2,h3,A1,k1,c1,h4,h5⟩=>⟨A1,k1,c1,by rw[h1,h4];rfl,h2,h3,h5⟩⟩
end
section
open Lx (Tk)
section
variable {P c:Nat} {A:Option Addr} {L:List Tk} {w0 w:World} {s:Ps}
theorem statement_rd {n:Nat} {ex:M Ex} (hr:Rdr 68 P A c L w0 n 39 ex) (hn:s.r.length<n) (hp:PsAt 68 P A c L w0 w s) (hL:TkL L)
  (hcr:isS kCREATE s=true→∀W st,PsAt 68 P A c L w0 W st→st.r.length<n→Calls Tryz.prog 54 #[.pointer (some ⟨P,0,none⟩)] W (Ran 68 P A c L w0 W (createP ex st).2 fun v w'=>ElSt W.heap.size w' (createP ex st).1 v))
  (hqu:isS kSELECT s=true→∀W st,PsAt 68 P A c L w0 W st→st.r.length<n→Calls Tryz.prog 61 #[.pointer (some ⟨P,0,none⟩)] W (Ran 68 P A c L w0 W (queryP ex posP andL st).2 fun v w'=>ElSt W.heap.size w' (queryP ex posP andL st).1 v))
  (hin:isS kINSERT s=true→∀W st,PsAt 68 P A c L w0 W st→st.r.length<n→Calls Tryz.prog 56 #[.pointer (some ⟨P,0,none⟩),.func (Fn.func 57) #[.pointer (some ⟨P,0,none⟩)] #[]] W (Ran 68 P A c L w0 W (listP (tupP ex) st).2 fun v w'=> (listP (tupP ex) st).1.length≤st.r.length+1∧∃B k,v= .slice B (listP (tupP ex) st).1.length k∧Stb (W.heap.size≤·) w' (fun w2=>Lst Phirow 1 w2 B (listP (tupP ex) st).1)))
  (hup:isS kUPDATE s=true→∀W st,PsAt 68 P A c L w0 W st→st.r.length<n→Calls Tryz.prog 58 #[.pointer (some ⟨P,0,none⟩),.func (Fn.func 59) #[.pointer (some ⟨P,0,none⟩)] #[]] W (Ran 68 P A c L w0 W (listP (asgP ex) st).2 fun v w'=> (listP (asgP ex) st).1.length≤st.r.length+1∧(listP (asgP ex) st).2.r.length≤st.r.length∧∃B k,v= .slice B (listP (asgP ex) st).1.length k∧Stb (W.heap.size≤·) w' (fun w2=>Lst Phiasg 10 w2 B (listP (asgP ex) st).1))):
  Calls Tryz.prog 29 #[.pointer (some ⟨P,0,none⟩)] w (Ran 68 P A c L w0 w (stmtP ex posP andL lastP s).2 fun v w'=>ElSt w.heap.size w' (stmtP ex posP andL lastP s).1 v):=by
 have HM:Hid (stmtP ex posP andL lastP s=if isS kCREATE s=true then createP ex s.next else if isS kINSERT s=true then
   (lowS 2 (takP 1 (needP kINTO s.next)).1 ⟨#[]⟩ (listP (tupP ex) (needP kVALUES (takP 1 (needP kINTO s.next)).2)).1 [] exZ,(listP (tupP ex) (needP kVALUES (takP 1 (needP kINTO s.next)).2)).2)
  else if isS kUPDATE s=true then (lowS 3 (takP 1 s.next).1 ⟨#[]⟩ [] (listP (asgP ex) (needP kSET (takP 1 s.next).2)).1 (whrP ex (listP (asgP ex) (needP kSET (takP 1 s.next).2)).2).1,(whrP ex (listP (asgP ex) (needP kSET (takP 1 s.next).2)).2).2)
  else if isS kDELETE s=true then (lowS 4 (takP 1 (needP kFROM s.next)).1 ⟨#[]⟩ [] [] (whrP ex (takP 1 (needP kFROM s.next)).2).1,(whrP ex (takP 1 (needP kFROM s.next)).2).2)
  else if isS kSELECT s=true then queryP ex posP andL s.next
  else if isS kBEGIN s=true then (lowS 6 ⟨#[]⟩ ⟨#[]⟩ [] [] exZ,s.next)
  else if isS kCOMMIT s=true then (lowS 7 ⟨#[]⟩ ⟨#[]⟩ [] [] exZ,s.next)
  else if isS kROLLBACK s=true then (if isS kTO s.next=true then (lowS 10 ⟨#[]⟩ (takP 1 s.next.next).1 [] [] exZ,(takP 1 s.next.next).2)else (lowS 8 ⟨#[]⟩ ⟨#[]⟩ [] [] exZ,s.next))
  else if isS kSAVEPOINT s=true then (lowS 9 ⟨#[]⟩ (takP 1 s.next).1 [] [] exZ,(takP 1 s.next).2)
  else if isS kRELEASE s=true then (lowS 11 ⟨#[]⟩ (takP 1 s.next).1 [] [] exZ,(takP 1 s.next).2)else (lowS 0 ⟨#[]⟩ ⟨#[]⟩ [] [] exZ,s.fail)):=rfl
 obtain⟨R,hR⟩:∃R,stmtP ex posP andL lastP s=R:=⟨_,rfl⟩
 rw[hR]at HM ⊢
 clear hR
 have hle:=hp.le
 have hLl:=hL.len
 replace hcr:=hid hcr
 replace hqu:=hid hqu
 replace hin:=hid hin
 replace hup:=hid hup
 go_enter Tryz.func29,Tryz.ntmps29
 go_upto_region 1 with fail
 generalize hw:World.alloc _ _=w1
 have E:=hid (en_of (cs:=sC) hp hw)
 obtain⟨g0,hg0⟩:∃g,w.heap.size=g:=⟨_,rfl⟩
 rw[hg0]at E ⊢
 clear hw hp hg0
 go_wp2_with fail
 cases hCR:isS kCREATE s
 rotate_left
 ·refine(atk1 E.out.ps hL hCR).mono ?_
  rintro _ w2 ⟨rfl,h1,h2⟩
  replace E:=hid (E.out.call h1 h2)
  clear h1 h2
  have hln:=isS_len hCR
  go_wp2_with fail
  refine(hcr.out hCR _ _ E.out.ps (by omega)).mono ?_
  rintro _ w3 ⟨_,rfl,h1,h2,a1,rfl,h3⟩
  replace E:=hid (E.out.calls h1 h2 h3)
  clear h1 h2 h3
  obtain⟨Y,hY⟩:∃x,createP ex s.next=x:=⟨_,rfl⟩
  rw[hY]at E HM ⊢
  clear hY
  unfold St.val
  obtain rfl:Y=R:=by rw[HM.out,if_pos hCR]
  go_wp2_with (first|(refine stS rfl rfl rfl _ (St.cells Y.1 a1) rfl rfl (E.out.get (j:=0) rfl) rfl rfl (by kernel_rfl) ?_))
  refine bodyPost_ret (v:= .agg ((St.cells Y.1 a1)).toArray) (results_cell_row (p:=2) (ty:=40) rfl _ _ g0 40 _ _ _ (by rfl) ((E.out.row (j:=0) rfl (St.cells Y.1 a1)).get (j:=0) rfl) Tryz.underlying40 rfl (by kernel_rfl)) rfl ?_
  have F:=E.out.row (j:=0) rfl (St.cells Y.1 a1)
  exact⟨_,rfl,F.ps,F.chg,a1,rfl,F.keep.imp fun u h=>h.2⟩
 refine(atk0 E.out.ps hL hCR).mono ?_
 rintro _ w2 ⟨rfl,h1,h2⟩
 replace E:=hid (E.out.call h1 h2)
 clear h1 h2
 have hm2:=HM.out
 rw[if_neg (by rw[hCR];simp)]at hm2
 replace HM:=hid hm2
 clear hm2
 go_wp2_with fail
 cases hIN:isS kINSERT s
 rotate_left
 ·refine(atk1 E.out.ps hL hIN).mono ?_
  rintro _ w3 ⟨rfl,h1,h2⟩
  replace E:=hid (E.out.call h1 h2)
  clear h1 h2
  have hln:=isS_len hIN
  have hnl:=need_len kINTO s.next
  go_wp2_with fail
  refine(pneed E.out.ps hL kINTO).mono ?_
  rintro _ w4 ⟨v,rfl,h1,h2⟩
  replace E:=hid (E.out.call h1 h2)
  clear h1 h2
  have hX:=E.out.ps.tak_size hL 1
  go_wp2_with fail
  refine(pname E.out.ps hL).mono ?_
  rintro _ w5 ⟨rfl,h1,h2⟩
  replace E:=hid (E.out.call h1 h2)
  clear h1 h2
  have hl1:=fwd_tak 1 (needP kINTO s.next)
  generalize hXe:(takP 1 (needP kINTO s.next)).1=X at*
  generalize hs1:(takP 1 (needP kINTO s.next)).2=s1 at*
  go_upto_region 6 with (first|(refine wpList_buildTo rfl 40 _ rfl _ rfl #[.int .i64 2,.string X,.slice none 0 0,.slice none 0 0,.slice none 0 0,.slice none 0 0,.slice none 0 0,.slice none 0 0,.slice none 0 0,.slice none 0 0,.int .i64 0,.string ⟨#[]⟩,.string ⟨#[]⟩,.int .i64 0,.int .i64 0,.int .i64 0,.string ⟨#[]⟩,.slice none 0 0,.slice none 0 0,.slice none 0 0,.int .i64 0,.string ⟨#[]⟩] (by kernel_rfl) ?_)|(refine Great.wpList_allocTo rfl _ rfl (.pointer (some ⟨_,0,none⟩)) (.cells #[.int .i64 0,.string ⟨#[]⟩,.slice none 0 0,.slice none 0 0,.slice none 0 0,.slice none 0 0,.slice none 0 0,.slice none 0 0,.slice none 0 0,.slice none 0 0,.int .i64 0,.string ⟨#[]⟩,.string ⟨#[]⟩,.int .i64 0,.int .i64 0,.int .i64 0,.string ⟨#[]⟩,.slice none 0 0,.slice none 0 0,.slice none 0 0,.int .i64 0,.string ⟨#[]⟩] 40) (by kernel_rfl) ?_)|(refine stS' rfl rfl rfl (sC (k:=2) (t:=X)) rfl rfl (cs:=sC) rfl rfl (by kernel_rfl) ?_))
  generalize hw:World.alloc _ _=w6
  replace E:=hid (en_alloc (cs:=(sC (k:=2) (t:=X))) E.out hw)
  obtain⟨g3,hg1⟩:∃g,w5.heap.size=g:=⟨_,rfl⟩
  rw[hg1]at E ⊢
  clear hw hg1
  have hnl2:=need_len kVALUES s1
  go_wp2_with fail
  refine(pneed E.out.ps hL kVALUES).mono ?_
  rintro _ w7 ⟨v,rfl,h1,h2⟩
  replace E:=hid (E.out.call h1 h2)
  clear h1 h2
  go_wp2_with fail
  refine(hin.out hIN _ _ E.out.ps (by omega)).mono ?_
  rintro _ w8 ⟨_,rfl,h1,h2,hVl,B,k,rfl,h3⟩
  replace E:=hid (E.out.calls h1 h2 h3)
  clear h1 h2 h3
  generalize hlt:listP (tupP ex) (needP kVALUES s1)=Lv at*
  have z6:=(E.out.get (j:=0) rfl).cell_some (i:=6) rfl
  have y6:=(E.out.get (j:=0) rfl).frozen 6
  go_upto_region 8 with fail
  replace E:=hid (E.out.set (j:=0) rfl 6 (.slice B Lv.1.length k))
  simp only[List.set_cons_zero,List.set_cons_succ]at E
  clear z6 y6
  obtain rfl:R=(lowS 2 X ⟨#[]⟩ (Lv.1) ([]) (exZ),Lv.2):=by rw[HM.out,if_pos hIN]
  go_wp2_with (first|(refine ldS rfl rfl _ rfl (E.out.get (j:=0) rfl) rfl ?_)|(refine stS rfl rfl rfl _ (sC (k:=2) (t:=X) (v:= .slice B Lv.1.length k)) rfl rfl (E.out.get (j:=1) rfl) rfl rfl (by kernel_rfl) ?_))
  refine bodyPost_ret (v:= .agg ((sC (k:=2) (t:=X) (v:= .slice B Lv.1.length k))).toArray) (results_cell_row (p:=2) (ty:=40) rfl _ _ g0 40 _ _ _ (by rfl) ((E.out.row (j:=1) rfl (sC (k:=2) (t:=X) (v:= .slice B Lv.1.length k))).get (j:=1) rfl) Tryz.underlying40 rfl (by kernel_rfl)) rfl ?_
  have F:=E.out.row (j:=1) rfl (sC (k:=2) (t:=X) (v:= .slice B Lv.1.length k))
  exact⟨_,rfl,F.ps,F.chg,lowA B none none Lv.1.length 0 0 k 0 0,rfl,F.keep.imp fun u h=>StW.of (low_st (by unfold I64;omega) hX (Nat.zero_le _) (by omega) (Nat.zero_le _) h.2 lst_nil (exZ_at u)) rfl rfl⟩
 refine(atk0 E.out.ps hL hIN).mono ?_
 rintro _ w3 ⟨rfl,h1,h2⟩
 replace E:=hid (E.out.call h1 h2)
 clear h1 h2
 have hm2:=HM.out
 rw[if_neg (by rw[hIN];simp)]at hm2
 replace HM:=hid hm2
 clear hm2
 go_wp2_with fail
 cases hUP:isS kUPDATE s
 rotate_left
 ·refine(atk1 E.out.ps hL hUP).mono ?_
  rintro _ w4 ⟨rfl,h1,h2⟩
  replace E:=hid (E.out.call h1 h2)
  clear h1 h2
  have hln:=isS_len hUP
  have hX:=E.out.ps.tak_size hL 1
  go_wp2_with fail
  refine(pname E.out.ps hL).mono ?_
  rintro _ w5 ⟨rfl,h1,h2⟩
  replace E:=hid (E.out.call h1 h2)
  clear h1 h2
  have hl1:=fwd_tak 1 s.next
  generalize hXe:(takP 1 s.next).1=X at*
  generalize hs1:(takP 1 s.next).2=s1 at*
  go_upto_region 11 with (first|(refine wpList_buildTo rfl 40 _ rfl _ rfl #[.int .i64 3,.string X,.slice none 0 0,.slice none 0 0,.slice none 0 0,.slice none 0 0,.slice none 0 0,.slice none 0 0,.slice none 0 0,.slice none 0 0,.int .i64 0,.string ⟨#[]⟩,.string ⟨#[]⟩,.int .i64 0,.int .i64 0,.int .i64 0,.string ⟨#[]⟩,.slice none 0 0,.slice none 0 0,.slice none 0 0,.int .i64 0,.string ⟨#[]⟩] (by kernel_rfl) ?_)|(refine Great.wpList_allocTo rfl _ rfl (.pointer (some ⟨_,0,none⟩)) (.cells #[.int .i64 0,.string ⟨#[]⟩,.slice none 0 0,.slice none 0 0,.slice none 0 0,.slice none 0 0,.slice none 0 0,.slice none 0 0,.slice none 0 0,.slice none 0 0,.int .i64 0,.string ⟨#[]⟩,.string ⟨#[]⟩,.int .i64 0,.int .i64 0,.int .i64 0,.string ⟨#[]⟩,.slice none 0 0,.slice none 0 0,.slice none 0 0,.int .i64 0,.string ⟨#[]⟩] 40) (by kernel_rfl) ?_)|(refine stS' rfl rfl rfl (sC (k:=3) (t:=X)) rfl rfl (cs:=sC) rfl rfl (by kernel_rfl) ?_))
  generalize hw:World.alloc _ _=w6
  replace E:=hid (en_alloc (cs:=(sC (k:=3) (t:=X))) E.out hw)
  obtain⟨g3,hg1⟩:∃g,w5.heap.size=g:=⟨_,rfl⟩
  rw[hg1]at E ⊢
  clear hw hg1
  have hnl2:=need_len kSET s1
  go_wp2_with fail
  refine(pneed E.out.ps hL kSET).mono ?_
  rintro _ w7 ⟨v,rfl,h1,h2⟩
  replace E:=hid (E.out.call h1 h2)
  clear h1 h2
  go_wp2_with fail
  refine(hup.out hUP _ _ E.out.ps (by omega)).mono ?_
  rintro _ w8 ⟨_,rfl,h1,h2,hVl,hVf,B,k,rfl,h3⟩
  replace E:=hid (E.out.calls h1 h2 h3)
  clear h1 h2 h3
  generalize hlt:listP (asgP ex) (needP kSET s1)=Lv at*
  have z7:=(E.out.get (j:=0) rfl).cell_some (i:=7) rfl
  have y7:=(E.out.get (j:=0) rfl).frozen 7
  go_upto_region 13 with fail
  replace E:=hid (E.out.set (j:=0) rfl 7 (.slice B Lv.1.length k))
  simp only[List.set_cons_zero,List.set_cons_succ]at E
  clear z7 y7
  obtain⟨op4,ix4,vk4,vi4,tb4,nm4,vt4,ks4,s4,hm4,hc⟩:=ran_ex (where_rd hr (by omega) E.out.ps hL)
  go_wp2_with fail
  refine hc.mono ?_
  rintro _ w9 ⟨A4,k4,c4,rfl,h1,h2,h3⟩
  replace E:=hid (E.out.calls h1 h2 h3)
  clear h1 h2 h3 hc
  obtain⟨z0,z1,z2,z3,z4,z5,z6,z7,y0,y1,y2,y3,y4,y5,y6,y7⟩:=mid8 (E.out.get (j:=0) rfl)
  go_upto_region 14 with fail
  replace E:=hid (E.out.mid (j:=0) [.int .i64 3,.string X,.slice none 0 0,.slice none 0 0,.slice none 0 0,.slice none 0 0,.slice none 0 0,.slice B Lv.1.length k,.slice none 0 0,.slice none 0 0] eZ (eC op4 tb4 nm4 ix4 vk4 vi4 vt4 A4 k4 c4) [.slice none 0 0,.slice none 0 0,.int .i64 0,.string ⟨#[]⟩] rfl rfl)
  simp only[sts,List.length_cons,List.length_nil,List.cons_append,List.nil_append,List.set_cons_zero,Nat.zero_add,Nat.reduceAdd]at E
  clear z0 z1 z2 z3 z4 z5 z6 z7 y0 y1 y2 y3 y4 y5 y6 y7
  obtain rfl:R=(lowS 3 X ⟨#[]⟩ ([]) (Lv.1) (.mk ⟨op4,tb4,nm4,ix4,vk4,vi4,vt4⟩ ks4),s4):=by rw[HM.out,if_pos hUP,hm4]
  go_wp2_with (first|(refine ldS rfl rfl _ rfl (E.out.get (j:=0) rfl) rfl ?_)|(refine stS rfl rfl rfl _ (sC (k:=3) (t:=X) (s:= .slice B Lv.1.length k) (o:=op4) (q:=tb4) (m:=nm4) (x:=ix4) (y:=vk4) (z:=vi4) (u:=vt4) (e:= .slice A4 k4 c4)) rfl rfl (E.out.get (j:=1) rfl) rfl rfl (by kernel_rfl) ?_))
  refine bodyPost_ret (v:= .agg ((sC (k:=3) (t:=X) (s:= .slice B Lv.1.length k) (o:=op4) (q:=tb4) (m:=nm4) (x:=ix4) (y:=vk4) (z:=vi4) (u:=vt4) (e:= .slice A4 k4 c4))).toArray) (results_cell_row (p:=2) (ty:=40) rfl _ _ g0 40 _ _ _ (by rfl) ((E.out.row (j:=1) rfl (sC (k:=3) (t:=X) (s:= .slice B Lv.1.length k) (o:=op4) (q:=tb4) (m:=nm4) (x:=ix4) (y:=vk4) (z:=vi4) (u:=vt4) (e:= .slice A4 k4 c4))).get (j:=1) rfl) Tryz.underlying40 rfl (by kernel_rfl)) rfl ?_
  have F:=E.out.row (j:=1) rfl (sC (k:=3) (t:=X) (s:= .slice B Lv.1.length k) (o:=op4) (q:=tb4) (m:=nm4) (x:=ix4) (y:=vk4) (z:=vi4) (u:=vt4) (e:= .slice A4 k4 c4))
  exact⟨_,rfl,F.ps,F.chg,lowA none B A4 0 Lv.1.length k4 0 k c4,rfl,F.keep.imp fun u h=>StW.of (low_st (by unfold I64;omega) hX (Nat.zero_le _) (Nat.zero_le _) (by omega) lst_nil h.1.2 h.2) rfl rfl⟩
 refine(atk0 E.out.ps hL hUP).mono ?_
 rintro _ w4 ⟨rfl,h1,h2⟩
 replace E:=hid (E.out.call h1 h2)
 clear h1 h2
 have hm2:=HM.out
 rw[if_neg (by rw[hUP];simp)]at hm2
 replace HM:=hid hm2
 clear hm2
 go_wp2_with fail
 cases hDE:isS kDELETE s
 rotate_left
 ·refine(atk1 E.out.ps hL hDE).mono ?_
  rintro _ w5 ⟨rfl,h1,h2⟩
  replace E:=hid (E.out.call h1 h2)
  clear h1 h2
  have hln:=isS_len hDE
  have hnl:=need_len kFROM s.next
  go_wp2_with fail
  refine(pneed E.out.ps hL kFROM).mono ?_
  rintro _ w6 ⟨v,rfl,h1,h2⟩
  replace E:=hid (E.out.call h1 h2)
  clear h1 h2
  have hX:=E.out.ps.tak_size hL 1
  go_wp2_with fail
  refine(pname E.out.ps hL).mono ?_
  rintro _ w7 ⟨rfl,h1,h2⟩
  replace E:=hid (E.out.call h1 h2)
  clear h1 h2
  have hl1:=fwd_tak 1 (needP kFROM s.next)
  generalize hXe:(takP 1 (needP kFROM s.next)).1=X at*
  generalize hs1:(takP 1 (needP kFROM s.next)).2=s1 at*
  go_upto_region 18 with (first|(refine wpList_buildTo rfl 40 _ rfl _ rfl #[.int .i64 4,.string X,.slice none 0 0,.slice none 0 0,.slice none 0 0,.slice none 0 0,.slice none 0 0,.slice none 0 0,.slice none 0 0,.slice none 0 0,.int .i64 0,.string ⟨#[]⟩,.string ⟨#[]⟩,.int .i64 0,.int .i64 0,.int .i64 0,.string ⟨#[]⟩,.slice none 0 0,.slice none 0 0,.slice none 0 0,.int .i64 0,.string ⟨#[]⟩] (by kernel_rfl) ?_)|(refine Great.wpList_allocTo rfl _ rfl (.pointer (some ⟨_,0,none⟩)) (.cells #[.int .i64 0,.string ⟨#[]⟩,.slice none 0 0,.slice none 0 0,.slice none 0 0,.slice none 0 0,.slice none 0 0,.slice none 0 0,.slice none 0 0,.slice none 0 0,.int .i64 0,.string ⟨#[]⟩,.string ⟨#[]⟩,.int .i64 0,.int .i64 0,.int .i64 0,.string ⟨#[]⟩,.slice none 0 0,.slice none 0 0,.slice none 0 0,.int .i64 0,.string ⟨#[]⟩] 40) (by kernel_rfl) ?_)|(refine stS' rfl rfl rfl (sC (k:=4) (t:=X)) rfl rfl (cs:=sC) rfl rfl (by kernel_rfl) ?_))
  generalize hw:World.alloc _ _=w8
  replace E:=hid (en_alloc (cs:=(sC (k:=4) (t:=X))) E.out hw)
  obtain⟨g3,hg1⟩:∃g,w7.heap.size=g:=⟨_,rfl⟩
  rw[hg1]at E ⊢
  clear hw hg1
  obtain⟨op4,ix4,vk4,vi4,tb4,nm4,vt4,ks4,s4,hm4,hc⟩:=ran_ex (where_rd hr (by omega) E.out.ps hL)
  go_wp2_with fail
  refine hc.mono ?_
  rintro _ w9 ⟨A4,k4,c4,rfl,h1,h2,h3⟩
  replace E:=hid (E.out.calls h1 h2 h3)
  clear h1 h2 h3 hc
  obtain⟨z0,z1,z2,z3,z4,z5,z6,z7,y0,y1,y2,y3,y4,y5,y6,y7⟩:=mid8 (E.out.get (j:=0) rfl)
  go_upto_region 19 with fail
  replace E:=hid (E.out.mid (j:=0) [.int .i64 4,.string X,.slice none 0 0,.slice none 0 0,.slice none 0 0,.slice none 0 0,.slice none 0 0,.slice none 0 0,.slice none 0 0,.slice none 0 0] eZ (eC op4 tb4 nm4 ix4 vk4 vi4 vt4 A4 k4 c4) [.slice none 0 0,.slice none 0 0,.int .i64 0,.string ⟨#[]⟩] rfl rfl)
  simp only[sts,List.length_cons,List.length_nil,List.cons_append,List.nil_append,List.set_cons_zero,Nat.zero_add,Nat.reduceAdd]at E
  clear z0 z1 z2 z3 z4 z5 z6 z7 y0 y1 y2 y3 y4 y5 y6 y7
  obtain rfl:R=(lowS 4 X ⟨#[]⟩ ([]) ([]) (.mk ⟨op4,tb4,nm4,ix4,vk4,vi4,vt4⟩ ks4),s4):=by rw[HM.out,if_pos hDE,hm4]
  go_wp2_with (first|(refine ldS rfl rfl _ rfl (E.out.get (j:=0) rfl) rfl ?_)|(refine stS rfl rfl rfl _ (sC (k:=4) (t:=X) (o:=op4) (q:=tb4) (m:=nm4) (x:=ix4) (y:=vk4) (z:=vi4) (u:=vt4) (e:= .slice A4 k4 c4)) rfl rfl (E.out.get (j:=1) rfl) rfl rfl (by kernel_rfl) ?_))
  refine bodyPost_ret (v:= .agg ((sC (k:=4) (t:=X) (o:=op4) (q:=tb4) (m:=nm4) (x:=ix4) (y:=vk4) (z:=vi4) (u:=vt4) (e:= .slice A4 k4 c4))).toArray) (results_cell_row (p:=2) (ty:=40) rfl _ _ g0 40 _ _ _ (by rfl) ((E.out.row (j:=1) rfl (sC (k:=4) (t:=X) (o:=op4) (q:=tb4) (m:=nm4) (x:=ix4) (y:=vk4) (z:=vi4) (u:=vt4) (e:= .slice A4 k4 c4))).get (j:=1) rfl) Tryz.underlying40 rfl (by kernel_rfl)) rfl ?_
  have F:=E.out.row (j:=1) rfl (sC (k:=4) (t:=X) (o:=op4) (q:=tb4) (m:=nm4) (x:=ix4) (y:=vk4) (z:=vi4) (u:=vt4) (e:= .slice A4 k4 c4))
  exact⟨_,rfl,F.ps,F.chg,lowA none none A4 0 0 k4 0 0 c4,rfl,F.keep.imp fun u h=>StW.of (low_st (by unfold I64;omega) hX (Nat.zero_le _) (Nat.zero_le _) (Nat.zero_le _) lst_nil lst_nil h.2) rfl rfl⟩
 refine(atk0 E.out.ps hL hDE).mono ?_
 rintro _ w5 ⟨rfl,h1,h2⟩
 replace E:=hid (E.out.call h1 h2)
 clear h1 h2
 have hm2:=HM.out
 rw[if_neg (by rw[hDE];simp)]at hm2
 replace HM:=hid hm2
 clear hm2
 go_wp2_with fail
 cases hSE:isS kSELECT s
 rotate_left
 ·refine(atk1 E.out.ps hL hSE).mono ?_
  rintro _ w6 ⟨rfl,h1,h2⟩
  replace E:=hid (E.out.call h1 h2)
  clear h1 h2
  have hln:=isS_len hSE
  go_wp2_with fail
  refine(hqu.out hSE _ _ E.out.ps (by omega)).mono ?_
  rintro _ w7 ⟨_,rfl,h1,h2,a1,rfl,h3⟩
  replace E:=hid (E.out.calls h1 h2 h3)
  clear h1 h2 h3
  obtain⟨Y,hY⟩:∃x,queryP ex posP andL s.next=x:=⟨_,rfl⟩
  rw[hY]at E HM ⊢
  clear hY
  unfold St.val
  obtain rfl:Y=R:=by rw[HM.out,if_pos hSE]
  go_wp2_with (first|(refine stS rfl rfl rfl _ (St.cells Y.1 a1) rfl rfl (E.out.get (j:=0) rfl) rfl rfl (by kernel_rfl) ?_))
  refine bodyPost_ret (v:= .agg ((St.cells Y.1 a1)).toArray) (results_cell_row (p:=2) (ty:=40) rfl _ _ g0 40 _ _ _ (by rfl) ((E.out.row (j:=0) rfl (St.cells Y.1 a1)).get (j:=0) rfl) Tryz.underlying40 rfl (by kernel_rfl)) rfl ?_
  have F:=E.out.row (j:=0) rfl (St.cells Y.1 a1)
  exact⟨_,rfl,F.ps,F.chg,a1,rfl,F.keep.imp fun u h=>h.2⟩
 refine(atk0 E.out.ps hL hSE).mono ?_
 rintro _ w6 ⟨rfl,h1,h2⟩
 replace E:=hid (E.out.call h1 h2)
 clear h1 h2
 have hm2:=HM.out
 rw[if_neg (by rw[hSE];simp)]at hm2
 replace HM:=hid hm2
 clear hm2
 go_wp2_with fail
 cases hBE:isS kBEGIN s
 rotate_left
 ·refine(atk1 E.out.ps hL hBE).mono ?_
  rintro _ w7 ⟨rfl,h1,h2⟩
  replace E:=hid (E.out.call h1 h2)
  clear h1 h2
  obtain rfl:R=(lowS 6 ⟨#[]⟩ ⟨#[]⟩ ([]) ([]) (exZ),s.next):=by rw[HM.out,if_pos hBE]
  go_wp2_with (first|(refine wpList_buildTo rfl 40 _ rfl _ rfl #[.int .i64 6,.string ⟨#[]⟩,.slice none 0 0,.slice none 0 0,.slice none 0 0,.slice none 0 0,.slice none 0 0,.slice none 0 0,.slice none 0 0,.slice none 0 0,.int .i64 0,.string ⟨#[]⟩,.string ⟨#[]⟩,.int .i64 0,.int .i64 0,.int .i64 0,.string ⟨#[]⟩,.slice none 0 0,.slice none 0 0,.slice none 0 0,.int .i64 0,.string ⟨#[]⟩] (by kernel_rfl) ?_)|(refine stS rfl rfl rfl _ (sC (k:=6)) rfl rfl (E.out.get (j:=0) rfl) rfl rfl (by kernel_rfl) ?_))
  refine bodyPost_ret (v:= .agg ((sC (k:=6))).toArray) (results_cell_row (p:=2) (ty:=40) rfl _ _ g0 40 _ _ _ (by rfl) ((E.out.row (j:=0) rfl (sC (k:=6))).get (j:=0) rfl) Tryz.underlying40 rfl (by kernel_rfl)) rfl ?_
  have F:=E.out.row (j:=0) rfl (sC (k:=6))
  exact⟨_,rfl,F.ps,F.chg,lowA none none none 0 0 0 0 0 0,rfl,F.keep.imp fun u _=>StW.of (low0_st (by unfold I64;omega) (Nat.zero_le _) (Nat.zero_le _)) rfl rfl⟩
 refine(atk0 E.out.ps hL hBE).mono ?_
 rintro _ w7 ⟨rfl,h1,h2⟩
 replace E:=hid (E.out.call h1 h2)
 clear h1 h2
 have hm2:=HM.out
 rw[if_neg (by rw[hBE];simp)]at hm2
 replace HM:=hid hm2
 clear hm2
 go_wp2_with fail
 cases hCO:isS kCOMMIT s
 rotate_left
 ·refine(atk1 E.out.ps hL hCO).mono ?_
  rintro _ w8 ⟨rfl,h1,h2⟩
  replace E:=hid (E.out.call h1 h2)
  clear h1 h2
  obtain rfl:R=(lowS 7 ⟨#[]⟩ ⟨#[]⟩ ([]) ([]) (exZ),s.next):=by rw[HM.out,if_pos hCO]
  go_wp2_with (first|(refine wpList_buildTo rfl 40 _ rfl _ rfl #[.int .i64 7,.string ⟨#[]⟩,.slice none 0 0,.slice none 0 0,.slice none 0 0,.slice none 0 0,.slice none 0 0,.slice none 0 0,.slice none 0 0,.slice none 0 0,.int .i64 0,.string ⟨#[]⟩,.string ⟨#[]⟩,.int .i64 0,.int .i64 0,.int .i64 0,.string ⟨#[]⟩,.slice none 0 0,.slice none 0 0,.slice none 0 0,.int .i64 0,.string ⟨#[]⟩] (by kernel_rfl) ?_)|(refine stS rfl rfl rfl _ (sC (k:=7)) rfl rfl (E.out.get (j:=0) rfl) rfl rfl (by kernel_rfl) ?_))
  refine bodyPost_ret (v:= .agg ((sC (k:=7))).toArray) (results_cell_row (p:=2) (ty:=40) rfl _ _ g0 40 _ _ _ (by rfl) ((E.out.row (j:=0) rfl (sC (k:=7))).get (j:=0) rfl) Tryz.underlying40 rfl (by kernel_rfl)) rfl ?_
  have F:=E.out.row (j:=0) rfl (sC (k:=7))
  exact⟨_,rfl,F.ps,F.chg,lowA none none none 0 0 0 0 0 0,rfl,F.keep.imp fun u _=>StW.of (low0_st (by unfold I64;omega) (Nat.zero_le _) (Nat.zero_le _)) rfl rfl⟩
 refine(atk0 E.out.ps hL hCO).mono ?_
 rintro _ w8 ⟨rfl,h1,h2⟩
 replace E:=hid (E.out.call h1 h2)
 clear h1 h2
 have hm2:=HM.out
 rw[if_neg (by rw[hCO];simp)]at hm2
 replace HM:=hid hm2
 clear hm2
 go_wp2_with fail
 cases hRO:isS kROLLBACK s
 rotate_left
 ·refine(atk1 E.out.ps hL hRO).mono ?_
  rintro _ w9 ⟨rfl,h1,h2⟩
  replace E:=hid (E.out.call h1 h2)
  clear h1 h2
  have hm2:=HM.out
  rw[if_pos hRO]at hm2
  replace HM:=hid hm2
  clear hm2
  go_wp2_with fail
  cases hTO:isS kTO s.next
  rotate_left
  ·refine(atk1 E.out.ps hL hTO).mono ?_
   rintro _ w10 ⟨rfl,h1,h2⟩
   replace E:=hid (E.out.call h1 h2)
   clear h1 h2
   have hX:=E.out.ps.tak_size hL 1
   go_wp2_with fail
   refine(pname E.out.ps hL).mono ?_
   rintro _ w11 ⟨rfl,h1,h2⟩
   replace E:=hid (E.out.call h1 h2)
   clear h1 h2
   have hl1:=fwd_tak 1 s.next.next
   generalize hXe:(takP 1 s.next.next).1=X at*
   generalize hs1:(takP 1 s.next.next).2=s1 at*
   obtain rfl:R=(lowS 10 ⟨#[]⟩ X ([]) ([]) (exZ),s1):=by rw[HM.out,if_pos hTO]
   go_wp2_with (first|(refine wpList_buildTo rfl 40 _ rfl _ rfl #[.int .i64 10,.string ⟨#[]⟩,.slice none 0 0,.slice none 0 0,.slice none 0 0,.slice none 0 0,.slice none 0 0,.slice none 0 0,.slice none 0 0,.slice none 0 0,.int .i64 0,.string ⟨#[]⟩,.string ⟨#[]⟩,.int .i64 0,.int .i64 0,.int .i64 0,.string ⟨#[]⟩,.slice none 0 0,.slice none 0 0,.slice none 0 0,.int .i64 0,.string X] (by kernel_rfl) ?_)|(refine stS rfl rfl rfl _ (sC (k:=10) (n:=X)) rfl rfl (E.out.get (j:=0) rfl) rfl rfl (by kernel_rfl) ?_))
   refine bodyPost_ret (v:= .agg ((sC (k:=10) (n:=X))).toArray) (results_cell_row (p:=2) (ty:=40) rfl _ _ g0 40 _ _ _ (by rfl) ((E.out.row (j:=0) rfl (sC (k:=10) (n:=X))).get (j:=0) rfl) Tryz.underlying40 rfl (by kernel_rfl)) rfl ?_
   have F:=E.out.row (j:=0) rfl (sC (k:=10) (n:=X))
   exact⟨_,rfl,F.ps,F.chg,lowA none none none 0 0 0 0 0 0,rfl,F.keep.imp fun u _=>StW.of (low0_st (by unfold I64;omega) (Nat.zero_le _) hX) rfl rfl⟩
  refine(atk0 E.out.ps hL hTO).mono ?_
  rintro _ w10 ⟨rfl,h1,h2⟩
  replace E:=hid (E.out.call h1 h2)
  clear h1 h2
  have hm2:=HM.out
  rw[if_neg (by rw[hTO];simp)]at hm2
  replace HM:=hid hm2
  clear hm2
  obtain rfl:R=(lowS 8 ⟨#[]⟩ ⟨#[]⟩ ([]) ([]) (exZ),s.next):=by rw[HM.out]
  go_wp2_with (first|(refine wpList_buildTo rfl 40 _ rfl _ rfl #[.int .i64 8,.string ⟨#[]⟩,.slice none 0 0,.slice none 0 0,.slice none 0 0,.slice none 0 0,.slice none 0 0,.slice none 0 0,.slice none 0 0,.slice none 0 0,.int .i64 0,.string ⟨#[]⟩,.string ⟨#[]⟩,.int .i64 0,.int .i64 0,.int .i64 0,.string ⟨#[]⟩,.slice none 0 0,.slice none 0 0,.slice none 0 0,.int .i64 0,.string ⟨#[]⟩] (by kernel_rfl) ?_)|(refine stS rfl rfl rfl _ (sC (k:=8)) rfl rfl (E.out.get (j:=0) rfl) rfl rfl (by kernel_rfl) ?_))
  refine bodyPost_ret (v:= .agg ((sC (k:=8))).toArray) (results_cell_row (p:=2) (ty:=40) rfl _ _ g0 40 _ _ _ (by rfl) ((E.out.row (j:=0) rfl (sC (k:=8))).get (j:=0) rfl) Tryz.underlying40 rfl (by kernel_rfl)) rfl ?_
  have F:=E.out.row (j:=0) rfl (sC (k:=8))
  exact⟨_,rfl,F.ps,F.chg,lowA none none none 0 0 0 0 0 0,rfl,F.keep.imp fun u _=>StW.of (low0_st (by unfold I64;omega) (Nat.zero_le _) (Nat.zero_le _)) rfl rfl⟩
 refine(atk0 E.out.ps hL hRO).mono ?_
 rintro _ w9 ⟨rfl,h1,h2⟩
 replace E:=hid (E.out.call h1 h2)
 clear h1 h2
 have hm2:=HM.out
 rw[if_neg (by rw[hRO];simp)]at hm2
 replace HM:=hid hm2
 clear hm2
 go_wp2_with fail
 cases hSA:isS kSAVEPOINT s
 rotate_left
 ·refine(atk1 E.out.ps hL hSA).mono ?_
  rintro _ w10 ⟨rfl,h1,h2⟩
  replace E:=hid (E.out.call h1 h2)
  clear h1 h2
  have hX:=E.out.ps.tak_size hL 1
  go_wp2_with fail
  refine(pname E.out.ps hL).mono ?_
  rintro _ w11 ⟨rfl,h1,h2⟩
  replace E:=hid (E.out.call h1 h2)
  clear h1 h2
  have hl1:=fwd_tak 1 s.next
  generalize hXe:(takP 1 s.next).1=X at*
  generalize hs1:(takP 1 s.next).2=s1 at*
  obtain rfl:R=(lowS 9 ⟨#[]⟩ X ([]) ([]) (exZ),s1):=by rw[HM.out,if_pos hSA]
  go_wp2_with (first|(refine wpList_buildTo rfl 40 _ rfl _ rfl #[.int .i64 9,.string ⟨#[]⟩,.slice none 0 0,.slice none 0 0,.slice none 0 0,.slice none 0 0,.slice none 0 0,.slice none 0 0,.slice none 0 0,.slice none 0 0,.int .i64 0,.string ⟨#[]⟩,.string ⟨#[]⟩,.int .i64 0,.int .i64 0,.int .i64 0,.string ⟨#[]⟩,.slice none 0 0,.slice none 0 0,.slice none 0 0,.int .i64 0,.string X] (by kernel_rfl) ?_)|(refine stS rfl rfl rfl _ (sC (k:=9) (n:=X)) rfl rfl (E.out.get (j:=0) rfl) rfl rfl (by kernel_rfl) ?_))
  refine bodyPost_ret (v:= .agg ((sC (k:=9) (n:=X))).toArray) (results_cell_row (p:=2) (ty:=40) rfl _ _ g0 40 _ _ _ (by rfl) ((E.out.row (j:=0) rfl (sC (k:=9) (n:=X))).get (j:=0) rfl) Tryz.underlying40 rfl (by kernel_rfl)) rfl ?_
  have F:=E.out.row (j:=0) rfl (sC (k:=9) (n:=X))
  exact⟨_,rfl,F.ps,F.chg,lowA none none none 0 0 0 0 0 0,rfl,F.keep.imp fun u _=>StW.of (low0_st (by unfold I64;omega) (Nat.zero_le _) hX) rfl rfl⟩
 refine(atk0 E.out.ps hL hSA).mono ?_
 rintro _ w10 ⟨rfl,h1,h2⟩
 replace E:=hid (E.out.call h1 h2)
 clear h1 h2
 have hm2:=HM.out
 rw[if_neg (by rw[hSA];simp)]at hm2
 replace HM:=hid hm2
 clear hm2
 go_wp2_with fail
 cases hRE:isS kRELEASE s
 rotate_left
 ·refine(atk1 E.out.ps hL hRE).mono ?_
  rintro _ w11 ⟨rfl,h1,h2⟩
  replace E:=hid (E.out.call h1 h2)
  clear h1 h2
  have hX:=E.out.ps.tak_size hL 1
  go_wp2_with fail
  refine(pname E.out.ps hL).mono ?_
  rintro _ w12 ⟨rfl,h1,h2⟩
  replace E:=hid (E.out.call h1 h2)
  clear h1 h2
  have hl1:=fwd_tak 1 s.next
  generalize hXe:(takP 1 s.next).1=X at*
  generalize hs1:(takP 1 s.next).2=s1 at*
  obtain rfl:R=(lowS 11 ⟨#[]⟩ X ([]) ([]) (exZ),s1):=by rw[HM.out,if_pos hRE]
  go_wp2_with (first|(refine wpList_buildTo rfl 40 _ rfl _ rfl #[.int .i64 11,.string ⟨#[]⟩,.slice none 0 0,.slice none 0 0,.slice none 0 0,.slice none 0 0,.slice none 0 0,.slice none 0 0,.slice none 0 0,.slice none 0 0,.int .i64 0,.string ⟨#[]⟩,.string ⟨#[]⟩,.int .i64 0,.int .i64 0,.int .i64 0,.string ⟨#[]⟩,.slice none 0 0,.slice none 0 0,.slice none 0 0,.int .i64 0,.string X] (by kernel_rfl) ?_)|(refine stS rfl rfl rfl _ (sC (k:=11) (n:=X)) rfl rfl (E.out.get (j:=0) rfl) rfl rfl (by kernel_rfl) ?_))
  refine bodyPost_ret (v:= .agg ((sC (k:=11) (n:=X))).toArray) (results_cell_row (p:=2) (ty:=40) rfl _ _ g0 40 _ _ _ (by rfl) ((E.out.row (j:=0) rfl (sC (k:=11) (n:=X))).get (j:=0) rfl) Tryz.underlying40 rfl (by kernel_rfl)) rfl ?_
  have F:=E.out.row (j:=0) rfl (sC (k:=11) (n:=X))
  exact⟨_,rfl,F.ps,F.chg,lowA none none none 0 0 0 0 0 0,rfl,F.keep.imp fun u _=>StW.of (low0_st (by unfold I64;omega) (Nat.zero_le _) hX) rfl rfl⟩
 refine(atk0 E.out.ps hL hRE).mono ?_
 rintro _ w11 ⟨rfl,h1,h2⟩
 replace E:=hid (E.out.call h1 h2)
 clear h1 h2
 have hm2:=HM.out
 rw[if_neg (by rw[hRE];simp)]at hm2
 replace HM:=hid hm2
 clear hm2
 have f2:=E.out.ps.blk.frozen 2
 have p2:=E.out.ps.blk.cell_some (i:=2) rfl
 replace E:=hid E.out.fail
 go_upto_region 35 with fail
 obtain rfl:R=(lowS 0 ⟨#[]⟩ ⟨#[]⟩ ([]) ([]) (exZ),s.fail):=by rw[HM.out]
 go_wp2_with (first|(refine wpList_buildTo rfl 40 _ rfl _ rfl #[.int .i64 0,.string ⟨#[]⟩,.slice none 0 0,.slice none 0 0,.slice none 0 0,.slice none 0 0,.slice none 0 0,.slice none 0 0,.slice none 0 0,.slice none 0 0,.int .i64 0,.string ⟨#[]⟩,.string ⟨#[]⟩,.int .i64 0,.int .i64 0,.int .i64 0,.string ⟨#[]⟩,.slice none 0 0,.slice none 0 0,.slice none 0 0,.int .i64 0,.string ⟨#[]⟩] (by kernel_rfl) ?_)|(refine stS rfl rfl rfl _ sC rfl rfl (E.out.get (j:=0) rfl) rfl rfl (by kernel_rfl) ?_))
 refine bodyPost_ret (v:= .agg (sC).toArray) (results_cell_row (p:=2) (ty:=40) rfl _ _ g0 40 _ _ _ (by rfl) ((E.out.row (j:=0) rfl sC).get (j:=0) rfl) Tryz.underlying40 rfl (by kernel_rfl)) rfl ?_
 have F:=E.out.row (j:=0) rfl sC
 exact⟨_,rfl,F.ps,F.chg,lowA none none none 0 0 0 0 0 0,rfl,F.keep.imp fun u _=>StW.of (low0_st (by unfold I64;omega) (Nat.zero_le _) (Nat.zero_le _)) rfl rfl⟩
end
end
section
open Lx (Tk)
theorem results_cell3 {Pr:Program} {fn:Func} {p q r:Tmp} {ty:TypeId} (h:fn.results= #[.cell p ty,.tmp q,.tmp r]) (tmps:Array Value) (w:World) (g:Nat) (t:TypeId) (cs:Array Value) (fr:Nat×Nat) (d:TypeDesc)
  (hp:tmps.getD p undef= .pointer (some ⟨g,0,none⟩)) (hg:w.heap[g]? =some (.cells cs t fr))
  (hu:Pr.underlying ty=some d) (hd:(match d with| .struct _| .array _ _=>true|_=>false)=true) (hi:(Pr.info? ty).map (·.size)=some cs.size):
  (results fn tmps).run Pr w= .ok (.tuple #[.agg cs,tmps.getD q undef,tmps.getD r undef]) w:=by
 have hp':tmps[p]?.getD undef= .pointer (some ⟨g,0,none⟩):=by simpa using hp
 simp[results,h,hp',asAddr,run_loadVar_row w g t ty cs fr d hg hu hd hi]
theorem stE' {ops:Array Oper} {rest:List Oper} {o:Oper} {a:Act} {w:World} {Q:Exit→Act→World→Prop} {x y:Operand} (hgd:o.guard=none) (ho:o.op= .store 37 x y) (hd:o.dst=none) (ds:List Value) (hx:a.eval x= .pointer (some ⟨w.heap.size,0,none⟩)) (hy:a.eval y= .agg ds.toArray) {cs:List Value} (hl:cs.length=8) (hm:ds.length=8) (h1:ds.toArray.all (·.oneCell')=true)
  (h:wpList Tryz.prog ops Q rest a (w.alloc (.cells ds.toArray 37))):wpList Tryz.prog ops Q (o::rest) a (w.alloc (.cells cs.toArray 37)):=
 wpList_store_rowTo hgd 37 x y ho hd w.heap.size ds.toArray hx hy 37 cs.toArray (heap_alloc_new w _) (by rw[List.size_toArray,hm];kernel_rfl) (by rw[List.size_toArray,List.size_toArray,hl,hm]) h1 (by rw[World.setRow_alloc_new];exact h)
theorem ext_row {w0 w:World} (h:Ext w0 w) {g:Nat} (hg:w0.heap.size≤g) (cs:Array Value):Ext w0 (w.setRow g cs):=h.grown (row_grown' w g cs) fun q hq=>by have:=Option.some.inj hq;omega
theorem stb_row' {n g:Nat} {w:World} {Φ:World→Prop} (h:Stb (n≤·) w Φ) (hg:g<n) (cs:Array Value):Stb (n≤·) (w.setRow g cs) Φ:=h.grown (row_grown' w g cs) fun q hq e=>by
 have:=Option.some.inj e
 have hq:n≤q:=hq
 omega
theorem setRow_same {w:World} {g T:Nat} {cs:List Value} (h:Blk w g T cs):w.setRow g cs.toArray=w:=by
 have e:(w.setRow g cs.toArray).heap=w.heap:=by
  apply Array.ext_getElem?
  intro i
  unfold World.setRow
  simp only
  rw[Array.getElem?_modify]
  split
  ·next e=>subst e;unfold Blk at h;rw[h];rfl
  ·rfl
 cases w
 unfold World.setRow at e ⊢
 simp only at e ⊢
 rw[e]
theorem wpStill_same {P:Program} {ops:Array Oper} {w:World} {Q:Act→Prop} {a:Act} {o:Oper} {rest:List Oper} (hgd:o.guard=none) (ty:TypeId) {x y:Operand} (ho:o.op= .store ty x y) (hd:o.dst=none) (g:Nat) (cs:List Value) (hx:a.eval x= .pointer (some ⟨g,0,none⟩)) (hy:a.eval y= .agg cs.toArray)
  {T:Nat} (hb:Blk w g T cs) (hi:(P.info? ty).map (·.size)=some cs.toArray.size) (h1:cs.toArray.all (·.oneCell')=true) (h:wpStill P ops w Q rest a):wpStill P ops w Q (o::rest) a:=by
 refine wpStill_step fun K hK=>?_
 rw[if_pos (by simp[Region.wanted,hgd])]
 unfold Oper.still execOp
 simp only[ho,hx,hy,Instr.storeAt,Instr.sureAddr,Sem.run_bind,Sem.run_pure,Result.andThen_ok,run_storeVar_row w g T ty _ _ hb hi rfl h1,setRow_same hb]
 refine⟨rfl,?_⟩
 rw[hd]
 exact hK _ h
def triB (cs:List Value):Bool:=(List.range cs.length).all fun i=>match cs[i]?,cs[i+1]?,cs[i+2]? with|some (.int _ _),some (.string _),some (.int _ _)=>false|_,_,_=>true
theorem not_tok {w:World} {b off g T:Nat} {cs:List Value} {k0 k2:IntKind} {i0 i2:Int} {s1:ByteArray} (h:Blk w g T cs) (ht:triB cs=true) (d0:w.cell? ⟨b,off,none⟩=some (.int k0 i0)) (d1:w.cell? ⟨b,off+1,none⟩=some (.string s1)) (d2:w.cell? ⟨b,off+2,none⟩=some (.int k2 i2)):b≠g:=by
 intro e
 subst e
 have c0:=(h.cell off).symm.trans d0
 have c1:=(h.cell (off+1)).symm.trans d1
 have c2:=(h.cell (off+2)).symm.trans d2
 have h1:=List.all_eq_true.1 ht off (List.mem_range.2 (List.getElem?_eq_some_iff.1 c0).1)
 rw[c0,c1,c2]at h1
 cases h1
theorem stw_zero (u:World):StW u stZ (lowA none none none 0 0 0 0 0 0):=StW.of (low0_st (k:=0) (by unfold I64;omega) (Nat.zero_le _) (Nat.zero_le _)) rfl rfl
theorem statement_fn (vld:St→Int) (s:ByteArray) (w:World) (hs:s.size≤20000) (hk:Lx.KwAt w)
  (hst:∀(L:List Tk) (P:Nat) (A:Option Addr) (c:Nat) (W0 W:World),Ext w W0→Lx.tokAll s= .ok L→PsAt 68 P A c L W0 W ⟨L,false⟩→Calls Tryz.prog 29 #[.pointer (some ⟨P,0,none⟩)] W (Ran 68 P A c L W0 W (stmP (L.length+1) ⟨L,false⟩).2 fun v w'=>ElSt W.heap.size w' (stmP (L.length+1) ⟨L,false⟩).1 v))
  (hva:∀(L:List Tk) (a:SA) (W:World),Ext w W→Lx.tokAll s= .ok L→(stmP (L.length+1) ⟨L,false⟩).2.bad=false→StW W (stmP (L.length+1) ⟨L,false⟩).1 a→Calls Tryz.prog 31 #[St.val (stmP (L.length+1) ⟨L,false⟩).1 a] W fun r w'=>r= .returned (.int .i64 (vld (stmP (L.length+1) ⟨L,false⟩).1))∧Ext W w'):
  Calls Tryz.prog 13 #[.string s] w fun e w'=>Ext w w'∧∃a,e= .returned (.tuple #[St.val (parS vld s).1 a,.int .i64 (parS vld s).2.1,.int .i64 (parS vld s).2.2])∧Stb (w.heap.size≤·) w' (fun u=>StW u (parS vld s).1 a):=by
 have hbad:∀a x:Nat,Lx.tokAll s= .bad a x→parS vld s=(stZ,(a:Int),(x:Int)):=fun a x h=>by unfold parS;rw[h]
 have hok:∀L,Lx.tokAll s= .ok L→parS vld s=if (endP (stmP (L.length+1) ⟨L,false⟩).2).bad=true then (stZ,((endP (stmP (L.length+1) ⟨L,false⟩).2).hd.pos:Int),2)else if vld (stmP (L.length+1) ⟨L,false⟩).1=0 then ((stmP (L.length+1) ⟨L,false⟩).1,0,0)else (stZ,((⟨L,false⟩:Ps).hd.pos:Int),vld (stmP (L.length+1) ⟨L,false⟩).1):=fun L h=>by
  unfold parS wholeP
  rw[h]
  simp only
  cases hb:(endP (stmP (L.length+1) ⟨L,false⟩).2).bad<;>simp[hb]
 obtain⟨R,hR⟩:∃R,parS vld s=R:=⟨_,rfl⟩
 rw[hR]at hbad hok ⊢
 have HSt:=hid hst
 have HVa:=hid hva
 replace hok:=hid hok
 replace hbad:=hid hbad
 clear hst hva hR
 go_enter Tryz.func13,Tryz.ntmps13
 go_upto_region 1 with fail
 have HX1:=hid ((Ext.refl w).alloc (.cells #[.int .i64 0,.string ⟨#[]⟩,.slice none 0 0,.slice none 0 0,.slice none 0 0,.slice none 0 0,.slice none 0 0,.slice none 0 0,.slice none 0 0,.slice none 0 0,.int .i64 0,.string ⟨#[]⟩,.string ⟨#[]⟩,.int .i64 0,.int .i64 0,.int .i64 0,.string ⟨#[]⟩,.slice none 0 0,.slice none 0 0,.slice none 0 0,.int .i64 0,.string ⟨#[]⟩] 40))
 have HB1:=hid (Blk.of_new w 40 sC)
 generalize w.alloc (.cells #[.int .i64 0,.string ⟨#[]⟩,.slice none 0 0,.slice none 0 0,.slice none 0 0,.slice none 0 0,.slice none 0 0,.slice none 0 0,.slice none 0 0,.slice none 0 0,.int .i64 0,.string ⟨#[]⟩,.string ⟨#[]⟩,.int .i64 0,.int .i64 0,.int .i64 0,.string ⟨#[]⟩,.slice none 0 0,.slice none 0 0,.slice none 0 0,.int .i64 0,.string ⟨#[]⟩] 40)=w1 at*
 obtain⟨g0,hg0⟩:∃g,w.heap.size=g:=⟨_,rfl⟩
 have HG:Hid (w.heap.size≤g0):=Nat.le_of_eq hg0
 rw[hg0]at HB1 ⊢
 have HG2:=hid hg0
 clear hg0
 go_wp2_with fail
 refine(begin_tok s w1 hs (hk.ext HX1.out)).mono ?_
 rintro _ w2 ⟨hx2,h|h⟩
 ·obtain⟨a,x,ht,hx0,rfl⟩:=h
  have hxi:¬((x:Int)=0):=by omega
  have HX2:=hid (HX1.out.trans hx2)
  have HB2:=hid (HB1.out.ext hx2)
  obtain rfl:=hbad.out a x ht
  clear HX1 HB1 hx2 HSt HVa hok hbad ht
  go_wp2_with (first|(refine wpList_buildTo rfl 40 _ rfl _ rfl #[.int .i64 0,.string ⟨#[]⟩,.slice none 0 0,.slice none 0 0,.slice none 0 0,.slice none 0 0,.slice none 0 0,.slice none 0 0,.slice none 0 0,.slice none 0 0,.int .i64 0,.string ⟨#[]⟩,.string ⟨#[]⟩,.int .i64 0,.int .i64 0,.int .i64 0,.string ⟨#[]⟩,.slice none 0 0,.slice none 0 0,.slice none 0 0,.int .i64 0,.string ⟨#[]⟩] (by kernel_rfl) ?_)|(refine stS rfl rfl rfl _ sC rfl rfl HB2.out rfl rfl (by kernel_rfl) ?_))
  refine bodyPost_ret (v:=_) (results_cell3 (p:=2) (q:=3) (r:=4) (ty:=40) rfl _ _ g0 40 _ _ _ (by rfl) (row_blk' HB2.out sC) Tryz.underlying40 rfl (by kernel_rfl)) rfl ?_
  exact⟨ext_row HX2.out HG.out _,lowA none none none 0 0 0 0 0 0,rfl,fun u _ _=>stw_zero u⟩
 ·obtain⟨L,P,A,c,ht,rfl,hp⟩:=h
  have hL:=tkl_of ht
  have hLl:=hL.len
  have HR:=hid (hok.out L ht)
  have HP0:Hid (g0<P):=Nat.lt_of_lt_of_le HB1.out.lt hp.low
  have HG3:Hid (g0<w2.heap.size):=Nat.lt_trans HP0.out hp.lt
  have HC:=hid (HSt.out L P A c w1 w2 HX1.out ht hp)
  have HVb:=hid (fun a W h1 h2 h3=>HVa.out L a W h1 ht h2 h3)
  have HPl:=hid hp.lt
  obtain⟨⟨X,s1⟩,hX⟩:∃x,stmP (L.length+1) ⟨L,false⟩=x:=⟨_,rfl⟩
  rw[hX]at HC HR HVb
  simp only at HC HR HVb
  clear hX hp HSt HVa hok hbad hx2
  go_wp2_with fail
  refine HC.out.mono ?_
  rintro _ w3 ⟨_,rfl,h1,h2,a1,rfl,h3⟩
  have HS3:=hid h1
  have HF3:=hid h3
  clear h1 h2 h3 HC
  unfold St.val
  go_upto_region 5 with (first|(refine Great.wpList_allocTo rfl _ rfl (.pointer (some ⟨_,0,none⟩)) (.cells #[.int .i64 0,.string ⟨#[]⟩,.slice none 0 0,.slice none 0 0,.slice none 0 0,.slice none 0 0,.slice none 0 0,.slice none 0 0,.slice none 0 0,.slice none 0 0,.int .i64 0,.string ⟨#[]⟩,.string ⟨#[]⟩,.int .i64 0,.int .i64 0,.int .i64 0,.string ⟨#[]⟩,.slice none 0 0,.slice none 0 0,.slice none 0 0,.int .i64 0,.string ⟨#[]⟩] 40) (by kernel_rfl) ?_)|(refine stS' rfl rfl rfl (St.cells X a1) rfl rfl (cs:=sC) rfl rfl (by kernel_rfl) ?_))
  have hx:=(Ext.refl w3).alloc (.cells ((St.cells X a1)).toArray 40)
  have HS4:=hid (HS3.out.ext hx)
  have HF4:=hid (Stb.ext HF3.out hx)
  have HV4:=hid (Blk.of_new w3 40 (St.cells X a1))
  have HG4:Hid (P<w3.heap.size):=HS3.out.lt
  clear hx HS3 HF3
  generalize hw:World.alloc _ _=w4
  rw[hw]at HS4 HF4 HV4
  obtain⟨g8,hg8⟩:∃g,w3.heap.size=g:=⟨_,rfl⟩
  rw[hg8]at HV4 HG4 ⊢
  clear hw hg8
  go_wp2_with fail
  refine(end_any HS4.out hL).mono ?_
  rintro _ w5 ⟨_,rfl,h1,h2,_⟩
  have HS5:=hid h1
  have HV5:=hid (h2.blk HV4.out (by have:=HG4.out;omega))
  have HF5:=hid (Stb.chg HF4.out h2 HPl.out)
  have HEb:Hid ((endP s1).bad=false→s1.bad=false):=fun h=>by
   unfold endP at h
   split at h
   ·exact h
   ·cases h
  clear h1 h2 HS4 HV4 HF4
  generalize endP s1=s2 at*
  have HB5:=hid (HB1.out.ext HS5.out.base)
  obtain⟨b,off,hA,hb,c0,c1,c2⟩:=HS5.out.cells
  obtain⟨t0,ht0⟩:∃t0,L[0]? =some t0:=⟨_,List.getElem?_eq_getElem (by have:=HS5.out.ne;have:=HS5.out.le;omega)⟩
  have HT0:Hid ((⟨L,false⟩:Ps).hd=t0):=by
   unfold Ps.hd
   cases L with
   |nil=>cases ht0
   |cons a l=>cases ht0;rfl
  obtain⟨b9,off9,hA9,hb9,d0,d1,d2⟩:=HS5.out.tks 0 t0 ht0
  subst hA
  injection hA9 with hA9
  injection hA9 with e1 e2
  subst e1 e2
  rw[Nat.zero_mul,Nat.add_zero]at d0 d1 d2
  have hbg:b≠g0:=not_tok HB5.out (by rfl) d0 d1 d2
  have hbg2:¬(g0=b):=fun e=>hbg e.symm
  have hPg:¬(P=g0):=by have:=HP0.out;omega
  have hPg2:¬(g0=P):=by have:=HP0.out;omega
  have hbg3:¬(b=g0):=hbg
  have hl1:0<L.length:=by have:=HS5.out.ne;have:=HS5.out.le;omega
  have hl0:(0:Int)<(L.length:Int):=by have:=HS5.out.ne;have:=HS5.out.le;omega
  obtain⟨p0,p1,p2,-⟩:=cls HS5.out.blk
  have hi:=HS5.out.lti
  have hne:=HS5.out.ne
  have hle:=HS5.out.le
  clear hb c0 c1 d0 d1 hb9 ht0
  cases hsb:s2.bad
  ·rw[hsb]at p2 HR HEb
   have HVc:=hid (HVb.out a1 w5 (HX1.out.trans HS5.out.base) (HEb.out rfl) HF5.out.now)
   rw[if_neg (by simp)]at HR
   clear HVb HEb
   go_wp2_with (first|(refine ldS rfl rfl _ rfl HV5.out rfl ?_))
   refine HVc.out.mono ?_
   rintro _ w6 ⟨rfl,hx6⟩
   have HS6:=hid (HS5.out.ext hx6)
   have HB6:=hid (HB5.out.ext hx6)
   have HV6:=hid (HV5.out.ext hx6)
   have HF6:=hid (Stb.ext HF5.out hx6)
   replace d2:=hx6.keep d2
   replace p0:=hx6.keep p0
   clear HVc hx6 HS5 HB5 HV5 HF5 p1 p2 c2
   by_cases hv:vld X=0
   ·rw[if_pos hv]at HR
    rw[hv]
    obtain rfl:R=(X,0,0):=HR.out
    clear HR d2 p0
    go_wp2_with (first|(refine ldS rfl rfl _ rfl HV6.out rfl ?_)|(refine stS rfl rfl rfl _ (St.cells X a1) rfl rfl HB6.out rfl rfl (by kernel_rfl) ?_))
    refine bodyPost_ret (v:=_) (results_cell3 (p:=2) (q:=3) (r:=4) (ty:=40) rfl _ _ g0 40 _ _ _ (by rfl) (row_blk' HB6.out (St.cells X a1)) Tryz.underlying40 rfl (by kernel_rfl)) rfl ?_
    exact⟨ext_row (HX1.out.trans HS6.out.base) HG.out _,a1,rfl,(stb_row' HF6.out HG3.out _).weak fun q _ hq=>by have hq:w2.heap.size≤q:=hq;have:=HG3.out;have:=HG2.out;show w.heap.size≤q;omega⟩
   ·rw[if_neg hv]at HR
    obtain rfl:R=(stZ,((t0.pos:Nat):Int),vld X):=by rw[←HT0.out];exact HR.out
    clear HR
    have hz2:=HB6.out.ext (Ext.refl w6).drew
    go_upto_region 10 with fail
    refine wp_region_still_lit (by kernel_rfl) (by kernel_rfl) ?_
    iterate 9 still_step
    refine wpStill_same rfl 40 rfl rfl g0 sC rfl rfl hz2 (by kernel_rfl) (by kernel_rfl) ?_
    iterate 2 still_step
    refine wpStill_nil ?_
    have hxe:=(HX1.out.trans HS6.out.base).trans (Ext.refl w6).drew
    go_wp2_with fail
    refine bodyPost_ret (v:=_) (results_cell3 (p:=2) (q:=3) (r:=4) (ty:=40) rfl _ _ g0 40 _ _ _ (by rfl) (hz2) Tryz.underlying40 rfl (by kernel_rfl)) rfl ?_
    exact⟨hxe,lowA none none none 0 0 0 0 0 0,rfl,fun u _ _=>stw_zero u⟩
  ·rw[hsb]at p2 HR
   rw[if_pos rfl]at HR
   obtain rfl:R=(stZ,((s2.hd.pos:Nat):Int),2):=HR.out
   clear HR HVb HEb d2
   have hz2:=HB5.out.ext (Ext.refl w5).drew
   go_upto_region 7 with fail
   refine wp_region_still_lit (by kernel_rfl) (by kernel_rfl) ?_
   iterate 12 still_step
   refine wpStill_same rfl 40 rfl rfl g0 sC rfl rfl hz2 (by kernel_rfl) (by kernel_rfl) ?_
   iterate 2 still_step
   refine wpStill_nil ?_
   have hxe:=(HX1.out.trans HS5.out.base).trans (Ext.refl w5).drew
   go_wp2_with fail
   refine bodyPost_ret (v:=_) (results_cell3 (p:=2) (q:=3) (r:=4) (ty:=40) rfl _ _ g0 40 _ _ _ (by rfl) (hz2) Tryz.underlying40 rfl (by kernel_rfl)) rfl ?_
   exact⟨hxe,lowA none none none 0 0 0 0 0 0,rfl,fun u _ _=>stw_zero u⟩
theorem expression_fn (vld:Ex→Int) (s:ByteArray) (w:World) (hs:s.size≤20000) (hk:Lx.KwAt w)
  (hst:∀(L:List Tk) (P:Nat) (A:Option Addr) (c:Nat) (W0 W:World),Ext w W0→Lx.tokAll s= .ok L→PsAt 68 P A c L W0 W ⟨L,false⟩→Calls Tryz.prog 39 #[.pointer (some ⟨P,0,none⟩)] W (Ran 68 P A c L W0 W (exprP (L.length+1) ⟨L,false⟩).2 fun v w'=>ExG W.heap.size w' (exprP (L.length+1) ⟨L,false⟩).1 v))
  (hva:∀(L:List Tk) (A1:Option Addr) (k1 c1:Nat) (W:World),Ext w W→Lx.tokAll s= .ok L→(exprP (L.length+1) ⟨L,false⟩).2.bad=false→ExV W (exprP (L.length+1) ⟨L,false⟩).1 A1 k1 c1→Calls Tryz.prog 40 #[Nd.val (exprP (L.length+1) ⟨L,false⟩).1.d A1 k1 c1] W fun r w'=>r= .returned (.int .i64 (vld (exprP (L.length+1) ⟨L,false⟩).1))∧Ext W w'):
  Calls Tryz.prog 17 #[.string s] w fun e w'=>Ext w w'∧∃A1 k1 c1,e= .returned (.tuple #[Nd.val (parE vld s).1.d A1 k1 c1,.int .i64 (parE vld s).2.1,.int .i64 (parE vld s).2.2])∧Stb (w.heap.size≤·) w' (fun u=>ExV u (parE vld s).1 A1 k1 c1):=by
 have hbad:∀a x:Nat,Lx.tokAll s= .bad a x→parE vld s=(exZ,(a:Int),(x:Int)):=fun a x h=>by unfold parE;rw[h]
 have hok:∀L,Lx.tokAll s= .ok L→parE vld s=if (endP (exprP (L.length+1) ⟨L,false⟩).2).bad=true then (exZ,((endP (exprP (L.length+1) ⟨L,false⟩).2).hd.pos:Int),2)else if vld (exprP (L.length+1) ⟨L,false⟩).1=0 then ((exprP (L.length+1) ⟨L,false⟩).1,0,0)else (exZ,((⟨L,false⟩:Ps).hd.pos:Int),vld (exprP (L.length+1) ⟨L,false⟩).1):=fun L h=>by
  unfold parE wholeP
  rw[h]
  simp only
  cases hb:(endP (exprP (L.length+1) ⟨L,false⟩).2).bad<;>simp[hb]
 obtain⟨R,hR⟩:∃R,parE vld s=R:=⟨_,rfl⟩
 rw[hR]at hbad hok ⊢
 have HSt:=hid hst
 have HVa:=hid hva
 replace hok:=hid hok
 replace hbad:=hid hbad
 clear hst hva hR
 go_enter Tryz.func17,Tryz.ntmps17
 go_upto_region 1 with fail
 have HX1:=hid ((Ext.refl w).alloc (.cells #[.int .i64 0,.string ⟨#[]⟩,.string ⟨#[]⟩,.int .i64 0,.int .i64 0,.int .i64 0,.string ⟨#[]⟩,.slice none 0 0] 37))
 have HB1:=hid (Blk.of_new w 37 eZ)
 generalize w.alloc (.cells #[.int .i64 0,.string ⟨#[]⟩,.string ⟨#[]⟩,.int .i64 0,.int .i64 0,.int .i64 0,.string ⟨#[]⟩,.slice none 0 0] 37)=w1 at*
 obtain⟨g0,hg0⟩:∃g,w.heap.size=g:=⟨_,rfl⟩
 have HG:Hid (w.heap.size≤g0):=Nat.le_of_eq hg0
 rw[hg0]at HB1 ⊢
 have HG2:=hid hg0
 clear hg0
 go_wp2_with fail
 refine(begin_tok s w1 hs (hk.ext HX1.out)).mono ?_
 rintro _ w2 ⟨hx2,h|h⟩
 ·obtain⟨a,x,ht,hx0,rfl⟩:=h
  have hxi:¬((x:Int)=0):=by omega
  have HX2:=hid (HX1.out.trans hx2)
  have HB2:=hid (HB1.out.ext hx2)
  obtain rfl:=hbad.out a x ht
  clear HX1 HB1 hx2 HSt HVa hok hbad ht
  go_wp2_with (first|(refine wpList_buildTo rfl 37 _ rfl _ rfl #[.int .i64 0,.string ⟨#[]⟩,.string ⟨#[]⟩,.int .i64 0,.int .i64 0,.int .i64 0,.string ⟨#[]⟩,.slice none 0 0] (by kernel_rfl) ?_)|(refine stE rfl rfl rfl _ eZ rfl rfl HB2.out rfl rfl (by kernel_rfl) ?_))
  refine bodyPost_ret (v:=_) (results_cell3 (p:=2) (q:=3) (r:=4) (ty:=37) rfl _ _ g0 37 _ _ _ (by rfl) (row_blk' HB2.out eZ) Tryz.underlying37 rfl (by kernel_rfl)) rfl ?_
  exact⟨ext_row HX2.out HG.out _,none,0,0,rfl,fun u _ _=>exZ_at u⟩
 ·obtain⟨L,P,A,c,ht,rfl,hp⟩:=h
  have hL:=tkl_of ht
  have hLl:=hL.len
  have HR:=hid (hok.out L ht)
  have HP0:Hid (g0<P):=Nat.lt_of_lt_of_le HB1.out.lt hp.low
  have HG3:Hid (g0<w2.heap.size):=Nat.lt_trans HP0.out hp.lt
  have HC:=hid (HSt.out L P A c w1 w2 HX1.out ht hp)
  have HVb:=hid (fun A1 k1 c1 W h1 h2 h3=>HVa.out L A1 k1 c1 W h1 ht h2 h3)
  have HPl:=hid hp.lt
  obtain⟨⟨X,s1⟩,hX⟩:∃x,exprP (L.length+1) ⟨L,false⟩=x:=⟨_,rfl⟩
  rw[hX]at HC HR HVb
  simp only at HC HR HVb
  clear hX hp HSt HVa hok hbad hx2
  go_wp2_with fail
  refine HC.out.mono ?_
  rintro _ w3 ⟨_,rfl,h1,h2,A1,k1,c1,rfl,h3⟩
  have HS3:=hid h1
  have HF3:=hid h3
  clear h1 h2 h3 HC
  unfold Nd.val
  go_upto_region 5 with (first|(refine Great.wpList_allocTo rfl _ rfl (.pointer (some ⟨_,0,none⟩)) (.cells #[.int .i64 0,.string ⟨#[]⟩,.string ⟨#[]⟩,.int .i64 0,.int .i64 0,.int .i64 0,.string ⟨#[]⟩,.slice none 0 0] 37) (by kernel_rfl) ?_)|(refine stE' rfl rfl rfl (X.d.cells A1 k1 c1) rfl rfl (cs:=eZ) rfl rfl (by kernel_rfl) ?_))
  have hx:=(Ext.refl w3).alloc (.cells ((X.d.cells A1 k1 c1)).toArray 37)
  have HS4:=hid (HS3.out.ext hx)
  have HF4:=hid (Stb.ext HF3.out hx)
  have HV4:=hid (Blk.of_new w3 37 (X.d.cells A1 k1 c1))
  have HG4:Hid (P<w3.heap.size):=HS3.out.lt
  clear hx HS3 HF3
  generalize hw:World.alloc _ _=w4
  rw[hw]at HS4 HF4 HV4
  obtain⟨g8,hg8⟩:∃g,w3.heap.size=g:=⟨_,rfl⟩
  rw[hg8]at HV4 HG4 ⊢
  clear hw hg8
  go_wp2_with fail
  refine(end_any HS4.out hL).mono ?_
  rintro _ w5 ⟨_,rfl,h1,h2,_⟩
  have HS5:=hid h1
  have HV5:=hid (h2.blk HV4.out (by have:=HG4.out;omega))
  have HF5:=hid (Stb.chg HF4.out h2 HPl.out)
  have HEb:Hid ((endP s1).bad=false→s1.bad=false):=fun h=>by
   unfold endP at h
   split at h
   ·exact h
   ·cases h
  clear h1 h2 HS4 HV4 HF4
  generalize endP s1=s2 at*
  have HB5:=hid (HB1.out.ext HS5.out.base)
  obtain⟨b,off,hA,hb,c0,c1,c2⟩:=HS5.out.cells
  obtain⟨t0,ht0⟩:∃t0,L[0]? =some t0:=⟨_,List.getElem?_eq_getElem (by have:=HS5.out.ne;have:=HS5.out.le;omega)⟩
  have HT0:Hid ((⟨L,false⟩:Ps).hd=t0):=by
   unfold Ps.hd
   cases L with
   |nil=>cases ht0
   |cons a l=>cases ht0;rfl
  obtain⟨b9,off9,hA9,hb9,d0,d1,d2⟩:=HS5.out.tks 0 t0 ht0
  subst hA
  injection hA9 with hA9
  injection hA9 with e1 e2
  subst e1 e2
  rw[Nat.zero_mul,Nat.add_zero]at d0 d1 d2
  have hbg:b≠g0:=not_tok HB5.out (by rfl) d0 d1 d2
  have hbg2:¬(g0=b):=fun e=>hbg e.symm
  have hPg:¬(P=g0):=by have:=HP0.out;omega
  have hPg2:¬(g0=P):=by have:=HP0.out;omega
  have hbg3:¬(b=g0):=hbg
  have hl1:0<L.length:=by have:=HS5.out.ne;have:=HS5.out.le;omega
  have hl0:(0:Int)<(L.length:Int):=by have:=HS5.out.ne;have:=HS5.out.le;omega
  obtain⟨p0,p1,p2,-⟩:=cls HS5.out.blk
  have hi:=HS5.out.lti
  have hne:=HS5.out.ne
  have hle:=HS5.out.le
  clear hb c0 c1 d0 d1 hb9 ht0
  cases hsb:s2.bad
  ·rw[hsb]at p2 HR HEb
   have HVc:=hid (HVb.out A1 k1 c1 w5 (HX1.out.trans HS5.out.base) (HEb.out rfl) HF5.out.now)
   rw[if_neg (by simp)]at HR
   clear HVb HEb
   go_wp2_with (first|(refine ldE rfl rfl _ rfl HV5.out rfl ?_))
   refine HVc.out.mono ?_
   rintro _ w6 ⟨rfl,hx6⟩
   have HS6:=hid (HS5.out.ext hx6)
   have HB6:=hid (HB5.out.ext hx6)
   have HV6:=hid (HV5.out.ext hx6)
   have HF6:=hid (Stb.ext HF5.out hx6)
   replace d2:=hx6.keep d2
   replace p0:=hx6.keep p0
   clear HVc hx6 HS5 HB5 HV5 HF5 p1 p2 c2
   by_cases hv:vld X=0
   ·rw[if_pos hv]at HR
    rw[hv]
    obtain rfl:R=(X,0,0):=HR.out
    clear HR d2 p0
    go_wp2_with (first|(refine ldE rfl rfl _ rfl HV6.out rfl ?_)|(refine stE rfl rfl rfl _ (X.d.cells A1 k1 c1) rfl rfl HB6.out rfl rfl (by kernel_rfl) ?_))
    refine bodyPost_ret (v:=_) (results_cell3 (p:=2) (q:=3) (r:=4) (ty:=37) rfl _ _ g0 37 _ _ _ (by rfl) (row_blk' HB6.out (X.d.cells A1 k1 c1)) Tryz.underlying37 rfl (by kernel_rfl)) rfl ?_
    exact⟨ext_row (HX1.out.trans HS6.out.base) HG.out _,A1,k1,c1,rfl,(stb_row' HF6.out HG3.out _).weak fun q _ hq=>by have hq:w2.heap.size≤q:=hq;have:=HG3.out;have:=HG2.out;show w.heap.size≤q;omega⟩
   ·rw[if_neg hv]at HR
    obtain rfl:R=(exZ,((t0.pos:Nat):Int),vld X):=by rw[←HT0.out];exact HR.out
    clear HR
    have hz2:=HB6.out.ext (Ext.refl w6).drew
    go_upto_region 10 with fail
    refine wp_region_still_lit (by kernel_rfl) (by kernel_rfl) ?_
    iterate 9 still_step
    refine wpStill_same rfl 37 rfl rfl g0 eZ rfl rfl hz2 (by kernel_rfl) (by kernel_rfl) ?_
    iterate 2 still_step
    refine wpStill_nil ?_
    have hxe:=(HX1.out.trans HS6.out.base).trans (Ext.refl w6).drew
    go_wp2_with fail
    refine bodyPost_ret (v:=_) (results_cell3 (p:=2) (q:=3) (r:=4) (ty:=37) rfl _ _ g0 37 _ _ _ (by rfl) (hz2) Tryz.underlying37 rfl (by kernel_rfl)) rfl ?_
    exact⟨hxe,none,0,0,rfl,fun u _ _=>exZ_at u⟩
  ·rw[hsb]at p2 HR
   rw[if_pos rfl]at HR
   obtain rfl:R=(exZ,((s2.hd.pos:Nat):Int),2):=HR.out
   clear HR HVb HEb d2
   have hz2:=HB5.out.ext (Ext.refl w5).drew
   go_upto_region 7 with fail
   refine wp_region_still_lit (by kernel_rfl) (by kernel_rfl) ?_
   iterate 12 still_step
   refine wpStill_same rfl 37 rfl rfl g0 eZ rfl rfl hz2 (by kernel_rfl) (by kernel_rfl) ?_
   iterate 2 still_step
   refine wpStill_nil ?_
   have hxe:=(HX1.out.trans HS5.out.base).trans (Ext.refl w5).drew
   go_wp2_with fail
   refine bodyPost_ret (v:=_) (results_cell3 (p:=2) (q:=3) (r:=4) (ty:=37) rfl _ _ g0 37 _ _ _ (by rfl) (hz2) Tryz.underlying37 rfl (by kernel_rfl)) rfl ?_
   exact⟨hxe,none,0,0,rfl,fun u _ _=>exZ_at u⟩
end
end Go.Proofs.YtjigcpfjhfoheaaGreatDoor
