/- General lemmas on worlds, strings and slices, over any program; Plain functions on expressions; no program in sight; Statements: their plain form; General laws: append onto a row of the call's own, the old row kept; a set of strin. -/
import Derived.WalkKit
import Derived.WalkSpells
import Derived.WalkLawsBesides
import Derived.Laws.IdiomStrings
import Derived.Laws.BitsAllLaws
import Derived.Deep.QuietTactic
import Derived.BigQuiet
import Derived.Lib.Strings
import Derived.Deep.RegionWith
import Derived.Deep.DeepMust
import Derived.Deep.DeepFit
import Derived.Deep.LoopGhost
import Derived.Deep.RegionHeld3
import Derived.Laws.BytesArg
import Derived.OwnWalk
import Derived.Maps.AppendAt
import Derived.Maps.Own
import Derived.Maps.OwnOps
import Derived.Maps.Views
import Derived.Deep.RegionLaw
import Derived.Laws.OwnMore
import Derived.Deep.AppendLies
import Derived.Deep.Draws
import Derived.RegionTactic
import Derived.IntWalk
import Derived.Lib.ReplaceLaws
import Derived.Lib.IndexBytes
import Derived.Lib.ItoaLen
import Derived.Test.YtjigcpfjhfoheaaGreatDoorShelf
import Derived.Shelf.Strconv.ParseInt10All
namespace Go.Proofs.YtjigcpfjhfoheaaGreatDoor
open Go.RowKit
set_option maxHeartbeats 400000
set_option maxRecDepth 100000
set_option linter.unusedVariables false
set_option linter.unusedSimpArgs false
section
theorem hid {p:Prop} (h:p):Hid p:=h
theorem ret_int {k:IntKind} {a b:Int} (h:a=b):Ending.returned (.int k a)= .returned (.int k b):=by rw[h]
theorem ret_bool {a b:Bool} (h:a=b):Ending.returned (.bool a)= .returned (.bool b):=by rw[h]
def Ext (w w':World):Prop:=Below w.heap.size w w'
theorem Ext.refl (w:World):Ext w w:=Below.refl _ _
theorem Ext.size {w w':World} (h:Ext w w'):w.heap.size≤w'.heap.size:=Below.size h
theorem Ext.trans {a b c:World} (h:Ext a b) (k:Ext b c):Ext a c:=Below.trans h (Below.mono k h.size)
theorem Ext.alloc {a b:World} (h:Ext a b) (o:Obj):Ext a (b.alloc o):=Below.alloc h h.size o
theorem Ext.drew {a b:World} (h:Ext a b):Ext a b.drew:=Below.drew h
theorem Ext.drewN {a b:World} (h:Ext a b) (n:Nat):Ext a (b.drewN n):=by
 have k:Below _ _ _:=h
 exact(⟨k.os,k.tape,k.output,k.size,k.block⟩:Below a.heap.size a (b.drewN n))
theorem Ext.setCell {a b:World} (h:Ext a b) {p:Addr} (hp:a.heap.size≤p.block) (u:Value):Ext a (b.setCell p u):=Below.setCell h hp u
theorem Ext.cell {w w':World} (h:Ext w w') {p:Addr} (hp:p.block<w.heap.size):w'.cell? p=w.cell? p:=Below.cell h hp
theorem cell_lt {w:World} {a:Addr} {v:Value} (h:w.cell? a=some v):a.block<w.heap.size:=by
 rcases Nat.lt_or_ge a.block w.heap.size with h'|h'
 ·exact h'
 ·simp[World.cell?,Array.getElem?_eq_none h']at h
theorem Ext.keep {w w':World} (h:Ext w w') {p:Addr} {v:Value} (hp:w.cell? p=some v):w'.cell? p=some v:=(h.cell (cell_lt hp)).trans hp
theorem Ext.frozen {w w':World} (h:Ext w w') {p:Addr} (hp:p.block<w.heap.size):w'.frozen? p=w.frozen? p:=Below.frozen h hp
theorem Ext.grown {a w w':World} {row:Option Nat} (h:Ext a w) (hg:w.grownBy w' row) (hr:∀k,row=some k→a.heap.size≤k):Ext a w':=Below.grown h hg h.size hr
def N (s:ByteArray):List Nat:=s.data.toList.map UInt8.toNat
theorem N_len (s:ByteArray):(N s).length=s.size:=by simp[N]
theorem N_get (s:ByteArray) (k:Nat) (h:k<s.size):(N s)[k]? =some s[k].toNat:=by
 have h':k<s.data.size:=h
 show(s.data.toList.map UInt8.toNat)[k]? =some (s.data[k]).toNat
 rw[List.getElem?_map,Array.getElem?_toList,Array.getElem?_eq_getElem h']
 rfl
theorem N_take_succ (s:ByteArray) (k:Nat) (hk:k<s.size):(N s).take (k+1)=(N s).take k++ [s[k].toNat]:=by
 have hl:k<(N s).length:=by rw[N_len];exact hk
 rw[List.take_succ_eq_append_getElem hl]
 have he:(N s)[k]=s[k].toNat:=by
  have:=N_get s k hk
  rw[List.getElem?_eq_getElem hl]at this
  exact Option.some.inj this
 rw[he]
theorem N_inj {s t:ByteArray} (h:N s=N t):s=t:=by
 have h1:s.data.toList=t.data.toList:=by
  apply(List.map_inj_right (f:=UInt8.toNat) fun a b h=>UInt8.toNat_inj.1 h).1 h
 obtain⟨⟨l⟩⟩:=s
 obtain⟨⟨m⟩⟩:=t
 simp at h1
 rw[h1]
def at0 (l:List Nat) (i:Nat):Nat:=l.getD i 0
def S (l:List Nat):ByteArray:=⟨(l.map UInt8.ofNat).toArray⟩
theorem N_S (l:List Nat) (h:∀x∈l,x<256):N (S l)=l:=by
 simp only[N,S,List.map_map]
 conv=>rhs;rw[←List.map_id l]
 apply List.map_congr_left
 intro x hx
 simp[Nat.mod_eq_of_lt (h x hx)]
section
variable {P:Program}
theorem grownCap_ge (w:World) (need old:Nat) (e:TypeId):need≤grownCap w need old e:=by
 exact Nat.le_add_right _ _
end
structure Later (w:World) where
 now:World
 ext:Ext w now
instance Later.any (w:World):Nonempty (Later w):=⟨⟨w,Ext.refl w⟩⟩
theorem Later.keep {w:World} {p:Addr} {v:Value} (h:w.cell? p=some v):∀x:Later w,x.now.cell? p=some v:=fun x=>x.ext.keep h
theorem later_out {w w':World} (h:∃x:Later w,w'=x.now):Ext w w':=by
 obtain⟨x,rfl⟩:=h
 exact x.ext
theorem wp_region_later {P:Program} {id:Nat} {Q:Exit→Act→World→Prop} {a:Act} {w:World} {l:List Oper} (hm:P.follows .mixedOrders=true) (hB:Region.lexB .any l.toArray=true)
  (h:wpQuiet P l.toArray (fun w'=> ∃x:Later w,w'=x.now) (fun a'=> ∀w',(∃x:Later w,w'=x.now)→Q .normal a' w') l a):(Code.region id l.toArray true).wp P Q a w:=
 wp_region_quiet (C:=fun w'=> ∃x:Later w,w'=x.now) hm hB ⟨⟨_,(Ext.refl w).drew⟩,rfl⟩ (by simpa using h)
theorem later_of {P:Program} {f:FuncId} {args:Array Value} {w:World} {v:Value} {x:Later w}
  (h:Calls P f args x.now fun e w'=>e= .returned v∧Ext x.now w'):Calls P f args x.now fun e w''=>e= .returned v∧∃y:Later w,w''=y.now:=
 h.mono fun _ _ ⟨he,hx⟩=>⟨he,⟨_,x.ext.trans hx⟩,rfl⟩
theorem later_same {P:Program} {f:FuncId} {args:Array Value} {w:World} {v:Value} {x:Later w}
  (h:Calls P f args x.now fun e w'=>e= .returned v∧x.now=w'):Calls P f args x.now fun e w''=>e= .returned v∧∃y:Later w,w''=y.now:=
 h.mono fun _ _ ⟨he,hx⟩=>⟨he,x,hx.symm⟩
theorem str_empty (s:ByteArray):s.toList.isEmpty=(N s).isEmpty:=by
 rw[ByteArray.toList_eq];unfold N;cases s.data.toList<;>rfl
theorem str_eq (s t:ByteArray):(s.toList==t.toList)=(N s==N t):=by
 rw[ByteArray.toList_eq,ByteArray.toList_eq,Bool.eq_iff_iff,beq_iff_eq,beq_iff_eq]
 unfold N
 constructor
 ·intro h;rw[h]
 ·intro h;exact(List.map_inj_right (f:=UInt8.toNat) fun a b h=>UInt8.toNat_inj.1 h).1 h
def Blk (w:World) (g:Nat) (t:TypeId) (cs:List Value):Prop:=w.heap[g]? =some (.cells cs.toArray t (0,0))
section
variable {w w':World} {g:Nat} {t:TypeId} {cs:List Value}
theorem Blk.lt (h:Blk w g t cs):g<w.heap.size:=by
 rcases Nat.lt_or_ge g w.heap.size with hl|hl
 ·exact hl
 ·unfold Blk at h;rw[Array.getElem?_eq_none hl]at h;cases h
theorem Blk.cell (h:Blk w g t cs) (i:Nat):w.cell? ⟨g,i,none⟩=cs[i]? :=by
 unfold Blk at h
 simp[World.cell?,h]
theorem Blk.cell_some (h:Blk w g t cs) {i:Nat} {v:Value} (hv:cs[i]? =some v):w.cell? ⟨g,i,none⟩=some v:=(h.cell i).trans hv
theorem Blk.frozen (h:Blk w g t cs) (i:Nat):w.frozen? ⟨g,i,none⟩=false:=by
 unfold Blk at h
 simp[World.frozen?,h]
theorem Blk.of_new (w:World) (t:TypeId) (cs:List Value):Blk (w.alloc (.cells cs.toArray t)) w.heap.size t cs:=by
 unfold Blk
 show(w.heap.push _)[w.heap.size]? =_
 simp
theorem Blk.ext (h:Blk w g t cs) (hx:Ext w w'):Blk w' g t cs:=(Below.block hx g h.lt).trans h
theorem Blk.drew (h:Blk w g t cs):Blk w.drew g t cs:=h
theorem Blk.set (h:Blk w g t cs) (i:Nat) (u:Value):Blk (w.setCell ⟨g,i,none⟩ u) g t (cs.set i u):=by
 unfold Blk at h ⊢
 simp[World.setCell,Array.getElem?_modify,h]
theorem Blk.far (h:Blk w g t cs) {p:Addr} (hp:g≠p.block) (u:Value):Blk (w.setCell p u) g t cs:=(Below.heap_setCell w p u g hp).trans h
theorem Blk.grown {row:Option Nat} (h:Blk w g t cs) (hb:w.grownBy w' row) (hg:some g≠row):Blk w' g t cs:=(hb.block g h.lt hg).trans h
end
def Onl (g:Nat) (w w':World):Prop:=w.grownBy w' (some g)
section
variable {w w' w2:World} {g:Nat}
theorem Onl.refl (g:Nat) (w:World):Onl g w w:=⟨rfl,rfl,rfl,Nat.le_refl _,fun _ _ _=>rfl⟩
theorem Onl.trans (h:Onl g w w') (k:Onl g w' w2):Onl g w w2:=
 ⟨k.os.trans h.os,k.tape.trans h.tape,k.output.trans h.output,Nat.le_trans h.size k.size,fun i hi hne=> (k.block i (Nat.lt_of_lt_of_le hi h.size) hne).trans (h.block i hi hne)⟩
theorem Onl.setCell (h:Onl g w w') (i:Nat) (u:Value):Onl g w (w'.setCell ⟨g,i,none⟩ u):=
 ⟨h.os,h.tape,h.output,by simpa[World.setCell] using h.size,fun k hk hne=> (Below.heap_setCell w' ⟨g,i,none⟩ u k (fun e=>hne (by rw[e]))).trans (h.block k hk hne)⟩
theorem Onl.ext (h:Onl g w' w2) (hx:Ext w w') (hg:w.heap.size≤g):Ext w w2:=
 Below.trans hx ⟨h.os,h.tape,h.output,h.size,fun k hk=>h.block k (Nat.lt_of_lt_of_le hk hx.size) (fun e=>by injection e with e;omega)⟩
theorem Onl.keep (h:Onl g w w') {p:Addr} {v:Value} (hp:w.cell? p=some v) (hne:p.block≠g):w'.cell? p=some v:=
 (World.cell?_of_block (w:=w) (h.block p.block (cell_lt hp) (fun e=>hne (by injection e)))).trans hp
theorem Onl.blk (h:Onl g w w') {k:Nat} {t:TypeId} {cs:List Value} (hb:Blk w k t cs) (hne:k≠g):Blk w' k t cs:=
 (h.block k hb.lt (fun e=>hne (by injection e))).trans hb
end
def u8s (xs:List Nat):List Value:=xs.map fun (x:Nat)=> .int .u8 (x:Int)
theorem u8s_get (xs:List Nat) (i:Nat) (h:i<xs.length):(u8s xs)[i]? =some (.int .u8 ((at0 xs i:Nat):Int)):=by
 simp[u8s,at0,List.getElem?_map,List.getElem?_eq_getElem h]
theorem strOf_S (xs:List Nat):strOfNums (xs.map fun (x:Nat)=> (x:Int))=S xs:=by
 unfold strOfNums S
 simp[Function.comp_def]
section
variable {P:Program}
theorem conv_string {w:World} (src dst e g n cap:Nat) (xs:List Nat) (hs:P.underlying src=some (.slice e)) (he:P.underlying e=some (.int .u8)) (hd:P.underlying dst=some .string)
  (hb:Blk w g e (u8s xs)) (hn:xs.length=n):(convert src dst (.slice (some ⟨g,0,none⟩) n cap)).run P w= .ok (.string (S xs)) w:=by
 rw[run_convert_bytes_arg w src e hs he g 0 n cap (xs.map fun (x:Nat)=> (x:Int)) (by simp[hn]) (fun i hi=>?_) dst hd,strOf_S]
 rw[Nat.zero_add,hb.cell i,u8s_get xs i (by omega)]
 simp[at0,List.getElem?_eq_getElem (show i<xs.length by omega)]
theorem conv_one (src dst e x:Nat) (hs:P.underlying src=some (.slice e)) (he:P.underlying e=some (.int .u8)) (hd:P.underlying dst=some .string) (W:World) (n:Nat) (hn:n=W.heap.size):
  (convert src dst (.slice (some ⟨n,0,none⟩) 1 1)).run P (W.alloc (.cells #[.int .u8 (x:Int)] e))= .ok (.string (S [x])) (W.alloc (.cells #[.int .u8 (x:Int)] e)):=by
 subst hn
 exact conv_string src dst e W.heap.size 1 1 [x] hs he hd (Blk.of_new W e (u8s [x])) rfl
end
theorem ret_str {a b:ByteArray} (h:a=b):Ending.returned (.string a)= .returned (.string b):=by rw[h]
def CLs (w:World) (g:Nat):List Value→List Nat→Prop
 |v::vs,i::is=>w.cell? ⟨g,i,none⟩=some v∧CLs w g vs is
 |_,_=>True
theorem cls_go {w:World} {g:Nat} :∀(cs:List Value) (is:List Nat),(∀(j:Nat) (v:Value) (i:Nat),cs[j]? =some v→is[j]? =some i→w.cell? ⟨g,i,none⟩=some v)→CLs w g cs is
 | [],_,_=>by unfold CLs;trivial
 |_::_,[],_=>by unfold CLs;trivial
 |v::vs,i::is,h=>by
  unfold CLs
  exact⟨h 0 v i rfl rfl,cls_go vs is fun j u k h1 h2=>h (j+1) u k h1 h2⟩
theorem cls {w:World} {g t:Nat} {cs:List Value} (h:Blk w g t cs):CLs w g cs [0,1,2,3,4,5,6,7,8,9,10,11,12,13,14,15,16,17,18,19,20,21]:=
 cls_go cs _ fun j v i h1 h2=>by
  have h2:(List.range 22)[j]? =some i:=h2
  rw[List.getElem?_range (by have h3:=(List.getElem?_eq_some_iff.1 h2).1;rwa [List.length_range]at h3)]at h2
  cases h2
  exact h.cell_some h1
def LKs (w:World) (g:Nat):List Value→List Nat→Prop
 |v::vs,i::is=> (∀x:Later w,x.now.cell? ⟨g,i,none⟩=some v)∧LKs w g vs is
 |_,_=>True
theorem lks_go {w:World} {g:Nat} :∀(cs:List Value) (is:List Nat),CLs w g cs is→LKs w g cs is
 | [],_,_=>by unfold LKs;trivial
 |_::_,[],_=>by unfold LKs;trivial
 |v::vs,i::is,h=>by
  unfold CLs at h
  unfold LKs
  exact⟨Later.keep h.1,lks_go vs is h.2⟩
theorem lks {w:World} {g t:Nat} {cs:List Value} (h:Blk w g t cs):LKs w g cs [0,1,2,3,4,5,6,7,8,9,10,11,12,13,14,15,16,17,18,19,20,21]:=lks_go _ _ (cls h)
def FZs (w:World) (g:Nat):List Nat→Prop
 |i::is=>w.frozen? ⟨g,i,none⟩=false∧FZs w g is
 |_=>True
theorem frz_go {w:World} {g t:Nat} {cs:List Value} (h:Blk w g t cs):∀is:List Nat,FZs w g is
 | []=>by unfold FZs;trivial
 |i::is=>by
  unfold FZs
  exact⟨h.frozen i,frz_go h is⟩
theorem frz {w:World} {g t:Nat} {cs:List Value} (h:Blk w g t cs):FZs w g [0,1,2,3,4,5,6,7,8,9,10,11,12,13,14,15,16,17,18,19,20,21]:=frz_go h _
abbrev eC (o:Int) (t n:ByteArray) (x k i:Int) (v:ByteArray) (A:Option Addr) (m c:Nat):List Value:= [.int .i64 o,.string t,.string n,.int .i64 x,.int .i64 k,.int .i64 i,.string v,.slice A m c]
abbrev eZ:List Value:=eC 0 ⟨#[]⟩ ⟨#[]⟩ 0 0 0 ⟨#[]⟩ none 0 0
abbrev sC (k:Int:=0) (t:ByteArray:=⟨#[]⟩) (a b c d v s i f:Value:= .slice none 0 0) (o:Int:=0) (q m:ByteArray:=⟨#[]⟩) (x y z:Int:=0) (u:ByteArray:=⟨#[]⟩) (e g r:Value:= .slice none 0 0) (l:Int:=0) (n:ByteArray:=⟨#[]⟩):List Value:= [.int .i64 k,.string t,a,b,c,d,v,s,i,f,.int .i64 o,.string q,.string m,.int .i64 x,.int .i64 y,.int .i64 z,.string u,e,g,r,.int .i64 l,.string n]
end
structure Nd where
 op:Int
 tb:ByteArray
 nm:ByteArray
 ix:Int
 vk:Int
 vi:Int
 vt:ByteArray
inductive Ex where
 |mk (d:Nd) (ks:List Ex)
def Ex.d:Ex→Nd
 | .mk d _=>d
def Ex.ks:Ex→List Ex
 | .mk _ ks=>ks
mutual
def Ex.size:Ex→Nat
 | .mk _ ks=>1+sizeL ks
def sizeL:List Ex→Nat
 | []=>0
 |e::es=>e.size+sizeL es
end
theorem size_pos (e:Ex):1≤e.size:=by cases e;rw[Ex.size];omega
theorem sizeL_mem {e:Ex} {l:List Ex} (h:e∈l):e.size≤sizeL l:=by
 induction l with
 |nil=>cases h
 |cons a l ih=>
  rw[sizeL]
  rcases List.mem_cons.1 h with rfl|h
  ·omega
  ·have:=ih h;omega
theorem size_kid {e:Ex} {d:Nd} {ks:List Ex} (h:e∈ks):e.size<(Ex.mk d ks).size:=by
 rw[Ex.size];have:=sizeL_mem h;omega
theorem Ex.ind {P:Ex→Prop} (h:∀d ks,(∀e∈ks,P e)→P (.mk d ks)):∀e,P e:=by
 have key:∀n e,e.size≤n→P e:=by
  intro n
  induction n with
  |zero=>intro e he;have:=size_pos e;omega
  |succ n ih=>
   intro e he
   cases e with
   |mk d ks=>exact h d ks fun k hk=>ih k (by have:=size_kid (d:=d) hk;omega)
 exact fun e=>key _ e (Nat.le_refl _)
def Nd.valZ (d:Nd):Bool:=d.vk==0&&d.vi==0&&d.vt.size==0
def isLow (c:Nat):Bool:=decide (97≤c) &&decide (c≤122)
def isNmC (c:Nat):Bool:=isLow c||c==95||decide (48≤c) &&decide (c≤57)
def kwWords:List (List Nat):= [[97,110,100],[97,115],[97,115,99],[98,101,103,105,110],[98,101,116,119,101,101,110],[98,121],[99,104,101,99,107],[99,111,109,109,105,116],[99,111,117,110,116],[99,114,101,97,116,101],[100,101,108,101,116,101],[100,101,115,99],[102,111,114,101,105,103,110],[102,114,111,109],[103,114,111,117,112],[105,110],[105,110,115,101,114,116],[105,110,116,101,103,101,114],[105,110,116,111],[105,115],[106,111,105,110],[107,101,121],[108,101,110,103,116,104],[108,105,107,101],[108,105,109,105,116],[109,97,120],[109,105,110],[110,111,116],[110,117,108,108],[111,110],[111,114],[111,114,100,101,114],[112,114,105,109,97,114,121],[114,101,102,101,114,101,110,99,101,115],[114,101,108,101,97,115,101],[114,111,108,108,98,97,99,107],[115,97,118,101,112,111,105,110,116],[115,101,108,101,99,116],[115,101,116],[115,117,109],[116,97,98,108,101],[116,101,120,116],[116,111],[117,110,105,113,117,101],[117,112,100,97,116,101],[118,97,108,117,101,115],[119,104,101,114,101]]
def fstLow:List Nat→Bool
 | []=>false
 |c::_=>isLow c
def nameL (l:List Nat):Bool:=fstLow l&&l.all isNmC&&decide (l.length≤24) &&!kwWords.contains l
def nameB (s:ByteArray):Bool:=nameL (N s)
def namesB (l:List ByteArray):Bool:=!l.isEmpty&&l.all nameB
def textB (s:ByteArray):Bool:=(N s).all (fun c=>decide (32≤c) &&decide (c≤126)) &&decide (s.size≤16)
def Nd.litB (d:Nd):Bool:=
 if d.vk=0 then d.vi==0&&d.vt.size==0
 else if d.vk=1 then decide (0≤d.vi) &&decide (d.vi≤2147483648) &&d.vt.size==0
 else if d.vk=2 then d.vi==0&&textB d.vt
 else false
def opN (op:Int):Int:=
 if op=1∨op=2 then 0
 else if op=3∨op=9∨op=17∨op=20 then 1
 else if 4≤op∧op≤8∨10≤op∧op≤16∨op=18∨op=19 then 2
 else-1
def ndB (d:Nd) (ks:List Nd):Bool:=
 if d.op=2 then nameB d.nm&& (d.tb.size==0||nameB d.tb) &&d.valZ
 else if d.op=1 then d.tb.size==0&&d.nm.size==0&&d.litB
 else if d.op=16∧((ks.getD 1 d).op≠1∨(ks.getD 1 d).vk≠2)then false
 else d.tb.size==0&&d.nm.size==0&&d.valZ
mutual
def Ex.formed:Ex→Bool
 | .mk d ks=>opN d.op==(ks.length:Int) &&formedL ks&&ndB d (ks.map Ex.d)
def formedL:List Ex→Bool
 | []=>true
 |e::es=>e.formed&&formedL es
end
theorem formedL_all (l:List Ex):formedL l=l.all Ex.formed:=by
 induction l with
 |nil=>rfl
 |cons e l ih=>rw[formedL,ih];rfl
mutual
def Ex.nodes:Ex→Nat
 | .mk d ks=> (if d.op=0 then 0 else 1)+nodesL ks
def nodesL:List Ex→Nat
 | []=>0
 |e::es=>e.nodes+nodesL es
end
theorem nodesL_app (a b:List Ex):nodesL (a++b)=nodesL a+nodesL b:=by
 induction a with
 |nil=>simp[nodesL]
 |cons e a ih=>simp[nodesL,ih];omega
mutual
def Ex.depth:Ex→Nat
 | .mk d ks=> (if d.op=0 then 0 else 1)+depthL ks
def depthL:List Ex→Nat
 | []=>0
 |e::es=>max e.depth (depthL es)
end
theorem depthL_app (a b:List Ex):depthL (a++b)=max (depthL a) (depthL b):=by
 induction a with
 |nil=>simp[depthL]
 |cons e a ih=>rw[List.cons_append,depthL,depthL,ih];omega
theorem depthL_le (l:List Ex):depthL l≤nodesL l∧∀e∈l,e.depth≤e.nodes:=by
 have h:∀e:Ex,e.depth≤e.nodes:=by
  intro e
  induction e using Ex.ind with
  |h d ks ih=>
   have:depthL ks≤nodesL ks:=by
    clear d
    induction ks with
    |nil=>simp[depthL,nodesL]
    |cons a ks ih2=>
     rw[depthL,nodesL]
     have h1:=ih a (by simp)
     have h2:=ih2 fun e he=>ih e (by simp[he])
     omega
   rw[Ex.depth,Ex.nodes];omega
 refine⟨?_,fun e _=>h e⟩
 induction l with
 |nil=>simp[depthL,nodesL]
 |cons a l ih=>rw[depthL,nodesL];have:=h a;omega
mutual
def Ex.cols:Ex→List Ex
 | .mk d ks=> (if d.op=2 then [Ex.mk d ks]else [])++colsL ks
def colsL:List Ex→List Ex
 | []=> []
 |e::es=>e.cols++colsL es
end
def Nd.same (a b:Nd):Bool:=a.op==b.op&&N a.tb==N b.tb&&N a.nm==N b.nm&& (a.vk==b.vk&&a.vi==b.vi&&N a.vt==N b.vt)
mutual
def Ex.same:Ex→Ex→Bool
 | .mk d ks,.mk d' ks'=>d.same d'&&sameL ks ks'
def sameL:List Ex→List Ex→Bool
 | [],[]=>true
 |e::es,e'::es'=>e.same e'&&sameL es es'
 |_,_=>false
end
theorem sameL_iff:∀(a b:List Ex),sameL a b=true↔a.length=b.length∧∀(i:Nat) (x y:Ex),a[i]? =some x→b[i]? =some y→x.same y=true:=by
 intro a
 induction a with
 |nil=>intro b;cases b<;>simp[sameL]
 |cons e a ih=>
  intro b
  cases b with
  |nil=>simp[sameL]
  |cons f b=>
   rw[sameL,Bool.and_eq_true,ih]
   constructor
   ·rintro⟨h1,h2,h3⟩
    refine⟨by simp[h2],fun i x y hx hy=>?_⟩
    cases i with
    |zero=>simp at hx hy;subst hx hy;exact h1
    |succ i=>exact h3 i x y (by simpa using hx) (by simpa using hy)
   ·rintro⟨h2,h3⟩
    exact⟨h3 0 e f rfl rfl,by simpa using h2,fun i x y hx hy=>h3 (i+1) x y (by simpa using hx) (by simpa using hy)⟩
def ndZ:Nd:=⟨0,⟨#[]⟩,⟨#[]⟩,0,0,0,⟨#[]⟩⟩
def exZ:Ex:= .mk ndZ []
def Ex.absent (e:Ex):Bool:=e.d.op==0&&e.d.tb.size==0&&e.d.nm.size==0&&e.d.valZ&&e.ks.isEmpty
theorem N_empty (s:ByteArray):(N s== [])=(s.size==0):=by
 rw[Bool.eq_iff_iff,beq_iff_eq,beq_iff_eq]
 constructor
 ·intro h;rw[←N_len,h];rfl
 ·intro h;exact List.eq_nil_of_length_eq_zero (by rw[N_len];exact h)
theorem N_nil':N ⟨#[]⟩= []:=rfl
theorem same_absent (e:Ex):e.same exZ=e.absent:=by
 cases e with
 |mk d ks=>
  unfold exZ ndZ Ex.absent Nd.valZ Ex.d Ex.ks
  rw[Ex.same,Nd.same]
  simp only[N_nil',N_empty]
  cases ks<;>simp[sameL]
def lvl (op:Int):Int:=
 if op=19 then 1 else if op=18 then 2 else if op=20 then 3 else if op=4∨op=5 then 5 else if 6≤op∧op≤8 then 6 else if op=3 then 7
 else if op=1∨op=2∨op=9 then 8 else 4
theorem same_refl (e:Ex):e.same e=true:=by
 induction e using Ex.ind with
 |h d ks ih=>
  rw[Ex.same,Bool.and_eq_true,sameL_iff]
  refine⟨by simp[Nd.same],rfl,fun i x y hx hy=>?_⟩
  obtain rfl:=Option.some.inj (hx.symm.trans hy)
  exact ih x (List.mem_of_getElem? hx)
structure Cd where
 nm:ByteArray
 ty:Int
 lo:Int
 hi:Int
 mx:Int
 nn:Bool
structure Rf where
 cs:List ByteArray
 tb:ByteArray
 tg:List ByteArray
structure Asg where
 cl:ByteArray
 ix:Int
 ex:Ex
structure Itm where
 ag:Int
 ex:Ex
structure Src where
 tb:ByteArray
 al:ByteArray
structure Ord' where
 it:Int
 ds:Bool
structure St where
 kd:Int
 tb:ByteArray
 cols:List Cd
 keys:List (List ByteArray)
 frs:List Rf
 chk:List Ex
 vals:List (List Ex)
 sets:List Asg
 itms:List Itm
 frm:List Src
 whr:Ex
 grp:List Ex
 ord:List Ord'
 lim:Int
 nm:ByteArray
section
section
variable {P:Program} (w:World)
theorem run_append_pre (B:Nat) (t ty e:TypeId) (i:TypeInfo) (z:Value) (bytes:Nat) (ht:P.underlying t=some (.slice e)) (hi:P.info? e=some i) (hz:i.zero=some z)
  (hs:i.size=1) (hby:i.bytes=bytes) (hzs:z.cells.size=1) (v:Value) (n:Nat) (xs:List Value) (hown:w.ownsRow B e 1 v n xs)
  (a:Addr) (m c:Nat) (news:List Value) (hl:news.length=m) (hnews:∀j u,news[j]? =some u→w.cell? (a.add j)=some u) (h1:∀u∈news,u.oneCell'=true)
  (h63:n+m≤maxLen) (hbytes:(n+m)*bytes≤140737488355328) (hbase:B≤w.heap.size):
  ∃v' w',(Builtin.append_ #[t,t] ty #[v,.slice (some a) m c]).run P w= .ok v' w'∧w'.ownsRow B e 1 v' (n+m) (xs++news)∧w.grownBy w' v.ownBlock∧
   (v'.ownBlock=v.ownBlock∨v'.ownBlock=some w.heap.size)∧w'.ownsRow B e 1 v n xs∧
   (v'.ownBlock=v.ownBlock→∀w2:World,w2.ownsRow B e 1 v' (n+m) (xs++news)→w2.ownsRow B e 1 v n xs):=by
 have hsmall:n+m≤9223372036854775807:=by simp only[maxLen]at h63;omega
 obtain⟨v',w',hrun,ho,hg,_,hat⟩:=run_append_own_at (P:=P) w B t ty e i z 1 bytes ht hi hz hs hby hzs (by omega) v n xs hown a m c news (by omega) hnews h1 h63 hbytes hbase
 refine⟨v',w',hrun,ho,hg,hat,?_⟩
 rcases hown.2 with ⟨rfl,rfl⟩|⟨g,cap,cur,rfl,hbg,hgb,hnc,hcm,hcs,htake⟩
 ·have hx:xs= []:=List.eq_nil_of_length_eq_zero (by simpa using hown.1)
  subst hx
  exact⟨World.ownsRow_nil _ _ _ _,fun _ _ _=>World.ownsRow_nil _ _ _ _⟩
 ·by_cases hroom:n+m≤cap
  ·have hfit:n*i.size+news.length≤cur.size:=by rw[hl,hcs,hs];omega
   have hr:=run_append_room (P:=P) w t ty e i ht hi g n cap cur hgb a m c news (by rw[hs];omega) hnews h1 hroom hfit
   rw[hrun]at hr
   injection hr with e1 e2
   subst e2
   refine⟨⟨hown.1,.inr ⟨g,cap,_,rfl,hbg,setRow_heap w g cur _ e _ hgb,hnc,hcm,?_,?_⟩⟩,?_⟩
   ·rw[hs]at hfit ⊢
    simp only[List.size_toArray,List.length_append,List.length_take,List.length_drop,Array.length_toList]
    omega
   ·rw[hs]
    simp only[List.append_assoc]
    rw[List.take_append_of_le_length (by simp only[List.length_take,Array.length_toList];rw[hs]at hfit;omega),List.take_take,Nat.min_self]
    exact htake
   ·subst e1
    intro _ w2 h2
    rcases h2.2 with ⟨h2,_⟩|⟨g2,cap2,cur2,hv2,hb2,hh2,hn2,hm2,hs2,ht2⟩
    ·cases h2
    ·simp only[Value.slice.injEq,Option.some.injEq,Addr.mk.injEq,and_true,true_and]at hv2
     obtain⟨rfl,rfl⟩:=hv2
     refine⟨hown.1,.inr ⟨g,cap,cur2,rfl,hbg,hh2,hnc,hcm,hs2,?_⟩⟩
     have hx:xs.length=n:=by have:=hown.1;omega
     have:=congrArg (List.take n) ht2
     rw[List.take_take,List.take_append_of_le_length (by omega),List.take_of_length_le (l:=xs) (by omega),show min n ((n+m)*1)=n*1 by omega]at this
     exact this
  ·have holds:∀j u,xs[j]? =some u→w.cell? ((⟨g,0,none⟩:Addr).add j)=some u:=hown.cells (g:=g) rfl
   have hr:=run_append_grow (P:=P) w t ty e i z ht hi hz ⟨g,0,none⟩ n cap xs (by rw[hown.1,hs]) holds a m c news (by rw[hs];omega) hnews (by omega) (by omega) (growslice_fits (by omega) (by rw[hby];exact hbytes))
   rw[hrun]at hr
   injection hr with e1 e2
   subst e2
   have hlt:g<w.heap.size:=(Array.getElem?_eq_some_iff.1 hgb).1
   refine⟨⟨hown.1,.inr ⟨g,cap,cur,rfl,hbg,(Below.heap_alloc w.drew _ g hlt).trans hgb,hnc,hcm,hcs,htake⟩⟩,fun he=>?_⟩
   subst e1
   simp[Value.ownBlock]at he
   omega
theorem wp_append_pre {o:Oper} {a:Act} {K:Act→World→Prop} {Q:Exit→Act→World→Prop} (s x:Operand) (t:TypeId)
  (ho:o.op= .call { callee:= .builtin .append,args:=#[s,x],argTypes:=#[t,t] })
  (B:Nat) (e:TypeId) (i:TypeInfo) (z:Value) (bytes:Nat) (ht:P.underlying t=some (.slice e)) (hi:P.info? e=some i) (hz:i.zero=some z)
  (hsz:i.size=1) (hby:i.bytes=bytes) (hzs:z.cells.size=1) (v:Value) (n:Nat) (xs:List Value) (hs:a.eval s=v) (hown:w.ownsRow B e 1 v n xs)
  (ad:Addr) (m c:Nat) (news:List Value) (hx:a.eval x= .slice (some ad) m c) (hl:news.length=m) (hnews:∀j u,news[j]? =some u→w.cell? (ad.add j)=some u) (h1:∀u∈news,u.oneCell'=true)
  (h63:n+m≤maxLen) (hbytes:(n+m)*bytes≤140737488355328) (hbase:B≤w.heap.size)
  (h:∀v' w',w'.ownsRow B e 1 v' (n+m) (xs++news)→w.grownBy w' v.ownBlock→(v'.ownBlock=v.ownBlock∨v'.ownBlock=some w.heap.size)→w'.ownsRow B e 1 v n xs→(v'.ownBlock=v.ownBlock→∀w2:World,w2.ownsRow B e 1 v' (n+m) (xs++news)→w2.ownsRow B e 1 v n xs)→K (a.put o.dst v') w'):o.wp P a w K Q:=by
 obtain⟨v',w',hr,h2,h3,h4,h5,h6⟩:=run_append_pre (P:=P) w B t o.type e i z bytes ht hi hz hsz hby hzs v n xs hown ad m c news hl hnews h1 h63 hbytes hbase
 unfold Oper.wp execOp
 simp only[ho,resolve,invoke,builtin,Sem.run_bind,Sem.run_pure,Result.andThen_ok,List.map_toArray,List.map_cons,List.map_nil,hs,hx,hr]
 exact h v' w' h2 h3 h4 h5 h6
theorem wpList_app {ops:Array Oper} {rest:List Oper} {o:Oper} {a:Act} {Q:Exit→Act→World→Prop} (hgd:o.guard=none) (s x:Operand) (t:TypeId)
  (ho:o.op= .call { callee:= .builtin .append,args:=#[s,x],argTypes:=#[t,t] })
  (B:Nat) (e:TypeId) (i:TypeInfo) (z:Value) (bytes:Nat) (ht:P.underlying t=some (.slice e)) (hi:P.info? e=some i) (hz:i.zero=some z)
  (hsz:i.size=1) (hby:i.bytes=bytes) (hzs:z.cells.size=1) (v:Value) (n:Nat) (xs:List Value) (hs:a.eval s=v) (hown:w.ownsRow B e 1 v n xs)
  (ad:Addr) (m c:Nat) (news:List Value) (hx:a.eval x= .slice (some ad) m c) (hl:news.length=m) (hnews:∀j u,news[j]? =some u→w.cell? (ad.add j)=some u) (h1:∀u∈news,u.oneCell'=true)
  (h63:n+m≤maxLen) (hbytes:(n+m)*bytes≤140737488355328) (hbase:B≤w.heap.size)
  (h:∀v' w',w'.ownsRow B e 1 v' (n+m) (xs++news)→w.grownBy w' v.ownBlock→(v'.ownBlock=v.ownBlock∨v'.ownBlock=some w.heap.size)→w'.ownsRow B e 1 v n xs→(v'.ownBlock=v.ownBlock→∀w2:World,w2.ownsRow B e 1 v' (n+m) (xs++news)→w2.ownsRow B e 1 v n xs)→wpList P ops Q rest (a.put o.dst v') w'):
  wpList P ops Q (o::rest) a w:=
 wpList_plain hgd fun _ hK=>wp_append_pre w s x t ho B e i z bytes ht hi hz hsz hby hzs v n xs hs hown ad m c news hx hl hnews h1 h63 hbytes hbase fun v' w' h2 h3 h4 h5 h6=>hK _ _ (h v' w' h2 h3 h4 h5 h6)
end
theorem own_ext {w w':World} {B e n:Nat} {v:Value} {xs:List Value} (h:w.ownsRow B e 1 v n xs) (hx:Ext w w'):w'.ownsRow B e 1 v n xs:=by
 obtain⟨h1,h2⟩:=h
 refine⟨h1,?_⟩
 rcases h2 with h2|⟨g,cap,cur,hv,hg,hh,r⟩
 ·exact .inl h2
 ·exact .inr ⟨g,cap,cur,hv,hg,(Below.block hx g (Array.getElem?_eq_some_iff.1 hh).1).trans hh,r⟩
theorem news_new (w:World) (cs:Array Value) (e:TypeId):∀(j:Nat) (u:Value),cs.toList[j]? =some u→(w.alloc (.cells cs e)).cell? ((⟨w.heap.size,0,none⟩:Addr).add j)=some u:=fun j u hu=>by
 have hadd:(⟨w.heap.size,0,none⟩:Addr).add j=⟨w.heap.size,j,none⟩:=by unfold Addr.add;split<;>simp_all
 rw[hadd,World.cell?_alloc_new]
 simpa using hu
theorem own_ge {w:World} {B e sz n g:Nat} {v:Value} {xs:List Value} (h:w.ownsRow B e sz v n xs) (hg:v.ownBlock=some g):B≤g:=by
 rcases h.2 with ⟨rfl,_⟩|⟨g',cap,cur,rfl,hb,_⟩
 ·simp[Value.ownBlock]at hg
 ·simp[Value.ownBlock]at hg;omega
theorem conv_own {P:Program} {w:World} (src dst e B n:Nat) (v:Value) (xs:List Nat) (hs:P.underlying src=some (.slice e)) (he:P.underlying e=some (.int .u8)) (hd:P.underlying dst=some .string)
  (hb:w.ownsRow B e 1 v n (u8s xs)):(convert src dst v).run P w= .ok (.string (S xs)) w:=by
 have hlen:xs.length=n:=by have:=hb.1;simpa[u8s] using this
 rcases hb.2 with ⟨rfl,h0⟩|⟨g,cap,cur,rfl,_,hg,_,_,_,ht⟩
 ·subst h0
  have:xs= []:=List.eq_nil_of_length_eq_zero hlen
  subst this
  exact run_convert_bytes_nil w src e hs he 0 0 dst hd
 ·rw[run_convert_bytes_arg w src e hs he g 0 n cap (xs.map fun (x:Nat)=> (x:Int)) (by simp[hlen]) (fun i hi=>?_) dst hd,strOf_S]
  have hi2:i<xs.length:=by omega
  have h1:(u8s xs)[i]? =cur[i]? :=by
   rw[←ht,List.getElem?_take,if_pos (by omega),Array.getElem?_toList]
  simp only[World.cell?,hg,Nat.zero_add]
  rw[show(none:Option Nat).isSome=false from rfl]
  simp only[Bool.false_eq_true,if_false]
  rw[←h1,u8s_get xs i hi2]
  simp[at0,List.getElem?_eq_getElem hi2]
def SetMap (w:World) (P:Program) (k e:TypeId) (M:Nat) (n:Nat) (mem:List UInt8→Bool):Prop:=
 ∃D:DataW Unit,w.ownsMap P k (plainElem P e) M n D∧Maps.IsMap D∧∀s,D.atKey (.string s) (.lit (.bool false))= .lit (.bool (mem s))
section
variable {P:Program} {w w':World} {k e M n:Nat} {mem:List UInt8→Bool}
theorem SetMap.lt (h:SetMap w P k e M n mem):M<w.heap.size:=by
 obtain⟨D,h,_⟩:=h
 exact h.lt
theorem SetMap.kept (h:SetMap w P k e M n mem) {row:Option Nat} (hg:w.grownBy w' row) (hne:some M≠row):SetMap w' P k e M n mem:=by
 obtain⟨D,h,h2⟩:=h
 exact⟨D,h.kept hg hne,h2⟩
theorem SetMap.ext (h:SetMap w P k e M n mem) (hx:Ext w w'):SetMap w' P k e M n mem:=
 h.kept (row:=none) ⟨Below.os hx,Below.tape hx,Below.output hx,Below.size hx,fun i hi _=>Below.block hx i hi⟩ (by simp)
theorem SetMap.far (h:SetMap w P k e M n mem) {p:Addr} (hp:M≠p.block) (u:Value):SetMap (w.setCell p u) P k e M n mem:=
 h.kept (row:=some p.block) ⟨rfl,rfl,rfl,by simp[World.setCell],fun i _ hi=>Below.heap_setCell w p u i (fun e=>hi (by rw[e]))⟩ (by simpa using hp)
theorem SetMap.add (h:SetMap w P k e M n mem) {t:TypeId} (hk:P.underlying k=some .string) (ht:P.underlying t=some (.map k e)) (he:P.underlying e=some .bool) (hn:n<maxLen)
  (s:ByteArray) (hs:s.size≤maxLen):∃w',(Instr.mapUpdate t (.map (some M)) (.string s) (.bool true)).run P w= .ok () w'∧SetMap w' P k e M (n+1) (fun x=>x==s.data.toList||mem x)∧w.grownBy w' (some M):=by
 obtain⟨D,h,hI,hD⟩:=h
 obtain⟨w',hrun,h',hg⟩:=h.update (Maps.string_keyed hk) ht hn (WideMaps.keyOf_string_mk hk hs) (plainElem_bool he true)
 refine⟨w',hrun,⟨_,h',hI.put _ _,fun x=>?_⟩,hg⟩
 by_cases hx:x=s.data.toList
 ·subst hx
  rw[Maps.atKey_put_same hI (by simp[WideAt.IsKeyLit])]
  simp
 ·rw[Maps.atKey_put_other (by simpa using hx),hD]
  simp[hx]
end
end
section
theorem block_of_add (a:Addr) (n:Nat):(a.add n).block=a.block:=by unfold Addr.add;split<;>rfl
def Reads (w:World) (B size:Nat) (A:Option Addr) (n:Nat) (xs:List Value):Prop:=
 xs.length=n*size∧(0<n→∃ad,A=some ad∧ad.block<B∧∀j u,xs[j]? =some u→w.cell? (ad.add j)=some u)
section
variable {w w':World} {B B' size n:Nat} {A:Option Addr} {xs:List Value}
theorem Reads.at_ {k:Nat} (h:Reads w B 1 A n xs) (hk:k<n):∃ad u,A=some ad∧ad.block<B∧xs[k]? =some u∧w.cell? (ad.add k)=some u:=by
 obtain⟨ad,e,hb,hc⟩:=h.2 (by omega)
 have hl:k<xs.length:=by have:=h.1;omega
 exact⟨ad,xs[k],e,hb,List.getElem?_eq_getElem hl,hc k _ (List.getElem?_eq_getElem hl)⟩
theorem Reads.keep (h:Reads w B size A n xs) (hk:∀p:Addr,p.block<B→w'.cell? p=w.cell? p):Reads w' B size A n xs:=
 ⟨h.1,fun hn=>by
  obtain⟨ad,e,hb,hc⟩:=h.2 hn
  exact⟨ad,e,hb,fun j u hu=> (hk _ (by rw[block_of_add];exact hb)).trans (hc j u hu)⟩⟩
theorem Reads.below (h:Reads w B size A n xs) (hb:Below B w w'):Reads w' B size A n xs:=h.keep fun _ hp=>hb.cell hp
theorem Reads.drew (h:Reads w B size A n xs):Reads w.drew B size A n xs:=h
theorem Reads.drewN (h:Reads w B size A n xs) (k:Nat):Reads (w.drewN k) B size A n xs:=h
theorem Reads.alloc (h:Reads w B size A n xs) (hB:B≤w.heap.size) (o:Obj):Reads (w.alloc o) B size A n xs:=h.keep fun p hp=>World.cell?_alloc_lt w o p (by omega)
theorem Reads.setCell (h:Reads w B size A n xs) {p:Addr} (hB:B≤p.block) (u:Value):Reads (w.setCell p u) B size A n xs:=
 h.keep fun q hq=>World.cell?_setCell_other w p q u (fun e=>by subst e;omega)
theorem Reads.grown (h:Reads w B size A n xs) {row:Option Nat} (hg:w.grownBy w' row) (hB:B≤w.heap.size) (hr:∀g,row=some g→B≤g):Reads w' B size A n xs:=
 h.keep fun p hp=>World.cell?_of_block (hg.block p.block (by omega) (fun e=>by have:=hr _ e.symm;omega))
end
section
variable {P:Program} (w:World)
theorem run_append_of_nil (base:Nat) (t ty e:TypeId) (i:TypeInfo) (size:Nat) (ht:P.underlying t=some (.slice e)) (hi:P.info? e=some i)
  (v:Value) (n:Nat) (xs:List Value) (hown:w.ownsRow base e size v n xs) (c:Nat):(Builtin.append_ #[t,t] ty #[v,.slice none 0 c]).run P w= .ok v w:=by
 rcases hown.2 with ⟨rfl,rfl⟩|⟨g,cap,cur,rfl,_,_,hnc,_⟩
 ·simp[Builtin.append_,run_underlying ht,sizeOf,typeInfo,hi,Builtin.lenOf,Builtin.firstCells]
 ·simp[Builtin.append_,run_underlying ht,sizeOf,typeInfo,hi,Builtin.lenOf,Builtin.firstCells,hnc,storeCells]
theorem run_append_any (base:Nat) (t ty e:TypeId) (i:TypeInfo) (z:Value) (size bytes:Nat) (ht:P.underlying t=some (.slice e)) (hi:P.info? e=some i) (hz:i.zero=some z)
  (hsize:i.size=size) (hby:i.bytes=bytes) (hzs:z.cells.size=size) (hsz:0<size)
  (v:Value) (n:Nat) (xs:List Value) (hown:w.ownsRow base e size v n xs)
  (B:Nat) (A:Option Addr) (m c:Nat) (news:List Value) (hr:Reads w B size A m news) (h1:∀u∈news,u.oneCell'=true)
  (h63:n+m≤maxLen) (hbytes:(n+m)*bytes≤140737488355328) (hbase:base≤w.heap.size):
  ∃v' w',(Builtin.append_ #[t,t] ty #[v,.slice A m c]).run P w= .ok v' w'∧w'.ownsRow base e size v' (n+m) (xs++news)∧w.grownBy w' v.ownBlock∧
   (v'.ownBlock=v.ownBlock∨v'.ownBlock=some w.heap.size):=by
 rcases A with _|ad
 ·have hm:m=0:=by
   rcases Nat.eq_zero_or_pos m with h0|h0
   ·exact h0
   ·obtain⟨ad,h,_⟩:=hr.2 h0
    cases h
  subst hm
  have hn:news= []:=List.eq_nil_of_length_eq_zero (by simpa using hr.1)
  subst hn
  exact⟨v,w,run_append_of_nil w base t ty e i size ht hi v n xs hown c,by simpa using hown,World.grownBy.refl w _,.inl rfl⟩
 ·have hcells:∀j u,news[j]? =some u→w.cell? (ad.add j)=some u:=by
   intro j u hu
   rcases Nat.eq_zero_or_pos m with h0|h0
   ·subst h0
    have hn:news= []:=List.eq_nil_of_length_eq_zero (by simpa using hr.1)
    subst hn
    simp at hu
   ·obtain⟨ad',h,_,hc⟩:=hr.2 h0
    injection h with h
    subst h
    exact hc j u hu
  obtain⟨v',w',hrun,h2,h3,_,h5⟩:=run_append_own_at (P:=P) w base t ty e i z size bytes ht hi hz hsize hby hzs hsz v n xs hown ad m c news hr.1 hcells h1 h63 hbytes hbase
  exact⟨v',w',hrun,h2,h3,h5⟩
theorem wp_append_any {o:Oper} {a:Act} {K:Act→World→Prop} {Q:Exit→Act→World→Prop} (s x:Operand) (t:TypeId)
  (ho:o.op= .call { callee:= .builtin .append,args:=#[s,x],argTypes:=#[t,t] })
  (base:Nat) (e:TypeId) (i:TypeInfo) (z:Value) (size bytes:Nat) (ht:P.underlying t=some (.slice e)) (hi:P.info? e=some i) (hz:i.zero=some z)
  (hsize:i.size=size) (hby:i.bytes=bytes) (hzs:z.cells.size=size) (hsz:0<size)
  (v:Value) (n:Nat) (xs:List Value) (hs:a.eval s=v) (hown:w.ownsRow base e size v n xs)
  (B:Nat) (A:Option Addr) (m c:Nat) (news:List Value) (hx:a.eval x= .slice A m c) (hr:Reads w B size A m news) (h1:∀u∈news,u.oneCell'=true)
  (h63:n+m≤maxLen) (hbytes:(n+m)*bytes≤140737488355328) (hbase:base≤w.heap.size)
  (h:∀v' w',w'.ownsRow base e size v' (n+m) (xs++news)→w.grownBy w' v.ownBlock→(v'.ownBlock=v.ownBlock∨v'.ownBlock=some w.heap.size)→K (a.put o.dst v') w'):o.wp P a w K Q:=by
 obtain⟨v',w',hrun,h2,h3,h4⟩:=run_append_any (P:=P) w base t o.type e i z size bytes ht hi hz hsize hby hzs hsz v n xs hown B A m c news hr h1 h63 hbytes hbase
 unfold Oper.wp execOp
 simp only[ho,resolve,invoke,builtin,Sem.run_bind,Sem.run_pure,Result.andThen_ok,List.map_toArray,List.map_cons,List.map_nil,hs,hx,hrun]
 exact h v' w' h2 h3 h4
theorem wpList_append_any {ops:Array Oper} {rest:List Oper} {o:Oper} {a:Act} {Q:Exit→Act→World→Prop} (hgd:o.guard=none) (s x:Operand) (t:TypeId)
  (ho:o.op= .call { callee:= .builtin .append,args:=#[s,x],argTypes:=#[t,t] })
  (base:Nat) (e:TypeId) (i:TypeInfo) (z:Value) (size bytes:Nat) (ht:P.underlying t=some (.slice e)) (hi:P.info? e=some i) (hz:i.zero=some z)
  (hsize:i.size=size) (hby:i.bytes=bytes) (hzs:z.cells.size=size) (hsz:0<size)
  (v:Value) (n:Nat) (xs:List Value) (hs:a.eval s=v) (hown:w.ownsRow base e size v n xs)
  (B:Nat) (A:Option Addr) (m c:Nat) (news:List Value) (hx:a.eval x= .slice A m c) (hr:Reads w B size A m news) (h1:∀u∈news,u.oneCell'=true)
  (h63:n+m≤maxLen) (hbytes:(n+m)*bytes≤140737488355328) (hbase:base≤w.heap.size)
  (h:∀v' w',w'.ownsRow base e size v' (n+m) (xs++news)→w.grownBy w' v.ownBlock→(v'.ownBlock=v.ownBlock∨v'.ownBlock=some w.heap.size)→wpList P ops Q rest (a.put o.dst v') w'):wpList P ops Q (o::rest) a w:=
 wpList_plain hgd fun _ hK=>wp_append_any w s x t ho base e i z size bytes ht hi hz hsize hby hzs hsz v n xs hs hown B A m c news hx hr h1 h63 hbytes hbase fun v' w' h2 h3 h4=>hK _ _ (h v' w' h2 h3 h4)
theorem step_append_any {ops:Array Oper} {o:Oper} {a:Act} {K:Act→World→Prop} {Q:Exit→Act→World→Prop} {E:Prop} (hgd:o.guard=none) (s x:Operand) (t:TypeId)
  (ho:o.op= .call { callee:= .builtin .append,args:=#[s,x],argTypes:=#[t,t] })
  (base:Nat) (e:TypeId) (i:TypeInfo) (z:Value) (size bytes:Nat) (ht:P.underlying t=some (.slice e)) (hi:P.info? e=some i) (hz:i.zero=some z)
  (hsize:i.size=size) (hby:i.bytes=bytes) (hzs:z.cells.size=size) (hsz:0<size)
  (v:Value) (n:Nat) (xs:List Value) (hs:a.eval s=v) (hown:w.ownsRow base e size v n xs)
  (B:Nat) (A:Option Addr) (m c:Nat) (news:List Value) (hx:a.eval x= .slice A m c) (hr:Reads w B size A m news) (h1:∀u∈news,u.oneCell'=true)
  (h63:n+m≤maxLen) (hbytes:(n+m)*bytes≤140737488355328) (hbase:base≤w.heap.size)
  (h:∀v' w',w'.ownsRow base e size v' (n+m) (xs++news)→w.grownBy w' v.ownBlock→(v'.ownBlock=v.ownBlock∨v'.ownBlock=some w.heap.size)→K (a.put o.dst v') w'):
  if Region.wanted o (yielded ops a.tmps)=true then Oper.wp P o a w K Q else E:=by
 have hw:Region.wanted o (yielded ops a.tmps)=true:=by simp[Region.wanted,hgd]
 rw[if_pos hw]
 exact wp_append_any w s x t ho base e i z size bytes ht hi hz hsize hby hzs hsz v n xs hs hown B A m c news hx hr h1 h63 hbytes hbase h
end
section
variable {P:Program} (w:World)
theorem run_append_make (t k ty e:TypeId) (i:TypeInfo) (z:Value) (ht:P.underlying t=some (.slice e)) (hk:P.underlying k=some (.int .i64)) (hi:P.info? e=some i) (hz:i.zero=some z)
  (n:Nat) (h0:0<n) (h63:(n:Int)≤9223372036854775807) (hfit:n*i.bytes≤281474976710656):
  (Builtin.append_ #[t,k] ty #[.slice none 0 0,.int .i64 n]).run P w=
   .ok (.slice (some ⟨w.heap.size,0,none⟩) n (grownCap w n 0 e))
    (w.drew.alloc (.cells ((if n*i.size=0 then #[]else Builtin.zeroCells z.cells n)++Builtin.zeroCells z.cells (grownCap w n 0 e-n)) e)):=by
 have hn:n≠0:=by omega
 have ha:∀W:World,(asInt (.int .i64 (n:Int))).run P W= .ok (n:Int) W:=fun _=>rfl
 have hw:IntKind.i64.wrap (n:Int)=n:=IntWalk.i64_in _ (by omega)
 have hl:¬((n:Int)<0):=by omega
 have hfi:¬((281474976710656:Int)<(n:Int)* (i.bytes:Int)):=by
  have:((n:Int)* (i.bytes:Int))=((n*i.bytes:Nat):Int):=by simp
  omega
 have h63':¬(9223372036854775807<(n:Int)):=by omega
 have h48':¬(281474976710656<Builtin.nextslicecap n 0*i.bytes):=by rw[nextslicecap_zero h0];omega
 by_cases hz0:n*i.size=0
 ·simp[Builtin.append_,run_underlying ht,run_underlying hk,sizeOf,typeInfo,zeroValue,hi,hz,Builtin.lenOf,Builtin.firstCells,ha,hn,hw,hl,hfi,h63',h48',Question.forced,newRow,grownCap,hz0]
 ·simp[Builtin.append_,run_underlying ht,run_underlying hk,sizeOf,typeInfo,zeroValue,hi,hz,Builtin.lenOf,Builtin.firstCells,ha,hn,hw,hl,hfi,h63',h48',Question.forced,newRow,grownCap,hz0]
theorem wpList_append_make {ops:Array Oper} {rest:List Oper} {o:Oper} {a:Act} {Q:Exit→Act→World→Prop} (hgd:o.guard=none) (s x:Operand) (t k:TypeId)
  (ho:o.op= .call { callee:= .builtin .append,args:=#[s,x],argTypes:=#[t,k] })
  (e:TypeId) (i:TypeInfo) (z:Value) (ht:P.underlying t=some (.slice e)) (hk:P.underlying k=some (.int .i64)) (hi:P.info? e=some i) (hz:i.zero=some z)
  (n:Nat) (hs:a.eval s= .slice none 0 0) (hx:a.eval x= .int .i64 (n:Int)) (h0:0<n) (h63:(n:Int)≤9223372036854775807) (hfit:n*i.bytes≤281474976710656)
  (h:wpList P ops Q rest (a.put o.dst (.slice (some ⟨w.heap.size,0,none⟩) n (grownCap w n 0 e))) (w.drew.alloc (.cells ((if n*i.size=0 then #[]else Builtin.zeroCells z.cells n)++Builtin.zeroCells z.cells (grownCap w n 0 e-n)) e))):
  wpList P ops Q (o::rest) a w:=by
 refine wpList_plain hgd fun _ hK=>?_
 unfold Oper.wp execOp
 simp only[ho,resolve,invoke,builtin,Sem.run_bind,Sem.run_pure,Result.andThen_ok,List.map_toArray,List.map_cons,List.map_nil,hs,hx,run_append_make w t k o.type e i z ht hk hi hz n h0 h63 hfit]
 exact hK _ _ h
end
end
def quo:List UInt8→List UInt8
 | []=> []
 |c::r=>if c=39 then 39::39::quo r else c::quo r
theorem quo_app:∀a b:List UInt8,quo (a++b)=quo a++quo b
 | [],_=>rfl
 |c::r,b=>by
  rw[List.cons_append,quo,quo]
  split<;>simp[quo_app r b]
theorem quo_len:∀a:List UInt8,(quo a).length≤2*a.length
 | []=>Nat.le_refl _
 |c::r=>by
  have:=quo_len r
  rw[quo]
  split<;>simp<;>omega
theorem quo_none:∀s:List UInt8,Lib.indexByte s 39= -1→quo s=s
 | [],_=>rfl
 |b::l,h=>by
  rw[Lib.indexByte]at h
  have hg:=Lib.indexByte_ge l 39
  by_cases hb:b=39
  ·subst hb;simp at h
  ·have e:(b==39)=false:=by simpa using hb
   rw[e]at h
   simp only[Bool.false_eq_true,if_false]at h
   by_cases hl:Lib.indexByte l 39= -1
   ·rw[quo,if_neg hb,quo_none l hl]
   ·have e2:(Lib.indexByte l 39== -1)=false:=by simpa using hl
    rw[e2]at h
    simp only[Bool.false_eq_true,if_false]at h
    omega
theorem quo_some:∀(s:List UInt8) (i:Nat),Lib.indexByte s 39=i→quo s=s.take i++ [39,39]++quo (s.drop (i+1))
 | [],i,h=>by unfold Lib.indexByte at h;omega
 |b::l,i,h=>by
  rw[Lib.indexByte]at h
  have hg:=Lib.indexByte_ge l 39
  by_cases hb:b=39
  ·subst hb
   simp at h
   obtain rfl:i=0:=by omega
   simp[quo]
  ·have e:(b==39)=false:=by simpa using hb
   rw[e]at h
   simp only[Bool.false_eq_true,if_false]at h
   by_cases hl:Lib.indexByte l 39= -1
   ·rw[hl]at h;simp at h;try omega
   ·have e2:(Lib.indexByte l 39== -1)=false:=by simpa using hl
    rw[e2]at h
    simp only[Bool.false_eq_true,if_false]at h
    obtain⟨j,rfl⟩:∃j,i=j+1:=⟨i-1,by omega⟩
    rw[quo,if_neg hb,quo_some l j (by omega)]
    simp
theorem repK_quo:∀(n:Nat) (s:List UInt8),s.length≤n→Lib.replaceK [39] [39,39] (Lib.count s [39]) s=quo s
 |0,s,h=>by
  have:s= []:=List.eq_nil_of_length_eq_zero (by omega)
  subst this
  rfl
 |n+1,s,h=>by
  have hg:=Lib.indexByte_ge s 39
  by_cases hi:Lib.indexByte s 39= -1
  ·rw[Lib.count_miss (by rw[Lib.index_one];exact hi),quo_none s hi]
   rfl
  ·obtain⟨i,hi⟩:∃i:Nat,Lib.indexByte s 39=i:=⟨(Lib.indexByte s 39).toNat,by omega⟩
   have hidx:Lib.index s [39]=i:=by rw[Lib.index_one];exact hi
   rw[Lib.count_hit (by simp) hidx,Nat.add_comm 1,Lib.replaceK_hit _ _ _ _ i hidx,quo_some s i hi]
   rw[List.length_singleton]
   by_cases hs:s= []
   ·subst hs;unfold Lib.indexByte at hi;omega
   ·have hp:0<s.length:=List.length_pos_iff.2 hs
    rw[repK_quo n (s.drop (i+1)) (by rw[List.length_drop];omega)]
theorem repAll_quo (s:List UInt8):Lib.replaceAll s [39] [39,39]=quo s:=by
 unfold Lib.replaceAll Lib.replace
 rw[if_neg (by decide)]
 have:Lib.replaceNum s [39] (-1)=Lib.count s [39]:=by unfold Lib.replaceNum;rw[if_pos (.inl (by decide))]
 rw[this]
 exact repK_quo _ s (Nat.le_refl _)
def itoB (n:Int):ByteArray:=⟨(Lib.itoa n).toArray⟩
theorem itoB_size (n:Int) (h0: -9223372036854775808≤n) (h1:n≤9223372036854775807):(itoB n).size≤21:=by
 have:=Lib.itoa_length_le n h0 h1
 show((Lib.itoa n).toArray).size≤21
 simpa using this
def quoB (t:ByteArray):ByteArray:=⟨(quo t.data.toList).toArray⟩
theorem quoB_size (t:ByteArray):(quoB t).size≤2*t.size:=by
 have:=quo_len t.data.toList
 show((quo t.data.toList).toArray).size≤2*t.data.size
 simpa using this
def sgn (op:Int):ByteArray:=
 if op=4 then ⟨#[43]⟩else if op=5 then ⟨#[45]⟩else if op=6 then ⟨#[42]⟩else if op=7 then ⟨#[47]⟩else if op=8 then ⟨#[37]⟩
 else if op=10 then ⟨#[61]⟩else if op=11 then ⟨#[60,62]⟩else if op=12 then ⟨#[60]⟩else if op=13 then ⟨#[60,61]⟩else if op=14 then ⟨#[62]⟩else if op=15 then ⟨#[62,61]⟩
 else if op=16 then ⟨#[76,73,75,69]⟩else if op=18 then ⟨#[65,78,68]⟩else if op=19 then ⟨#[79,82]⟩else ⟨#[]⟩
theorem ite_size (p:Prop) [Decidable p] (a b:ByteArray) (n:Nat) (ha:a.size≤n) (hb:b.size≤n):(if p then a else b).size≤n:=by
 by_cases h:p
 ·rw[if_pos h];exact ha
 ·rw[if_neg h];exact hb
theorem sgn_size (op:Int):(sgn op).size≤4:=by
 unfold sgn
 refine ite_size _ _ _ _ (show 1≤4 by omega) (ite_size _ _ _ _ (show 1≤4 by omega) (ite_size _ _ _ _ (show 1≤4 by omega) (ite_size _ _ _ _ (show 1≤4 by omega) (ite_size _ _ _ _ (show 1≤4 by omega)
  (ite_size _ _ _ _ (show 1≤4 by omega) (ite_size _ _ _ _ (show 2≤4 by omega) (ite_size _ _ _ _ (show 1≤4 by omega) (ite_size _ _ _ _ (show 2≤4 by omega) (ite_size _ _ _ _ (show 1≤4 by omega) (ite_size _ _ _ _ (show 2≤4 by omega)
  (ite_size _ _ _ _ (show 4≤4 by omega) (ite_size _ _ _ _ (show 3≤4 by omega) (ite_size _ _ _ _ (show 2≤4 by omega) (show 0≤4 by omega))))))))))))))
def brk (op:Int) (s:ByteArray) (r:Int):ByteArray:=if lvl op<r then ⟨#[40]⟩++s++⟨#[41]⟩else s
theorem brk_size (op:Int) (s:ByteArray) (r:Int):(brk op s r).size≤s.size+2:=by
 unfold brk
 split
 ·rw[ByteArray.size_append,ByteArray.size_append]
  show 1+s.size+1≤_
  omega
 ·omega
def plD (d:Nd) (xs:List (Int×ByteArray)):ByteArray:=
 let x:=xs.getD 0 (0,⟨#[]⟩)
 let y:=xs.getD 1 (0,⟨#[]⟩)
 if d.op=1 then (if d.vk=1 then itoB d.vi else if d.vk=2 then ⟨#[39]⟩++quoB d.vt++⟨#[39]⟩else ⟨#[78,85,76,76]⟩)
 else if d.op=2 then (if d.tb.size=0 then d.nm else d.tb++⟨#[46]⟩++d.nm)
 else if d.op=3 then ⟨#[45]⟩++brk x.1 x.2 8
 else if d.op=9 then ⟨#[76,69,78,71,84,72,40]⟩++brk x.1 x.2 1++⟨#[41]⟩
 else if d.op=17 then brk x.1 x.2 5++⟨#[32,73,83,32,78,85,76,76]⟩
 else if d.op=20 then ⟨#[78,79,84,32]⟩++brk x.1 x.2 3
 else brk x.1 x.2 (if lvl d.op=4 then 5 else lvl d.op)++⟨#[32]⟩++sgn d.op++⟨#[32]⟩++brk y.1 y.2 (lvl d.op+1)
mutual
def Ex.pl:Ex→ByteArray
 | .mk d ks=>plD d (plL ks)
def plL:List Ex→List (Int×ByteArray)
 | []=> []
 |e::es=> (e.d.op,e.pl)::plL es
end
def Ex.tx (e:Ex) (r:Int):ByteArray:=brk e.d.op e.pl r
theorem plL_eq (l:List Ex):plL l=l.map fun e=> (e.d.op,e.pl):=by
 induction l with
 |nil=>rfl
 |cons e l ih=>rw[plL,ih];rfl
theorem nameB_size {s:ByteArray} (h:nameB s=true):s.size≤24:=by
 unfold nameB nameL at h
 simp only[Bool.and_eq_true,decide_eq_true_eq,N_len]at h
 omega
theorem litB_size {d:Nd} (h:d.litB=true):d.vt.size≤16∧(d.vk=1→0≤d.vi∧d.vi≤2147483648)∧(d.vk=0∨d.vk=1∨d.vk=2):=by
 unfold Nd.litB textB at h
 split at h
 ·simp only[Bool.and_eq_true,beq_iff_eq]at h;omega
 ·split at h
  ·simp only[Bool.and_eq_true,beq_iff_eq,decide_eq_true_eq]at h;omega
  ·split at h
   ·simp only[Bool.and_eq_true,beq_iff_eq,decide_eq_true_eq]at h;omega
   ·cases h
theorem formed_parts {d:Nd} {ks:List Ex} (h:(Ex.mk d ks).formed=true):opN d.op=(ks.length:Int)∧(∀k∈ks,k.formed=true)∧ndB d (ks.map Ex.d)=true:=by
 rw[Ex.formed,formedL_all]at h
 simpa[and_assoc] using h
theorem opN_cases (op:Int):(opN op=0∧(op=1∨op=2))∨(opN op=1∧(op=3∨op=9∨op=17∨op=20))∨(opN op=2∧(4≤op∧op≤8∨10≤op∧op≤16∨op=18∨op=19))∨opN op= -1:=by
 unfold opN
 split
 ·omega
 ·split
  ·omega
  ·split<;>omega
theorem pl_size:∀e:Ex,e.formed=true→e.pl.size+2≤60*e.size:=by
 intro e
 induction e using Ex.ind with
 |h d ks ih=>
  intro hf
  obtain⟨h1,h2,h3⟩:=formed_parts hf
  rw[Ex.pl,plL_eq,Ex.size]
  rcases opN_cases d.op with ⟨h0,h4⟩|⟨h0,h4⟩|⟨h0,h4⟩|h0
  ·rcases h4 with h4|h4
   ·unfold ndB at h3
    rw[if_neg (by omega),if_pos h4]at h3
    simp only[Bool.and_eq_true]at h3
    have hl:=litB_size h3.2
    unfold plD
    simp only[h4,if_true]
    split
    ·have:=itoB_size d.vi (by omega) (by omega)
     omega
    ·split
     ·have:=quoB_size d.vt
      rw[ByteArray.size_append,ByteArray.size_append]
      show 1+_+1+2≤_
      omega
     ·show 4+2≤_;omega
   ·unfold ndB at h3
    rw[if_pos h4]at h3
    simp only[Bool.and_eq_true,Bool.or_eq_true,beq_iff_eq]at h3
    have hn:=nameB_size h3.1.1
    have ht:d.tb.size≤24:=by
     rcases h3.1.2 with h|h
     ·omega
     ·exact nameB_size h
    unfold plD
    rw[if_neg (by omega),if_pos h4]
    split
    ·omega
    ·rw[ByteArray.size_append,ByteArray.size_append]
     show _+1+_+2≤_
     omega
  ·obtain⟨a,rfl⟩:∃a,ks= [a]:=by
    have:ks.length=1:=by omega
    exact List.length_eq_one_iff.1 this
   have ha:=ih a (by simp) (h2 a (by simp))
   simp only[sizeL,List.map_cons,List.map_nil]
   unfold plD
   simp only[List.getD_cons_zero]
   have hb:=fun r=>brk_size a.d.op a.pl r
   rcases h4 with h4|h4|h4|h4
   all_goals
    simp only[h4]
    have h5:=hb 8
    have h6:=hb 1
    have h7:=hb 5
    have h8:=hb 3
    simp(decide:=true) only[if_false,if_true]
    first
    |(rw[ByteArray.size_append,ByteArray.size_append];show 7+_+1+2≤_;omega)
    |(rw[ByteArray.size_append];show 1+_+2≤_;omega)
    |(rw[ByteArray.size_append];show 4+_+2≤_;omega)
    |(rw[ByteArray.size_append];show _+8+2≤_;omega)
  ·obtain⟨a,b,rfl⟩:∃a b,ks= [a,b]:=by
    have:ks.length=2:=by omega
    match ks,this with
    | [a,b],_=>exact⟨a,b,rfl⟩
   have ha:=ih a (by simp) (h2 a (by simp))
   have hb:=ih b (by simp) (h2 b (by simp))
   simp only[sizeL,List.map_cons,List.map_nil]
   unfold plD
   rw[if_neg (by omega),if_neg (by omega),if_neg (by omega),if_neg (by omega),if_neg (by omega),if_neg (by omega)]
   simp only[ByteArray.size_append]
   have h5:=brk_size a.d.op a.pl (if lvl d.op=4 then 5 else lvl d.op)
   have h6:=brk_size b.d.op b.pl (lvl d.op+1)
   have h7:=sgn_size d.op
   show _+1+_+1+_+2≤_
   simp only[List.getD_cons_zero,List.getD_cons_succ]
   omega
  ·omega
theorem formed_op {d:Nd} {ks:List Ex} (h:(Ex.mk d ks).formed=true):d.op≠0:=by
 intro h0
 obtain⟨h1,_⟩:=formed_parts h
 rw[h0]at h1
 unfold opN at h1
 simp at h1
theorem formed_nodes:∀e:Ex,e.formed=true→e.nodes=e.size:=by
 intro e
 induction e using Ex.ind with
 |h d ks ih=>
  intro hf
  have h0:=formed_op hf
  obtain⟨h1,h2,h3⟩:=formed_parts hf
  have:nodesL ks=sizeL ks:=by
   clear h0 h1 h3 hf
   induction ks with
   |nil=>rfl
   |cons a ks ih2=>rw[nodesL,sizeL,ih a (by simp) (h2 a (by simp)),ih2 (fun e he=>ih e (by simp[he])) (fun e he=>h2 e (by simp[he]))]
  rw[Ex.nodes,Ex.size,this,if_neg h0]
theorem tx_size (e:Ex) (r:Int) (h:e.formed=true):(e.tx r).size≤60*e.size:=by
 have h1:=brk_size e.d.op e.pl r
 have h2:=pl_size e h
 unfold Ex.tx
 omega
def Nd.val (d:Nd) (A:Option Addr) (n c:Nat):Value:=
 .agg #[.int .i64 d.op,.string d.tb,.string d.nm,.int .i64 d.ix,.int .i64 d.vk,.int .i64 d.vi,.string d.vt,.slice A n c]
def Nd.cells (d:Nd) (A:Option Addr) (n c:Nat):List Value:=
 (eC d.op d.tb d.nm d.ix d.vk d.vi d.vt A n c)
def I64 (n:Int):Prop:= -9223372036854775808≤n∧n≤9223372036854775807
structure Nd.fit (d:Nd):Prop where
 op:I64 d.op
 ix:I64 d.ix
 vk:I64 d.vk
 vi:I64 d.vi
 tb:d.tb.size≤9223372036854775807
 nm:d.nm.size≤9223372036854775807
 vt:d.vt.size≤9223372036854775807
def CellsAt (w:World) (A:Option Addr) (o:Nat) (cs:List Value):Prop:=
 ∃b off,A=some ⟨b,off,none⟩∧∀(j:Nat) (v:Value),cs[j]? =some v→w.cell? ⟨b,off+o+j,none⟩=some v
theorem CellsAt.ext {w w':World} {A:Option Addr} {o:Nat} {cs:List Value} (h:CellsAt w A o cs) (hx:Ext w w'):CellsAt w' A o cs:=by
 obtain⟨b,off,hA,h⟩:=h
 exact⟨b,off,hA,fun j v hv=>hx.keep (h j v hv)⟩
mutual
def ExC (w:World):Ex→List Value→Prop
 | .mk d ks,cs=>d.fit∧ks.length≤9223372036854775807∧∃A c,cs=d.cells A ks.length c∧ExsAt w ks A 0
def ExsAt (w:World):List Ex→Option Addr→Nat→Prop
 | [],_,_=>True
 |e::es,A,i=> (∃cs,CellsAt w A (i*8) cs∧ExC w e cs)∧ExsAt w es A (i+1)
end
theorem exsAt_iff (w:World) (A:Option Addr):∀(l:List Ex) (i:Nat),ExsAt w l A i↔∀(j:Nat) (e:Ex),l[j]? =some e→∃cs,CellsAt w A ((i+j)*8) cs∧ExC w e cs:=by
 intro l
 induction l with
 |nil=>intro i;simp[ExsAt]
 |cons a l ih=>
  intro i
  rw[ExsAt,ih]
  constructor
  ·rintro⟨h1,h2⟩ j e he
   cases j with
   |zero=>simp at he;subst he;simpa using h1
   |succ j=>
    have:=h2 j e (by simpa using he)
    rwa [show i+1+j=i+(j+1) by omega]at this
  ·intro h
   refine⟨by simpa using h 0 a rfl,fun j e he=>?_⟩
   have:=h (j+1) e (by simpa using he)
   rwa [show i+(j+1)=i+1+j by omega]at this
def KidsAt (w:World) (A:Option Addr) (l:List Ex):Prop:=ExsAt w l A 0
theorem exc_ext {w w':World} (hx:Ext w w'):∀(e:Ex) (cs:List Value),ExC w e cs→ExC w' e cs:=by
 intro e
 induction e using Ex.ind with
 |h d ks ih=>
  intro cs h
  rw[ExC]at h ⊢
  obtain⟨h1,h2,A,c,h3,h4⟩:=h
  refine⟨h1,h2,A,c,h3,?_⟩
  rw[exsAt_iff]at h4 ⊢
  intro j e he
  obtain⟨cs,h5,h6⟩:=h4 j e he
  exact⟨cs,h5.ext hx,ih e (List.mem_of_getElem? he) cs h6⟩
theorem KidsAt.ext {w w':World} {A:Option Addr} {l:List Ex} (h:KidsAt w A l) (hx:Ext w w'):KidsAt w' A l:=by
 unfold KidsAt at*
 rw[exsAt_iff]at*
 intro j e he
 obtain⟨cs,h5,h6⟩:=h j e he
 exact⟨cs,h5.ext hx,exc_ext hx e cs h6⟩
structure ExV (w:World) (e:Ex) (A:Option Addr) (n c:Nat):Prop where
 len:e.ks.length=n
 le:n≤9223372036854775807
 fit:e.d.fit
 kids:KidsAt w A e.ks
theorem ExV.ext {w w':World} {e:Ex} {A:Option Addr} {n c:Nat} (h:ExV w e A n c) (hx:Ext w w'):ExV w' e A n c:=⟨h.len,h.le,h.fit,h.kids.ext hx⟩
structure EltAt (w:World) (b o:Nat) (e:Ex) (A:Option Addr) (n c:Nat):Prop where
 c0:w.cell? ⟨b,o,none⟩=some (.int .i64 e.d.op)
 c1:w.cell? ⟨b,o+1,none⟩=some (.string e.d.tb)
 c2:w.cell? ⟨b,o+2,none⟩=some (.string e.d.nm)
 c3:w.cell? ⟨b,o+3,none⟩=some (.int .i64 e.d.ix)
 c4:w.cell? ⟨b,o+4,none⟩=some (.int .i64 e.d.vk)
 c5:w.cell? ⟨b,o+5,none⟩=some (.int .i64 e.d.vi)
 c6:w.cell? ⟨b,o+6,none⟩=some (.string e.d.vt)
 c7:w.cell? ⟨b,o+7,none⟩=some (.slice A n c)
 val:ExV w e A n c
theorem exc_elt {w:World} {A:Option Addr} {o:Nat} {e:Ex} {cs:List Value} (h1:CellsAt w A o cs) (h2:ExC w e cs):∃b off A' n c,A=some ⟨b,off,none⟩∧EltAt w b (off+o) e A' n c:=by
 obtain⟨b,off,hA,hc⟩:=h1
 cases e with
 |mk d ks=>
  rw[ExC]at h2
  obtain⟨h3,h4,A',c,rfl,h5⟩:=h2
  exact⟨b,off,A',ks.length,c,hA,hc 0 _ rfl,hc 1 _ rfl,hc 2 _ rfl,hc 3 _ rfl,hc 4 _ rfl,hc 5 _ rfl,hc 6 _ rfl,hc 7 _ rfl,⟨rfl,h4,h3,h5⟩⟩
theorem KidsAt.get {w:World} {A:Option Addr} {l:List Ex} (h:KidsAt w A l) {i:Nat} {e:Ex} (he:l[i]? =some e):∃b off A' n c,A=some ⟨b,off,none⟩∧EltAt w b (off+i*8) e A' n c:=by
 unfold KidsAt at h
 rw[exsAt_iff]at h
 obtain⟨cs,h1,h2⟩:=h i e he
 rw[Nat.zero_add]at h1
 exact exc_elt h1 h2
def Er (w:World):Prop:=(∃te pe,w.cell? ⟨2,0,none⟩=some (.iface te pe))∧(∃te pe,w.cell? ⟨3,0,none⟩=some (.iface te pe))
end Go.Proofs.YtjigcpfjhfoheaaGreatDoor
