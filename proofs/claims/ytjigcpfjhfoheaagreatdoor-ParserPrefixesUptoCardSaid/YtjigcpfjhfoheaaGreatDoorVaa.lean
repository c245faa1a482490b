/- General lemmas on worlds, strings and slices, over any program; Plain functions on expressions; no program in sight; Statements: their plain form; General laws: append onto a row of the call's own, the old row kept; a set of strin. -/
import Derived.WalkKit
import Derived.WalkSpells
import Derived.WalkLawsBesides
import Derived.Laws.IdiomStrings
import Derived.Laws.BitsAllLaws
import Derived.Deep.QuietTactic
import Derived.BigQuiet
import Derived.Lib.Strings
import Derived.Deep.RegionWith
import Derived.Deep.DeepMust
import Derived.Deep.DeepFit
import Derived.Deep.LoopGhost
import Derived.Deep.RegionHeld3
import Derived.Laws.BytesArg
import Derived.OwnWalk
import Derived.Maps.AppendAt
import Derived.Maps.Own
import Derived.Maps.OwnOps
import Derived.Maps.Views
import Derived.Deep.RegionLaw
import Derived.Laws.OwnMore
import Derived.Deep.AppendLies
import Derived.Deep.Draws
import Derived.RegionTactic
import Derived.IntWalk
import Derived.Lib.ReplaceLaws
import Derived.Lib.IndexBytes
import Derived.Lib.ItoaLen
import Derived.Test.YtjigcpfjhfoheaaGreatDoorShelf
import Derived.Shelf.Strconv.ParseInt10All
namespace Go.Proofs.YtjigcpfjhfoheaaGreatDoor
open Go.RowKit List
set_option maxHeartbeats 400000
set_option maxRecDepth 100000
set_option linter.unusedVariables false
set_option linter.unusedSimpArgs false
section
theorem hid {p:Prop} (h:p):Hid p:=h
theorem aM {k:IntKind} {a b:Int} (h:a=b):Ending.returned (.int k a)= .returned (.int k b):=by rw[h]
theorem aa {a b:Bool} (h:a=b):Ending.returned (.bool a)= .returned (.bool b):=by rw[h]
def Ext (w w':World):Prop:=Below w.heap.size w w'
theorem Ext.refl (w:World):Ext w w:=Below.refl _ _
theorem Ext.size {w w':World} (h:Ext w w'):w.heap.size≤w'.heap.size:=Below.size h
theorem Ext.trans {a b c:World} (h:Ext a b) (k:Ext b c):Ext a c:=Below.trans h (Below.mono k h.size)
theorem Ext.alloc {a b:World} (h:Ext a b) (o:Obj):Ext a (b.alloc o):=Below.alloc h h.size o
abbrev Cl:=Calls Tryz.prog
abbrev Rt(v:Value)(w:World):Ending→World→Prop:=fun r w'=>r= .returned v∧Ext w w'
abbrev i4(i:Int):Value:=.int .i64 i
abbrev BA:=ByteArray
abbrev OA:=Option Addr
abbrev LV:=List Value
theorem g10{α:Type}{a:α}{l:List α}{i:Nat}:(a::l)[i+1]?=l[i]?:=List.getElem?_cons_succ
theorem g11{α:Type}{a:α}{l:List α}:(a::l)[0]?=some a:=List.getElem?_cons_zero
theorem x10(w:World)(o):Ext w (w.alloc o):=(Ext.refl w).alloc o
theorem Ext.drew {a b:World} (h:Ext a b):Ext a b.drew:=Below.drew h
theorem Ext.drewN {a b:World} (h:Ext a b) (n:Nat):Ext a (b.drewN n):=by
 have k:Below _ _ _:=h
 exact(⟨k.os,k.tape,k.output,k.size,k.block⟩:Below a.heap.size a (b.drewN n))
theorem Ext.setCell {a b:World} (h:Ext a b) {p:Addr} (f:a.heap.size≤p.block) (u:Value):Ext a (b.setCell p u):=Below.setCell h f u
theorem Ext.cell {w w':World} (h:Ext w w') {p:Addr} (a:p.block<w.heap.size):w'.cell? p=w.cell? p:=Below.cell h a
theorem lT {w:World} {a:Addr} {v:Value} (h:w.cell? a=some v):a.block<w.heap.size:=by
 rcases Nat.lt_or_ge a.block w.heap.size with h'|h'
 ·exact h'
 ·simp[World.cell?,Array.getElem?_eq_none h']at h
theorem Ext.keep {w w':World} (h:Ext w w') {p:Addr} {v:Value} (a:w.cell? p=some v):w'.cell? p=some v:=(h.cell (lT a)).trans a
theorem Ext.frozen {w w':World} (h:Ext w w') {p:Addr} (a:p.block<w.heap.size):w'.frozen? p=w.frozen? p:=Below.frozen h a
theorem Ext.grown {a w w':World} {row:Option Nat} (h:Ext a w) (b:w.grownBy w' row) (f:∀k,row=some k→a.heap.size≤k):Ext a w':=Below.grown h b h.size f
def N (s:BA):List Nat:=s.data.toList.map UInt8.toNat
theorem N_len (s:BA):(N s).length=s.size:=by simp[N]
theorem N_get (s:BA) (k:Nat) (h:k<s.size):(N s)[k]? =some s[k].toNat:=by
 have a:k<s.data.size:=h
 show(s.data.toList.map UInt8.toNat)[k]? =some (s.data[k]).toNat
 rw[getElem?_map,Array.getElem?_toList,Array.getElem?_eq_getElem a]
 rfl
theorem ua (s:BA) (k:Nat) (a:k<s.size):(N s).take (k+1)=(N s).take k++ [s[k].toNat]:=by
 have b:k<(N s).length:=by rw[N_len];exact a
 rw[take_succ_eq_append_getElem b]
 have f:(N s)[k]=s[k].toNat:=by
  have:=N_get s k a
  rw[getElem?_eq_getElem b]at this
  exact Option.some.inj this
 rw[f]
theorem N_inj {s t:BA} (h:N s=N t):s=t:=by
 have i:s.data.toList=t.data.toList:=by
  apply(List.map_inj_right (f:=UInt8.toNat) fun a b h=>UInt8.toNat_inj.1 h).1 h
 obtain⟨⟨l⟩⟩:=s
 obtain⟨⟨m⟩⟩:=t
 simp at i
 rw[i]
def at0 (l:List Nat) (i:Nat):Nat:=l.getD i 0
def S (l:List Nat):BA:=⟨(l.map UInt8.ofNat).toArray⟩
theorem N_S (l:List Nat) (h:∀x∈l,x<256):N (S l)=l:=by
 simp only[N,S,map_map]
 conv=>rhs;rw[←map_id l]
 apply map_congr_left
 intro x a
 simp[Nat.mod_eq_of_lt (h x a)]
section
variable {P:Program}
theorem ub (w:World) (need a:Nat) (e:TypeId):need≤grownCap w need a e:=by
 exact Nat.le_add_right _ _
end
structure ai (w:World) where
 now:World
 ext:Ext w now
instance ai.any (w:World):Nonempty (ai w):=⟨⟨w,Ext.refl w⟩⟩
theorem ai.keep {w:World} {p:Addr} {v:Value} (h:w.cell? p=some v):∀x:ai w,x.now.cell? p=some v:=fun x=>x.ext.keep h
theorem am {w w':World} (h:∃x:ai w,w'=x.now):Ext w w':=by
 obtain⟨x,rfl⟩:=h
 exact x.ext
theorem af {P:Program} {j:Nat} {Q:Exit→Act→World→Prop} {a:Act} {w:World} {l:List Oper} (i:P.follows .mixedOrders=true) (f:Region.lexB .any l.toArray=true)
  (h:wpQuiet P l.toArray (fun w'=> ∃x:ai w,w'=x.now) (fun b=> ∀w',(∃x:ai w,w'=x.now)→Q .normal b w') l a):(Code.region j l.toArray true).wp P Q a w:=
 wp_region_quiet (C:=fun w'=> ∃x:ai w,w'=x.now) i f ⟨⟨_,(Ext.refl w).drew⟩,rfl⟩ (by simpa using h)
theorem aq {P:Program} {f:FuncId} {args:Array Value} {w:World} {v:Value} {x:ai w}
  (h:Calls P f args x.now fun e w'=>e= .returned v∧Ext x.now w'):Calls P f args x.now fun e a=>e= .returned v∧∃y:ai w,a=y.now:=
 h.mono fun _ _ ⟨b,i⟩=>⟨b,⟨_,x.ext.trans i⟩,rfl⟩
theorem fg {P:Program} {f:FuncId} {args:Array Value} {w:World} {v:Value} {x:ai w}
  (h:Calls P f args x.now fun e w'=>e= .returned v∧x.now=w'):Calls P f args x.now fun e a=>e= .returned v∧∃y:ai w,a=y.now:=
 h.mono fun _ _ ⟨b,i⟩=>⟨b,x,i.symm⟩
theorem gc (s:BA):s.toList.isEmpty=(N s).isEmpty:=by
 rw[ByteArray.toList_eq];unfold N;cases s.data.toList<;>rfl
theorem bz (s t:BA):(s.toList==t.toList)=(N s==N t):=by
 rw[ByteArray.toList_eq,ByteArray.toList_eq,Bool.eq_iff_iff,beq_iff_eq,beq_iff_eq]
 unfold N
 constructor
 ·intro h;rw[h]
 ·intro h;exact(List.map_inj_right (f:=UInt8.toNat) fun a b h=>UInt8.toNat_inj.1 h).1 h
def Blk (w:World) (g:Nat) (t:TypeId) (cs:LV):Prop:=w.heap[g]? =some (.cells cs.toArray t (0,0))
section
variable {w w':World} {g:Nat} {t:TypeId} {cs:LV}
theorem Blk.lt (h:Blk w g t cs):g<w.heap.size:=by
 rcases Nat.lt_or_ge g w.heap.size with hl|hl
 ·exact hl
 ·unfold Blk at h;rw[Array.getElem?_eq_none hl]at h;cases h
theorem Blk.cell (h:Blk w g t cs) (i:Nat):w.cell? ⟨g,i,none⟩=cs[i]? :=by
 unfold Blk at h
 simp[World.cell?,h]
theorem Blk.cell_some (h:Blk w g t cs) {i:Nat} {v:Value} (a:cs[i]? =some v):w.cell? ⟨g,i,none⟩=some v:=(h.cell i).trans a
theorem Blk.frozen (h:Blk w g t cs) (i:Nat):w.frozen? ⟨g,i,none⟩=false:=by
 unfold Blk at h
 simp[World.frozen?,h]
theorem Blk.of_new (w:World) (t:TypeId) (cs:LV):Blk (w.alloc (.cells cs.toArray t)) w.heap.size t cs:=by
 unfold Blk
 show(w.heap.push _)[w.heap.size]? =_
 simp
theorem Blk.ext (h:Blk w g t cs) (a:Ext w w'):Blk w' g t cs:=(Below.block a g h.lt).trans h
theorem Blk.drew (h:Blk w g t cs):Blk w.drew g t cs:=h
theorem Blk.set (h:Blk w g t cs) (i:Nat) (u:Value):Blk (w.setCell ⟨g,i,none⟩ u) g t (cs.set i u):=by
 unfold Blk at h ⊢
 simp[World.setCell,Array.getElem?_modify,h]
theorem Blk.grown {row:Option Nat} (h:Blk w g t cs) (a:w.grownBy w' row) (b:some g≠row):Blk w' g t cs:=(a.block g h.lt b).trans h
end
def Onl (g:Nat) (w w':World):Prop:=w.grownBy w' (some g)
section
variable {w w' w2:World} {g:Nat}
theorem Onl.refl (g:Nat) (w:World):Onl g w w:=⟨rfl,rfl,rfl,Nat.le_refl _,fun _ _ _=>rfl⟩
theorem Onl.trans (h:Onl g w w') (k:Onl g w' w2):Onl g w w2:=
 ⟨k.os.trans h.os,k.tape.trans h.tape,k.output.trans h.output,Nat.le_trans h.size k.size,fun i hi a=> (k.block i (Nat.lt_of_lt_of_le hi h.size) a).trans (h.block i hi a)⟩
theorem Onl.setCell (h:Onl g w w') (i:Nat) (u:Value):Onl g w (w'.setCell ⟨g,i,none⟩ u):=
 ⟨h.os,h.tape,h.output,by simpa[World.setCell] using h.size,fun k b a=> (Below.heap_setCell w' ⟨g,i,none⟩ u k (fun e=>a (by rw[e]))).trans (h.block k b a)⟩
theorem Onl.ext (h:Onl g w' w2) (a:Ext w w') (f:w.heap.size≤g):Ext w w2:=
 Below.trans a ⟨h.os,h.tape,h.output,h.size,fun k b=>h.block k (Nat.lt_of_lt_of_le b a.size) (fun e=>by injection e with e;omega)⟩
theorem Onl.keep (h:Onl g w w') {p:Addr} {v:Value} (b:w.cell? p=some v) (a:p.block≠g):w'.cell? p=some v:=
 (World.cell?_of_block (w:=w) (h.block p.block (lT b) (fun e=>a (by injection e)))).trans b
theorem Onl.blk (h:Onl g w w') {k:Nat} {t:TypeId} {cs:LV} (b:Blk w k t cs) (a:k≠g):Blk w' k t cs:=
 (h.block k b.lt (fun e=>a (by injection e))).trans b
end
def u8s (xs:List Nat):LV:=xs.map fun (x:Nat)=> .int .u8 (x:Int)
theorem u8s_get (xs:List Nat) (i:Nat) (h:i<xs.length):(u8s xs)[i]? =some (.int .u8 ((at0 xs i:Nat):Int)):=by
 simp[u8s,at0,getElem?_map,getElem?_eq_getElem h]
theorem strOf_S (xs:List Nat):strOfNums (xs.map fun (x:Nat)=> (x:Int))=S xs:=by
 unfold strOfNums S
 simp[Function.comp_def]
section
variable {P:Program}
theorem uc {w:World} (b a e g n f:Nat) (xs:List Nat) (hs:P.underlying b=some (.slice e)) (j:P.underlying e=some (.int .u8)) (hd:P.underlying a=some .string)
  (h:Blk w g e (u8s xs)) (l:xs.length=n):(convert b a (.slice (some ⟨g,0,none⟩) n f)).run P w= .ok (.string (S xs)) w:=by
 rw[run_convert_bytes_arg w b e hs j g 0 n f (xs.map fun (x:Nat)=> (x:Int)) (by simp[l]) (fun i hi=>?_) a hd,strOf_S]
 rw[Nat.zero_add,h.cell i,u8s_get xs i (by omega)]
 simp[at0,getElem?_eq_getElem (show i<xs.length by omega)]
theorem conv_one (b a e x:Nat) (hs:P.underlying b=some (.slice e)) (f:P.underlying e=some (.int .u8)) (hd:P.underlying a=some .string) (W:World) (n:Nat) (h:n=W.heap.size):
  (convert b a (.slice (some ⟨n,0,none⟩) 1 1)).run P (W.alloc (.cells #[.int .u8 (x:Int)] e))= .ok (.string (S [x])) (W.alloc (.cells #[.int .u8 (x:Int)] e)):=by
 subst h
 exact uc b a e W.heap.size 1 1 [x] hs f hd (Blk.of_new W e (u8s [x])) rfl
end
theorem fR {a b:BA} (h:a=b):Ending.returned (.string a)= .returned (.string b):=by rw[h]
def CLs (w:World) (g:Nat):LV→List Nat→Prop
 |v::vs,i::is=>w.cell? ⟨g,i,none⟩=some v∧CLs w g vs is
 |_,_=>True
theorem cls_go {w:World} {g:Nat} :∀(cs:LV) (a:List Nat),(∀(j:Nat) (v:Value) (i:Nat),cs[j]? =some v→a[j]? =some i→w.cell? ⟨g,i,none⟩=some v)→CLs w g cs a
 | [],_,_=>by unfold CLs;trivial
 |_::_,[],_=>by unfold CLs;trivial
 |v::vs,i::a,h=>by
  unfold CLs
  exact⟨h 0 v i rfl rfl,cls_go vs a fun j u k b f=>h (j+1) u k b f⟩
theorem cls {w:World} {g t:Nat} {cs:LV} (h:Blk w g t cs):CLs w g cs [0,1,2,3,4,5,6,7,8,9,10,11,12,13,14,15,16,17,18,19,20,21]:=
 cls_go cs _ fun j v i b a=>by
  have a:(List.range 22)[j]? =some i:=a
  rw[getElem?_range (by have f:=(List.getElem?_eq_some_iff.1 a).1;rwa [length_range]at f)]at a
  cases a
  exact h.cell_some b
def LKs (w:World) (g:Nat):LV→List Nat→Prop
 |v::vs,i::is=> (∀x:ai w,x.now.cell? ⟨g,i,none⟩=some v)∧LKs w g vs is
 |_,_=>True
theorem lks_go {w:World} {g:Nat} :∀(cs:LV) (a:List Nat),CLs w g cs a→LKs w g cs a
 | [],_,_=>by unfold LKs;trivial
 |_::_,[],_=>by unfold LKs;trivial
 |v::vs,i::a,h=>by
  unfold CLs at h
  unfold LKs
  exact⟨ai.keep h.1,lks_go vs a h.2⟩
theorem lks {w:World} {g t:Nat} {cs:LV} (h:Blk w g t cs):LKs w g cs [0,1,2,3,4,5,6,7,8,9,10,11,12,13,14,15,16,17,18,19,20,21]:=lks_go _ _ (cls h)
def FZs (w:World) (g:Nat):List Nat→Prop
 |i::is=>w.frozen? ⟨g,i,none⟩=false∧FZs w g is
 |_=>True
theorem frz_go {w:World} {g t:Nat} {cs:LV} (h:Blk w g t cs):∀a:List Nat,FZs w g a
 | []=>by unfold FZs;trivial
 |i::a=>by
  unfold FZs
  exact⟨h.frozen i,frz_go h a⟩
theorem frz {w:World} {g t:Nat} {cs:LV} (h:Blk w g t cs):FZs w g [0,1,2,3,4,5,6,7,8,9,10,11,12,13,14,15,16,17,18,19,20,21]:=frz_go h _
abbrev eC (o:Int) (t n:BA) (x k i:Int) (v:BA) (A:OA) (m c:Nat):LV:= [i4 o,.string t,.string n,i4 x,i4 k,i4 i,.string v,.slice A m c]
abbrev eZ:LV:=eC 0 ⟨#[]⟩ ⟨#[]⟩ 0 0 0 ⟨#[]⟩ none 0 0
abbrev sC (k:Int:=0) (t:BA:=⟨#[]⟩) (a b c d v s i f:Value:= .slice none 0 0) (o:Int:=0) (q m:BA:=⟨#[]⟩) (x y z:Int:=0) (u:BA:=⟨#[]⟩) (e g r:Value:= .slice none 0 0) (l:Int:=0) (n:BA:=⟨#[]⟩):LV:= [i4 k,.string t,a,b,c,d,v,s,i,f,i4 o,.string q,.string m,i4 x,i4 y,i4 z,.string u,e,g,r,i4 l,.string n]
end
structure Nd where
 op:Int
 tb:BA
 nm:BA
 ix:Int
 vk:Int
 vi:Int
 vt:BA
inductive Ex where
 |mk (d:Nd) (ks:List Ex)
def Ex.d:Ex→Nd
 | .mk d _=>d
def Ex.ks:Ex→List Ex
 | .mk _ ks=>ks
mutual
def Ex.size:Ex→Nat
 | .mk _ ks=>1+sizeL ks
def sizeL:List Ex→Nat
 | []=>0
 |e::es=>e.size+sizeL es
end
theorem dX (e:Ex):1≤e.size:=by cases e;rw[Ex.size];omega
theorem gf {e:Ex} {l:List Ex} (h:e∈l):e.size≤sizeL l:=by
 induction l with
 |nil=>cases h
 |cons a l ih=>
  rw[sizeL]
  rcases List.mem_cons.1 h with rfl|h
  ·omega
  ·have:=ih h;omega
theorem ud {e:Ex} {d:Nd} {ks:List Ex} (h:e∈ks):e.size<(Ex.mk d ks).size:=by
 rw[Ex.size];have:=gf h;omega
theorem Ex.ind {P:Ex→Prop} (h:∀d ks,(∀e∈ks,P e)→P (.mk d ks)):∀e,P e:=by
 have a:∀n e,e.size≤n→P e:=by
  intro n
  induction n with
  |zero=>intro e b;have:=dX e;omega
  |succ n ih=>
   intro e b
   cases e with
   |mk d ks=>exact h d ks fun k f=>ih k (by have:=ud (d:=d) f;omega)
 exact fun e=>a _ e (Nat.le_refl _)
def Nd.valZ (d:Nd):Bool:=d.vk==0&&d.vi==0&&d.vt.size==0
def jD (c:Nat):Bool:=decide (97≤c) &&decide (c≤122)
def eD (c:Nat):Bool:=jD c||c==95||decide (48≤c) &&decide (c≤57)
def kwWords:List (List Nat):= [[97,110,100],[97,115],[97,115,99],[98,101,103,105,110],[98,101,116,119,101,101,110],[98,121],[99,104,101,99,107],[99,111,109,109,105,116],[99,111,117,110,116],[99,114,101,97,116,101],[100,101,108,101,116,101],[100,101,115,99],[102,111,114,101,105,103,110],[102,114,111,109],[103,114,111,117,112],[105,110],[105,110,115,101,114,116],[105,110,116,101,103,101,114],[105,110,116,111],[105,115],[106,111,105,110],[107,101,121],[108,101,110,103,116,104],[108,105,107,101],[108,105,109,105,116],[109,97,120],[109,105,110],[110,111,116],[110,117,108,108],[111,110],[111,114],[111,114,100,101,114],[112,114,105,109,97,114,121],[114,101,102,101,114,101,110,99,101,115],[114,101,108,101,97,115,101],[114,111,108,108,98,97,99,107],[115,97,118,101,112,111,105,110,116],[115,101,108,101,99,116],[115,101,116],[115,117,109],[116,97,98,108,101],[116,101,120,116],[116,111],[117,110,105,113,117,101],[117,112,100,97,116,101],[118,97,108,117,101,115],[119,104,101,114,101]]
def iV:List Nat→Bool
 | []=>false
 |c::_=>jD c
def lU (l:List Nat):Bool:=iV l&&l.all eD&&decide (l.length≤24) &&!kwWords.contains l
def nameB (s:BA):Bool:=lU (N s)
def namesB (l:List BA):Bool:=!l.isEmpty&&l.all nameB
def hU (s:BA):Bool:=(N s).all (fun c=>decide (32≤c) &&decide (c≤126)) &&decide (s.size≤16)
def Nd.litB (d:Nd):Bool:=
 if d.vk=0 then d.vi==0&&d.vt.size==0
 else if d.vk=1 then decide (0≤d.vi) &&decide (d.vi≤2147483648) &&d.vt.size==0
 else if d.vk=2 then d.vi==0&&hU d.vt
 else false
def opN (op:Int):Int:=
 if op=1∨op=2 then 0
 else if op=3∨op=9∨op=17∨op=20 then 1
 else if 4≤op∧op≤8∨10≤op∧op≤16∨op=18∨op=19 then 2
 else-1
def ndB (d:Nd) (ks:List Nd):Bool:=
 if d.op=2 then nameB d.nm&& (d.tb.size==0||nameB d.tb) &&d.valZ
 else if d.op=1 then d.tb.size==0&&d.nm.size==0&&d.litB
 else if d.op=16∧((ks.getD 1 d).op≠1∨(ks.getD 1 d).vk≠2)then false
 else d.tb.size==0&&d.nm.size==0&&d.valZ
mutual
def Ex.formed:Ex→Bool
 | .mk d ks=>opN d.op==(ks.length:Int) &&eE ks&&ndB d (ks.map Ex.d)
def eE:List Ex→Bool
 | []=>true
 |e::es=>e.formed&&eE es
end
theorem ol (l:List Ex):eE l=l.all Ex.formed:=by
 induction l with
 |nil=>rfl
 |cons e l ih=>rw[eE,ih];rfl
mutual
def Ex.nodes:Ex→Nat
 | .mk d ks=> (if d.op=0 then 0 else 1)+nodesL ks
def nodesL:List Ex→Nat
 | []=>0
 |e::es=>e.nodes+nodesL es
end
theorem dc (a b:List Ex):nodesL (a++b)=nodesL a+nodesL b:=by
 induction a with
 |nil=>simp[nodesL]
 |cons e a ih=>simp[nodesL,ih];omega
mutual
def Ex.depth:Ex→Nat
 | .mk d ks=> (if d.op=0 then 0 else 1)+aJ ks
def aJ:List Ex→Nat
 | []=>0
 |e::es=>max e.depth (aJ es)
end
theorem iW (a b:List Ex):aJ (a++b)=max (aJ a) (aJ b):=by
 induction a with
 |nil=>simp[aJ]
 |cons e a ih=>rw[cons_append,aJ,aJ,ih];omega
theorem fh (l:List Ex):aJ l≤nodesL l∧∀e∈l,e.depth≤e.nodes:=by
 have h:∀e:Ex,e.depth≤e.nodes:=by
  intro e
  induction e using Ex.ind with
  |h d ks ih=>
   have:aJ ks≤nodesL ks:=by
    clear d
    induction ks with
    |nil=>simp[aJ,nodesL]
    |cons a ks ih2=>
     rw[aJ,nodesL]
     have f:=ih a (by simp)
     have i:=ih2 fun e b=>ih e (by simp[b])
     omega
   rw[Ex.depth,Ex.nodes];omega
 refine⟨?_,fun e _=>h e⟩
 induction l with
 |nil=>simp[aJ,nodesL]
 |cons a l ih=>rw[aJ,nodesL];have:=h a;omega
mutual
def Ex.cols:Ex→List Ex
 | .mk d ks=> (if d.op=2 then [Ex.mk d ks]else [])++colsL ks
def colsL:List Ex→List Ex
 | []=> []
 |e::es=>e.cols++colsL es
end
def Nd.same (a b:Nd):Bool:=a.op==b.op&&N a.tb==N b.tb&&N a.nm==N b.nm&& (a.vk==b.vk&&a.vi==b.vi&&N a.vt==N b.vt)
mutual
def Ex.same:Ex→Ex→Bool
 | .mk d ks,.mk d' ks'=>d.same d'&&sameL ks ks'
def sameL:List Ex→List Ex→Bool
 | [],[]=>true
 |e::es,e'::es'=>e.same e'&&sameL es es'
 |_,_=>false
end
theorem kr:∀(a b:List Ex),sameL a b=true↔a.length=b.length∧∀(i:Nat) (x y:Ex),a[i]? =some x→b[i]? =some y→x.same y=true:=by
 intro a
 induction a with
 |nil=>intro b;cases b<;>simp[sameL]
 |cons e a ih=>
  intro b
  cases b with
  |nil=>simp[sameL]
  |cons f b=>
   rw[sameL,Bool.and_eq_true,ih]
   constructor
   ·rintro⟨o,m,l⟩
    refine⟨by simp[m],fun i x y h j=>?_⟩
    cases i with
    |zero=>simp at h j;subst h j;exact o
    |succ i=>exact l i x y (by simpa using h) (by simpa using j)
   ·rintro⟨m,l⟩
    exact⟨l 0 e f rfl rfl,by simpa using m,fun i x y h j=>l (i+1) x y (by simpa using h) (by simpa using j)⟩
def ndZ:Nd:=⟨0,⟨#[]⟩,⟨#[]⟩,0,0,0,⟨#[]⟩⟩
def exZ:Ex:= .mk ndZ []
def Ex.absent (e:Ex):Bool:=e.d.op==0&&e.d.tb.size==0&&e.d.nm.size==0&&e.d.valZ&&e.ks.isEmpty
theorem N_empty (s:BA):(N s== [])=(s.size==0):=by
 rw[Bool.eq_iff_iff,beq_iff_eq,beq_iff_eq]
 constructor
 ·intro h;rw[←N_len,h];rfl
 ·intro h;exact eq_nil_of_length_eq_zero (by rw[N_len];exact h)
theorem N_nil':N ⟨#[]⟩= []:=rfl
theorem ue (e:Ex):e.same exZ=e.absent:=by
 cases e with
 |mk d ks=>
  unfold exZ ndZ Ex.absent Nd.valZ Ex.d Ex.ks
  rw[Ex.same,Nd.same]
  simp only[N_nil',N_empty]
  cases ks<;>simp[sameL]
def lvl (op:Int):Int:=
 if op=19 then 1 else if op=18 then 2 else if op=20 then 3 else if op=4∨op=5 then 5 else if 6≤op∧op≤8 then 6 else if op=3 then 7
 else if op=1∨op=2∨op=9 then 8 else 4
structure Cd where
 nm:BA
 ty:Int
 lo:Int
 hi:Int
 mx:Int
 nn:Bool
structure Rf where
 cs:List BA
 tb:BA
 tg:List BA
structure Asg where
 cl:BA
 ix:Int
 ex:Ex
structure Itm where
 ag:Int
 ex:Ex
structure Src where
 tb:BA
 al:BA
structure Ord' where
 it:Int
 ds:Bool
structure St where
 kd:Int
 tb:BA
 cols:List Cd
 keys:List (List BA)
 frs:List Rf
 chk:List Ex
 vals:List (List Ex)
 sets:List Asg
 itms:List Itm
 frm:List Src
 whr:Ex
 grp:List Ex
 ord:List Ord'
 lim:Int
 nm:BA
section
section
variable {P:Program} (w:World)
theorem o9 (B:Nat) (t ty e:TypeId) (i:TypeInfo) (z:Value) (h:Nat) (L:P.underlying t=some (.slice e)) (hi:P.info? e=some i) (U:i.zero=some z)
  (hs:i.size=1) (F:i.bytes=h) (O:z.cells.size=1) (v:Value) (n:Nat) (xs:LV) (b:w.ownsRow B e 1 v n xs)
  (a:Addr) (m c:Nat) (f:LV) (X:f.length=m) (o:∀j u,f[j]? =some u→w.cell? (a.add j)=some u) (Q:∀u∈f,u.oneCell'=true)
  (E:n+m≤maxLen) (p:(n+m)*h≤140737488355328) (y:B≤w.heap.size):
  ∃x w',(Builtin.append_ #[t,t] ty #[v,.slice (some a) m c]).run P w= .ok x w'∧w'.ownsRow B e 1 x (n+m) (xs++f)∧w.grownBy w' v.ownBlock∧
   (x.ownBlock=v.ownBlock∨x.ownBlock=some w.heap.size)∧w'.ownsRow B e 1 v n xs∧
   (x.ownBlock=v.ownBlock→∀w2:World,w2.ownsRow B e 1 x (n+m) (xs++f)→w2.ownsRow B e 1 v n xs):=by
 have H:n+m≤9223372036854775807:=by simp only[maxLen]at E;omega
 obtain⟨x,w',s,Y,W,_,J⟩:=run_append_own_at (P:=P) w B t ty e i z 1 h L hi U hs F O (by omega) v n xs b a m c f (by omega) o Q E p y
 refine⟨x,w',s,Y,W,J,?_⟩
 rcases b.2 with ⟨rfl,rfl⟩|⟨g,cap,cur,rfl,hbg,hgb,hnc,hcm,hcs,htake⟩
 ·have R:xs= []:=eq_nil_of_length_eq_zero (by simpa using b.1)
  subst R
  exact⟨World.ownsRow_nil _ _ _ _,fun _ _ _=>World.ownsRow_nil _ _ _ _⟩
 ·by_cases D:n+m≤cap
  ·have r:n*i.size+f.length≤cur.size:=by rw[X,hcs,hs];omega
   have G:=run_append_room (P:=P) w t ty e i L hi g n cap cur hgb a m c f (by rw[hs];omega) o Q D r
   rw[s]at G
   injection G with e1 e2
   subst e2
   refine⟨⟨b.1,.inr ⟨g,cap,_,rfl,hbg,setRow_heap w g cur _ e _ hgb,hnc,hcm,?_,?_⟩⟩,?_⟩
   ·rw[hs]at r ⊢
    simp only[size_toArray,length_append,length_take,length_drop,Array.length_toList]
    omega
   ·rw[hs]
    simp only[append_assoc]
    rw[take_append_of_le_length (by simp only[length_take,Array.length_toList];rw[hs]at r;omega),take_take,Nat.min_self]
    exact htake
   ·subst e1
    intro _ w2 I
    rcases I.2 with ⟨I,_⟩|⟨g2,cap2,cur2,hv2,hb2,hh2,hn2,hm2,hs2,ht2⟩
    ·cases I
    ·simp only[Value.slice.injEq,Option.some.injEq,Addr.mk.injEq,and_true,true_and]at hv2
     obtain⟨rfl,rfl⟩:=hv2
     refine⟨b.1,.inr ⟨g,cap,cur2,rfl,hbg,hh2,hnc,hcm,hs2,?_⟩⟩
     have R:xs.length=n:=by have:=b.1;omega
     have:=congrArg (List.take n) ht2
     rw[take_take,take_append_of_le_length (by omega),take_of_length_le (l:=xs) (by omega),show min n ((n+m)*1)=n*1 by omega]at this
     exact this
  ·have C:∀j u,xs[j]? =some u→w.cell? ((⟨g,0,none⟩:Addr).add j)=some u:=b.cells (g:=g) rfl
   have G:=run_append_grow (P:=P) w t ty e i z L hi U ⟨g,0,none⟩ n cap xs (by rw[b.1,hs]) C a m c f (by rw[hs];omega) o (by omega) (by omega) (growslice_fits (by omega) (by rw[F];exact p))
   rw[s]at G
   injection G with e1 e2
   subst e2
   have K:g<w.heap.size:=(Array.getElem?_eq_some_iff.1 hgb).1
   refine⟨⟨b.1,.inr ⟨g,cap,cur,rfl,hbg,(Below.heap_alloc w.drew _ g K).trans hgb,hnc,hcm,hcs,htake⟩⟩,fun V=>?_⟩
   subst e1
   simp[Value.ownBlock]at V
   omega
theorem qO {o:Oper} {a:Act} {K:Act→World→Prop} {Q:Exit→Act→World→Prop} (s x:Operand) (t:TypeId)
  (W:o.op= .call { callee:= .builtin .append,args:=#[s,x],argTypes:=#[t,t] })
  (B:Nat) (e:TypeId) (i:TypeInfo) (z:Value) (f:Nat) (Y:P.underlying t=some (.slice e)) (hi:P.info? e=some i) (hz:i.zero=some z)
  (G:i.size=1) (F:i.bytes=f) (H:z.cells.size=1) (v:Value) (n:Nat) (xs:LV) (hs:a.eval s=v) (C:w.ownsRow B e 1 v n xs)
  (D:Addr) (m c:Nat) (b:LV) (Z:a.eval x= .slice (some D) m c) (V:b.length=m) (y:∀j u,b[j]? =some u→w.cell? (D.add j)=some u) (I:∀u∈b,u.oneCell'=true)
  (E:n+m≤maxLen) (l:(n+m)*f≤140737488355328) (r:B≤w.heap.size)
  (h:∀p w',w'.ownsRow B e 1 p (n+m) (xs++b)→w.grownBy w' v.ownBlock→(p.ownBlock=v.ownBlock∨p.ownBlock=some w.heap.size)→w'.ownsRow B e 1 v n xs→(p.ownBlock=v.ownBlock→∀w2:World,w2.ownsRow B e 1 p (n+m) (xs++b)→w2.ownsRow B e 1 v n xs)→K (a.put o.dst p) w'):o.wp P a w K Q:=by
 obtain⟨p,w',X,J,L,O,R,U⟩:=o9 (P:=P) w B t o.type e i z f Y hi hz G F H v n xs C D m c b V y I E l r
 unfold Oper.wp execOp
 simp only[W,resolve,invoke,builtin,Sem.run_bind,Sem.run_pure,Result.andThen_ok,map_toArray,map_cons,map_nil,hs,Z,X]
 exact h p w' J L O R U
theorem pa {ops:Array Oper} {rest:List Oper} {o:Oper} {a:Act} {Q:Exit→Act→World→Prop} (G:o.guard=none) (s x:Operand) (t:TypeId)
  (X:o.op= .call { callee:= .builtin .append,args:=#[s,x],argTypes:=#[t,t] })
  (B:Nat) (e:TypeId) (i:TypeInfo) (z:Value) (f:Nat) (Y:P.underlying t=some (.slice e)) (hi:P.info? e=some i) (hz:i.zero=some z)
  (H:i.size=1) (F:i.bytes=f) (I:z.cells.size=1) (v:Value) (n:Nat) (xs:LV) (hs:a.eval s=v) (C:w.ownsRow B e 1 v n xs)
  (D:Addr) (m c:Nat) (b:LV) (Z:a.eval x= .slice (some D) m c) (W:b.length=m) (y:∀j u,b[j]? =some u→w.cell? (D.add j)=some u) (J:∀u∈b,u.oneCell'=true)
  (E:n+m≤maxLen) (l:(n+m)*f≤140737488355328) (r:B≤w.heap.size)
  (h:∀p w',w'.ownsRow B e 1 p (n+m) (xs++b)→w.grownBy w' v.ownBlock→(p.ownBlock=v.ownBlock∨p.ownBlock=some w.heap.size)→w'.ownsRow B e 1 v n xs→(p.ownBlock=v.ownBlock→∀w2:World,w2.ownsRow B e 1 p (n+m) (xs++b)→w2.ownsRow B e 1 v n xs)→wpList P ops Q rest (a.put o.dst p) w'):
  wpList P ops Q (o::rest) a w:=
 wpList_plain G fun _ V=>qO w s x t X B e i z f Y hi hz H F I v n xs hs C D m c b Z W y J E l r fun p w' K L O R U=>V _ _ (h p w' K L O R U)
end
theorem own_ext {w w':World} {B e n:Nat} {v:Value} {xs:LV} (h:w.ownsRow B e 1 v n xs) (f:Ext w w'):w'.ownsRow B e 1 v n xs:=by
 obtain⟨b,a⟩:=h
 refine⟨b,?_⟩
 rcases a with a|⟨g,cap,cur,hv,hg,hh,r⟩
 ·exact .inl a
 ·exact .inr ⟨g,cap,cur,hv,hg,(Below.block f g (Array.getElem?_eq_some_iff.1 hh).1).trans hh,r⟩
theorem lV (w:World) (cs:Array Value) (e:TypeId):∀(j:Nat) (u:Value),cs.toList[j]? =some u→(w.alloc (.cells cs e)).cell? ((⟨w.heap.size,0,none⟩:Addr).add j)=some u:=fun j u b=>by
 have a:(⟨w.heap.size,0,none⟩:Addr).add j=⟨w.heap.size,j,none⟩:=by unfold Addr.add;split<;>simp_all
 rw[a,World.cell?_alloc_new]
 simpa using b
theorem dH {w:World} {B e sz n g:Nat} {v:Value} {xs:LV} (h:w.ownsRow B e sz v n xs) (a:v.ownBlock=some g):B≤g:=by
 rcases h.2 with ⟨rfl,_⟩|⟨g',cap,cur,rfl,hb,_⟩
 ·simp[Value.ownBlock]at a
 ·simp[Value.ownBlock]at a;omega
theorem conv_own {P:Program} {w:World} (b a e B n:Nat) (v:Value) (xs:List Nat) (hs:P.underlying b=some (.slice e)) (l:P.underlying e=some (.int .u8)) (hd:P.underlying a=some .string)
  (j:w.ownsRow B e 1 v n (u8s xs)):(convert b a v).run P w= .ok (.string (S xs)) w:=by
 have f:xs.length=n:=by have:=j.1;simpa[u8s] using this
 rcases j.2 with ⟨rfl,h0⟩|⟨g,cap,cur,rfl,_,hg,_,_,_,ht⟩
 ·subst h0
  have:xs= []:=eq_nil_of_length_eq_zero f
  subst this
  exact run_convert_bytes_nil w b e hs l 0 0 a hd
 ·rw[run_convert_bytes_arg w b e hs l g 0 n cap (xs.map fun (x:Nat)=> (x:Int)) (by simp[f]) (fun i hi=>?_) a hd,strOf_S]
  have h:i<xs.length:=by omega
  have m:(u8s xs)[i]? =cur[i]? :=by
   rw[←ht,getElem?_take,if_pos (by omega),Array.getElem?_toList]
  simp only[World.cell?,hg,Nat.zero_add]
  rw[show(none:Option Nat).isSome=false from rfl]
  simp only[Bool.false_eq_true,if_false]
  rw[←m,u8s_get xs i h]
  simp[at0,getElem?_eq_getElem h]
def du (w:World) (P:Program) (k e:TypeId) (M:Nat) (n:Nat) (mem:List UInt8→Bool):Prop:=
 ∃D:DataW Unit,w.ownsMap P k (plainElem P e) M n D∧Maps.IsMap D∧∀s,D.atKey (.string s) (.lit (.bool false))= .lit (.bool (mem s))
section
variable {P:Program} {w w':World} {k e M n:Nat} {mem:List UInt8→Bool}
theorem du.made (w:World) (P:Program) (k e:TypeId):du (w.alloc (.map #[] 0)) P k e w.heap.size 0 (fun _=>false):=
 ⟨_,World.ownsMap_made w P k _,Maps.isMap_empty,fun _=>rfl⟩
theorem du.lt (h:du w P k e M n mem):M<w.heap.size:=by
 obtain⟨D,h,_⟩:=h
 exact h.lt
theorem du.kept (h:du w P k e M n mem) {row:Option Nat} (f:w.grownBy w' row) (a:some M≠row):du w' P k e M n mem:=by
 obtain⟨D,h,b⟩:=h
 exact⟨D,h.kept f a,b⟩
theorem du.ext (h:du w P k e M n mem) (a:Ext w w'):du w' P k e M n mem:=
 h.kept (row:=none) ⟨Below.os a,Below.tape a,Below.output a,Below.size a,fun i hi _=>Below.block a i hi⟩ (by simp)
theorem lg {v:Value} {z:DataW Unit×List MemPlace} (a:P.underlying e=some .bool) (h:plainElem P e v=some z):∃b,v= .bool b∧z=(.lit (.bool b),[]):=by
 unfold plainElem at h
 rw[a]at h
 cases v<;>simp at h
 subst h
 exact⟨_,rfl,rfl⟩
theorem du.look (h:du w P k e M n mem) {t:TypeId} (j:P.underlying k=some .string) (o:P.underlying t=some (.map k e)) (i:P.underlying e=some .bool) (p:(zeroValue e).run P w= .ok (.bool false) w)
  (s:BA) (hs:s.size≤maxLen):(Instr.lookup t (.map (some M)) (.string s) false).run P w= .ok (.bool (mem s.data.toList)) w:=by
 obtain⟨D,h,_,m⟩:=h
 obtain⟨v,ps,a,l⟩:=h.lookup (Maps.string_keyed j) o p (plainElem_bool i false) (WideMaps.keyOf_string_mk j hs)
 rw[m]at l
 obtain⟨b,rfl,f⟩:=lg i l
 simp only[Prod.mk.injEq,DataW.lit.injEq,Lit.bool.injEq]at f
 rw[f.1]
 exact a
theorem du.add (h:du w P k e M n mem) {t:TypeId} (i:P.underlying k=some .string) (r:P.underlying t=some (.map k e)) (m:P.underlying e=some .bool) (p:n<maxLen)
  (s:BA) (hs:s.size≤maxLen):∃w',(Instr.mapUpdate t (.map (some M)) (.string s) (.bool true)).run P w= .ok () w'∧du w' P k e M (n+1) (fun x=>x==s.data.toList||mem x)∧w.grownBy w' (some M):=by
 obtain⟨D,h,f,l⟩:=h
 obtain⟨w',a,j,o⟩:=h.update (Maps.string_keyed i) r p (WideMaps.keyOf_string_mk i hs) (plainElem_bool m true)
 refine⟨w',a,⟨_,j,f.put _ _,fun x=>?_⟩,o⟩
 by_cases b:x=s.data.toList
 ·subst b
  rw[Maps.atKey_put_same f (by simp[WideAt.IsKeyLit])]
  simp
 ·rw[Maps.atKey_put_other (by simpa using b),l]
  simp[b]
end
end
section
theorem sq (a:Addr) (n:Nat):(a.add n).block=a.block:=by unfold Addr.add;split<;>rfl
def Reads (w:World) (B size:Nat) (A:OA) (n:Nat) (xs:LV):Prop:=
 xs.length=n*size∧(0<n→∃ad,A=some ad∧ad.block<B∧∀j u,xs[j]? =some u→w.cell? (ad.add j)=some u)
section
variable {w w':World} {B B' size n:Nat} {A:OA} {xs:LV}
theorem Reads.at_ {k:Nat} (h:Reads w B 1 A n xs) (j:k<n):∃a u,A=some a∧a.block<B∧xs[k]? =some u∧w.cell? (a.add k)=some u:=by
 obtain⟨a,e,f,i⟩:=h.2 (by omega)
 have b:k<xs.length:=by have:=h.1;omega
 exact⟨a,xs[k],e,f,getElem?_eq_getElem b,i k _ (getElem?_eq_getElem b)⟩
theorem Reads.keep (h:Reads w B size A n xs) (i:∀p:Addr,p.block<B→w'.cell? p=w.cell? p):Reads w' B size A n xs:=
 ⟨h.1,fun l=>by
  obtain⟨b,e,a,f⟩:=h.2 l
  exact⟨b,e,a,fun j u m=> (i _ (by rw[sq];exact a)).trans (f j u m)⟩⟩
theorem Reads.below (h:Reads w B size A n xs) (a:Below B w w'):Reads w' B size A n xs:=h.keep fun _ b=>a.cell b
theorem Reads.drew (h:Reads w B size A n xs):Reads w.drew B size A n xs:=h
theorem Reads.drewN (h:Reads w B size A n xs) (k:Nat):Reads (w.drewN k) B size A n xs:=h
theorem Reads.alloc (h:Reads w B size A n xs) (a:B≤w.heap.size) (o:Obj):Reads (w.alloc o) B size A n xs:=h.keep fun p b=>World.cell?_alloc_lt w o p (by omega)
theorem Reads.setCell (h:Reads w B size A n xs) {p:Addr} (a:B≤p.block) (u:Value):Reads (w.setCell p u) B size A n xs:=
 h.keep fun q b=>World.cell?_setCell_other w p q u (fun e=>by subst e;omega)
theorem Reads.grown (h:Reads w B size A n xs) {row:Option Nat} (a:w.grownBy w' row) (f:B≤w.heap.size) (b:∀g,row=some g→B≤g):Reads w' B size A n xs:=
 h.keep fun p i=>World.cell?_of_block (a.block p.block (by omega) (fun e=>by have:=b _ e.symm;omega))
end
section
variable {P:Program} (w:World)
theorem lW (base:Nat) (t ty e:TypeId) (i:TypeInfo) (size:Nat) (b:P.underlying t=some (.slice e)) (hi:P.info? e=some i)
  (v:Value) (n:Nat) (xs:LV) (a:w.ownsRow base e size v n xs) (c:Nat):(Builtin.append_ #[t,t] ty #[v,.slice none 0 c]).run P w= .ok v w:=by
 rcases a.2 with ⟨rfl,rfl⟩|⟨g,cap,cur,rfl,_,_,hnc,_⟩
 ·simp[Builtin.append_,run_underlying b,sizeOf,typeInfo,hi,Builtin.lenOf,Builtin.firstCells]
 ·simp[Builtin.append_,run_underlying b,sizeOf,typeInfo,hi,Builtin.lenOf,Builtin.firstCells,hnc,storeCells]
theorem pb (base:Nat) (t ty e:TypeId) (i:TypeInfo) (z:Value) (size b:Nat) (I:P.underlying t=some (.slice e)) (hi:P.info? e=some i) (W:i.zero=some z)
  (r:i.size=size) (E:i.bytes=b) (H:z.cells.size=size) (G:0<size)
  (v:Value) (n:Nat) (xs:LV) (f:w.ownsRow base e size v n xs)
  (B:Nat) (A:OA) (m c:Nat) (a:LV) (x:Reads w B size A m a) (L:∀u∈a,u.oneCell'=true)
  (D:n+m≤maxLen) (l:(n+m)*b≤140737488355328) (p:base≤w.heap.size):
  ∃s w',(Builtin.append_ #[t,t] ty #[v,.slice A m c]).run P w= .ok s w'∧w'.ownsRow base e size s (n+m) (xs++a)∧w.grownBy w' v.ownBlock∧
   (s.ownBlock=v.ownBlock∨s.ownBlock=some w.heap.size):=by
 rcases A with _|C
 ·have V:m=0:=by
   rcases Nat.eq_zero_or_pos m with h0|h0
   ·exact h0
   ·obtain⟨C,h,_⟩:=x.2 h0
    cases h
  subst V
  have F:a= []:=eq_nil_of_length_eq_zero (by simpa using x.1)
  subst F
  exact⟨v,w,lW w base t ty e i size I hi v n xs f c,by simpa using f,World.grownBy.refl w _,.inl rfl⟩
 ·have o:∀j u,a[j]? =some u→w.cell? (C.add j)=some u:=by
   intro j u J
   rcases Nat.eq_zero_or_pos m with h0|h0
   ·subst h0
    have F:a= []:=eq_nil_of_length_eq_zero (by simpa using x.1)
    subst F
    simp at J
   ·obtain⟨K,h,_,U⟩:=x.2 h0
    injection h with h
    subst h
    exact U j u J
  obtain⟨s,w',y,O,Q,_,R⟩:=run_append_own_at (P:=P) w base t ty e i z size b I hi W r E H G v n xs f C m c a x.1 o L D l p
  exact⟨s,w',y,O,Q,R⟩
theorem dY {o:Oper} {a:Act} {K:Act→World→Prop} {Q:Exit→Act→World→Prop} (s x:Operand) (t:TypeId)
  (O:o.op= .call { callee:= .builtin .append,args:=#[s,x],argTypes:=#[t,t] })
  (base:Nat) (e:TypeId) (i:TypeInfo) (z:Value) (size b:Nat) (U:P.underlying t=some (.slice e)) (hi:P.info? e=some i) (W:i.zero=some z)
  (p:i.size=size) (E:i.bytes=b) (G:z.cells.size=size) (F:0<size)
  (v:Value) (n:Nat) (xs:LV) (hs:a.eval s=v) (y:w.ownsRow base e size v n xs)
  (B:Nat) (A:OA) (m c:Nat) (f:LV) (V:a.eval x= .slice A m c) (R:Reads w B size A m f) (H:∀u∈f,u.oneCell'=true)
  (D:n+m≤maxLen) (j:(n+m)*b≤140737488355328) (l:base≤w.heap.size)
  (h:∀r w',w'.ownsRow base e size r (n+m) (xs++f)→w.grownBy w' v.ownBlock→(r.ownBlock=v.ownBlock∨r.ownBlock=some w.heap.size)→K (a.put o.dst r) w'):o.wp P a w K Q:=by
 obtain⟨r,w',C,I,J,L⟩:=pb (P:=P) w base t o.type e i z size b U hi W p E G F v n xs y B A m c f R H D j l
 unfold Oper.wp execOp
 simp only[O,resolve,invoke,builtin,Sem.run_bind,Sem.run_pure,Result.andThen_ok,map_toArray,map_cons,map_nil,hs,V,C]
 exact h r w' I J L
theorem wpList_append_any {ops:Array Oper} {rest:List Oper} {o:Oper} {a:Act} {Q:Exit→Act→World→Prop} (E:o.guard=none) (s x:Operand) (t:TypeId)
  (O:o.op= .call { callee:= .builtin .append,args:=#[s,x],argTypes:=#[t,t] })
  (base:Nat) (e:TypeId) (i:TypeInfo) (z:Value) (size b:Nat) (U:P.underlying t=some (.slice e)) (hi:P.info? e=some i) (W:i.zero=some z)
  (p:i.size=size) (D:i.bytes=b) (G:z.cells.size=size) (F:0<size)
  (v:Value) (n:Nat) (xs:LV) (hs:a.eval s=v) (y:w.ownsRow base e size v n xs)
  (B:Nat) (A:OA) (m c:Nat) (f:LV) (V:a.eval x= .slice A m c) (R:Reads w B size A m f) (H:∀u∈f,u.oneCell'=true)
  (C:n+m≤maxLen) (j:(n+m)*b≤140737488355328) (l:base≤w.heap.size)
  (h:∀r w',w'.ownsRow base e size r (n+m) (xs++f)→w.grownBy w' v.ownBlock→(r.ownBlock=v.ownBlock∨r.ownBlock=some w.heap.size)→wpList P ops Q rest (a.put o.dst r) w'):wpList P ops Q (o::rest) a w:=
 wpList_plain E fun _ L=>dY w s x t O base e i z size b U hi W p D G F v n xs hs y B A m c f V R H C j l fun r w' I J K=>L _ _ (h r w' I J K)
theorem fJ {ops:Array Oper} {o:Oper} {a:Act} {K:Act→World→Prop} {Q:Exit→Act→World→Prop} {E:Prop} (F:o.guard=none) (s x:Operand) (t:TypeId)
  (J:o.op= .call { callee:= .builtin .append,args:=#[s,x],argTypes:=#[t,t] })
  (base:Nat) (e:TypeId) (i:TypeInfo) (z:Value) (size b:Nat) (O:P.underlying t=some (.slice e)) (hi:P.info? e=some i) (V:i.zero=some z)
  (p:i.size=size) (D:i.bytes=b) (H:z.cells.size=size) (G:0<size)
  (v:Value) (n:Nat) (xs:LV) (hs:a.eval s=v) (r:w.ownsRow base e size v n xs)
  (B:Nat) (A:OA) (m c:Nat) (f:LV) (U:a.eval x= .slice A m c) (L:Reads w B size A m f) (I:∀u∈f,u.oneCell'=true)
  (C:n+m≤maxLen) (j:(n+m)*b≤140737488355328) (l:base≤w.heap.size)
  (h:∀y w',w'.ownsRow base e size y (n+m) (xs++f)→w.grownBy w' v.ownBlock→(y.ownBlock=v.ownBlock∨y.ownBlock=some w.heap.size)→K (a.put o.dst y) w'):
  if Region.wanted o (yielded ops a.tmps)=true then Oper.wp P o a w K Q else E:=by
 have R:Region.wanted o (yielded ops a.tmps)=true:=by simp[Region.wanted,F]
 rw[if_pos R]
 exact dY w s x t J base e i z size b O hi V p D H G v n xs hs r B A m c f U L I C j l h
end
section
variable {P:Program} (w:World)
theorem oK (t k ty e:TypeId) (i:TypeInfo) (z:Value) (r:P.underlying t=some (.slice e)) (m:P.underlying k=some (.int .i64)) (hi:P.info? e=some i) (u:i.zero=some z)
  (n:Nat) (x:0<n) (y:(n:Int)≤9223372036854775807) (l:n*i.bytes≤281474976710656):
  (Builtin.append_ #[t,k] ty #[.slice none 0 0,i4 n]).run P w=
   .ok (.slice (some ⟨w.heap.size,0,none⟩) n (grownCap w n 0 e))
    (w.drew.alloc (.cells ((if n*i.size=0 then #[]else Builtin.zeroCells z.cells n)++Builtin.zeroCells z.cells (grownCap w n 0 e-n)) e)):=by
 have p:n≠0:=by omega
 have j:∀W:World,(asInt (i4 (n:Int))).run P W= .ok (n:Int) W:=fun _=>rfl
 have s:IntKind.i64.wrap (n:Int)=n:=IntWalk.i64_in _ (by omega)
 have o:¬((n:Int)<0):=by omega
 have f:¬((281474976710656:Int)<(n:Int)* (i.bytes:Int)):=by
  have:((n:Int)* (i.bytes:Int))=((n*i.bytes:Nat):Int):=by simp
  omega
 have b:¬(9223372036854775807<(n:Int)):=by omega
 have a:¬(281474976710656<Builtin.nextslicecap n 0*i.bytes):=by rw[nextslicecap_zero x];omega
 by_cases h:n*i.size=0
 ·simp[Builtin.append_,run_underlying r,run_underlying m,sizeOf,typeInfo,zeroValue,hi,u,Builtin.lenOf,Builtin.firstCells,j,p,s,o,f,b,a,Question.forced,newRow,grownCap,h]
 ·simp[Builtin.append_,run_underlying r,run_underlying m,sizeOf,typeInfo,zeroValue,hi,u,Builtin.lenOf,Builtin.firstCells,j,p,s,o,f,b,a,Question.forced,newRow,grownCap,h]
theorem lh {ops:Array Oper} {rest:List Oper} {o:Oper} {a:Act} {Q:Exit→Act→World→Prop} (j:o.guard=none) (s x:Operand) (t k:TypeId)
  (r:o.op= .call { callee:= .builtin .append,args:=#[s,x],argTypes:=#[t,k] })
  (e:TypeId) (i:TypeInfo) (z:Value) (u:P.underlying t=some (.slice e)) (p:P.underlying k=some (.int .i64)) (hi:P.info? e=some i) (C:i.zero=some z)
  (n:Nat) (hs:a.eval s= .slice none 0 0) (y:a.eval x= i4 (n:Int)) (l:0<n) (f:(n:Int)≤9223372036854775807) (b:n*i.bytes≤281474976710656)
  (h:wpList P ops Q rest (a.put o.dst (.slice (some ⟨w.heap.size,0,none⟩) n (grownCap w n 0 e))) (w.drew.alloc (.cells ((if n*i.size=0 then #[]else Builtin.zeroCells z.cells n)++Builtin.zeroCells z.cells (grownCap w n 0 e-n)) e))):
  wpList P ops Q (o::rest) a w:=by
 refine wpList_plain j fun _ m=>?_
 unfold Oper.wp execOp
 simp only[r,resolve,invoke,builtin,Sem.run_bind,Sem.run_pure,Result.andThen_ok,map_toArray,map_cons,map_nil,hs,y,oK w t k o.type e i z u p hi C n l f b]
 exact m _ _ h
end
end
def quo:List UInt8→List UInt8
 | []=> []
 |c::r=>if c=39 then 39::39::quo r else c::quo r
theorem quo_app:∀a b:List UInt8,quo (a++b)=quo a++quo b
 | [],_=>rfl
 |c::r,b=>by
  rw[cons_append,quo,quo]
  split<;>simp[quo_app r b]
theorem ss:∀a:List UInt8,(quo a).length≤2*a.length
 | []=>Nat.le_refl _
 |c::r=>by
  have:=ss r
  rw[quo]
  split<;>simp<;>omega
theorem uf:∀s:List UInt8,Lib.indexByte s 39= -1→quo s=s
 | [],_=>rfl
 |b::l,h=>by
  rw[Lib.indexByte]at h
  have j:=Lib.indexByte_ge l 39
  by_cases a:b=39
  ·subst a;simp at h
  ·have e:(b==39)=false:=by simpa using a
   rw[e]at h
   simp only[Bool.false_eq_true,if_false]at h
   by_cases f:Lib.indexByte l 39= -1
   ·rw[quo,if_neg a,uf l f]
   ·have i:(Lib.indexByte l 39== -1)=false:=by simpa using f
    rw[i]at h
    simp only[Bool.false_eq_true,if_false]at h
    omega
theorem ug:∀(s:List UInt8) (i:Nat),Lib.indexByte s 39=i→quo s=s.take i++ [39,39]++quo (s.drop (i+1))
 | [],i,h=>by unfold Lib.indexByte at h;omega
 |b::l,i,h=>by
  rw[Lib.indexByte]at h
  have o:=Lib.indexByte_ge l 39
  by_cases a:b=39
  ·subst a
   simp at h
   obtain rfl:i=0:=by omega
   simp[quo]
  ·have e:(b==39)=false:=by simpa using a
   rw[e]at h
   simp only[Bool.false_eq_true,if_false]at h
   by_cases f:Lib.indexByte l 39= -1
   ·rw[f]at h;simp at h;try omega
   ·have m:(Lib.indexByte l 39== -1)=false:=by simpa using f
    rw[m]at h
    simp only[Bool.false_eq_true,if_false]at h
    obtain⟨j,rfl⟩:∃j,i=j+1:=⟨i-1,by omega⟩
    rw[quo,if_neg a,ug l j (by omega)]
    simp
theorem uh:∀(n:Nat) (s:List UInt8),s.length≤n→Lib.replaceK [39] [39,39] (Lib.count s [39]) s=quo s
 |0,s,h=>by
  have:s= []:=eq_nil_of_length_eq_zero (by omega)
  subst this
  rfl
 |n+1,s,h=>by
  have b:=Lib.indexByte_ge s 39
  by_cases hi:Lib.indexByte s 39= -1
  ·rw[Lib.count_miss (by rw[Lib.index_one];exact hi),uf s hi]
   rfl
  ·obtain⟨i,hi⟩:∃i:Nat,Lib.indexByte s 39=i:=⟨(Lib.indexByte s 39).toNat,by omega⟩
   have a:Lib.index s [39]=i:=by rw[Lib.index_one];exact hi
   rw[Lib.count_hit (by simp) a,Nat.add_comm 1,Lib.replaceK_hit _ _ _ _ i a,ug s i hi]
   rw[length_singleton]
   by_cases hs:s= []
   ·subst hs;unfold Lib.indexByte at hi;omega
   ·have f:0<s.length:=List.length_pos_iff.2 hs
    rw[uh n (s.drop (i+1)) (by rw[length_drop];omega)]
theorem wj (s:List UInt8):Lib.replaceAll s [39] [39,39]=quo s:=by
 unfold Lib.replaceAll Lib.replace
 rw[if_neg (by decide)]
 have:Lib.replaceNum s [39] (-1)=Lib.count s [39]:=by unfold Lib.replaceNum;rw[if_pos (.inl (by decide))]
 rw[this]
 exact uh _ s (Nat.le_refl _)
def itoB (n:Int):BA:=⟨(Lib.itoa n).toArray⟩
theorem bE (n:Int) (a: -9223372036854775808≤n) (b:n≤9223372036854775807):(itoB n).size≤21:=by
 have:=Lib.itoa_length_le n a b
 show((Lib.itoa n).toArray).size≤21
 simpa using this
def oL (t:BA):BA:=⟨(quo t.data.toList).toArray⟩
theorem qX (t:BA):(oL t).size≤2*t.size:=by
 have:=ss t.data.toList
 show((quo t.data.toList).toArray).size≤2*t.data.size
 simpa using this
def sgn (op:Int):BA:=
 if op=4 then ⟨#[43]⟩else if op=5 then ⟨#[45]⟩else if op=6 then ⟨#[42]⟩else if op=7 then ⟨#[47]⟩else if op=8 then ⟨#[37]⟩
 else if op=10 then ⟨#[61]⟩else if op=11 then ⟨#[60,62]⟩else if op=12 then ⟨#[60]⟩else if op=13 then ⟨#[60,61]⟩else if op=14 then ⟨#[62]⟩else if op=15 then ⟨#[62,61]⟩
 else if op=16 then ⟨#[76,73,75,69]⟩else if op=18 then ⟨#[65,78,68]⟩else if op=19 then ⟨#[79,82]⟩else ⟨#[]⟩
theorem aO (p:Prop) [Decidable p] (a b:BA) (n:Nat) (f:a.size≤n) (i:b.size≤n):(if p then a else b).size≤n:=by
 by_cases h:p
 ·rw[if_pos h];exact f
 ·rw[if_neg h];exact i
theorem jE (op:Int):(sgn op).size≤4:=by
 unfold sgn
 refine aO _ _ _ _ (show 1≤4 by omega) (aO _ _ _ _ (show 1≤4 by omega) (aO _ _ _ _ (show 1≤4 by omega) (aO _ _ _ _ (show 1≤4 by omega) (aO _ _ _ _ (show 1≤4 by omega)
  (aO _ _ _ _ (show 1≤4 by omega) (aO _ _ _ _ (show 2≤4 by omega) (aO _ _ _ _ (show 1≤4 by omega) (aO _ _ _ _ (show 2≤4 by omega) (aO _ _ _ _ (show 1≤4 by omega) (aO _ _ _ _ (show 2≤4 by omega)
  (aO _ _ _ _ (show 4≤4 by omega) (aO _ _ _ _ (show 3≤4 by omega) (aO _ _ _ _ (show 2≤4 by omega) (show 0≤4 by omega))))))))))))))
def brk (op:Int) (s:BA) (r:Int):BA:=if lvl op<r then ⟨#[40]⟩++s++⟨#[41]⟩else s
theorem jF (op:Int) (s:BA) (r:Int):(brk op s r).size≤s.size+2:=by
 unfold brk
 split
 ·rw[ByteArray.size_append,ByteArray.size_append]
  show 1+s.size+1≤_
  omega
 ·omega
def plD (d:Nd) (xs:List (Int×BA)):BA:=
 let x:=xs.getD 0 (0,⟨#[]⟩)
 let y:=xs.getD 1 (0,⟨#[]⟩)
 if d.op=1 then (if d.vk=1 then itoB d.vi else if d.vk=2 then ⟨#[39]⟩++oL d.vt++⟨#[39]⟩else ⟨#[78,85,76,76]⟩)
 else if d.op=2 then (if d.tb.size=0 then d.nm else d.tb++⟨#[46]⟩++d.nm)
 else if d.op=3 then ⟨#[45]⟩++brk x.1 x.2 8
 else if d.op=9 then ⟨#[76,69,78,71,84,72,40]⟩++brk x.1 x.2 1++⟨#[41]⟩
 else if d.op=17 then brk x.1 x.2 5++⟨#[32,73,83,32,78,85,76,76]⟩
 else if d.op=20 then ⟨#[78,79,84,32]⟩++brk x.1 x.2 3
 else brk x.1 x.2 (if lvl d.op=4 then 5 else lvl d.op)++⟨#[32]⟩++sgn d.op++⟨#[32]⟩++brk y.1 y.2 (lvl d.op+1)
mutual
def Ex.pl:Ex→BA
 | .mk d ks=>plD d (plL ks)
def plL:List Ex→List (Int×BA)
 | []=> []
 |e::es=> (e.d.op,e.pl)::plL es
end
def Ex.tx (e:Ex) (r:Int):BA:=brk e.d.op e.pl r
theorem plL_eq (l:List Ex):plL l=l.map fun e=> (e.d.op,e.pl):=by
 induction l with
 |nil=>rfl
 |cons e l ih=>rw[plL,ih];rfl
theorem bT {s:BA} (h:nameB s=true):s.size≤24:=by
 unfold nameB lU at h
 simp only[Bool.and_eq_true,decide_eq_true_eq,N_len]at h
 omega
theorem iE {d:Nd} (h:d.litB=true):d.vt.size≤16∧(d.vk=1→0≤d.vi∧d.vi≤2147483648)∧(d.vk=0∨d.vk=1∨d.vk=2):=by
 unfold Nd.litB hU at h
 split at h
 ·simp only[Bool.and_eq_true,beq_iff_eq]at h;omega
 ·split at h
  ·simp only[Bool.and_eq_true,beq_iff_eq,decide_eq_true_eq]at h;omega
  ·split at h
   ·simp only[Bool.and_eq_true,beq_iff_eq,decide_eq_true_eq]at h;omega
   ·cases h
theorem aN {d:Nd} {ks:List Ex} (h:(Ex.mk d ks).formed=true):opN d.op=(ks.length:Int)∧(∀k∈ks,k.formed=true)∧ndB d (ks.map Ex.d)=true:=by
 rw[Ex.formed,ol]at h
 simpa[and_assoc] using h
theorem cQ (op:Int):(opN op=0∧(op=1∨op=2))∨(opN op=1∧(op=3∨op=9∨op=17∨op=20))∨(opN op=2∧(4≤op∧op≤8∨10≤op∧op≤16∨op=18∨op=19))∨opN op= -1:=by
 unfold opN
 split
 ·omega
 ·split
  ·omega
  ·split<;>omega
theorem oQ:∀e:Ex,e.formed=true→e.pl.size+2≤60*e.size:=by
 intro e
 induction e using Ex.ind with
 |h d ks ih=>
  intro s
  obtain⟨u,j,f⟩:=aN s
  rw[Ex.pl,plL_eq,Ex.size]
  rcases cQ d.op with ⟨h0,h4⟩|⟨h0,h4⟩|⟨h0,h4⟩|h0
  ·rcases h4 with h4|h4
   ·unfold ndB at f
    rw[if_neg (by omega),if_pos h4]at f
    simp only[Bool.and_eq_true]at f
    have y:=iE f.2
    unfold plD
    simp only[h4,if_true]
    split
    ·have:=bE d.vi (by omega) (by omega)
     omega
    ·split
     ·have:=qX d.vt
      rw[ByteArray.size_append,ByteArray.size_append]
      show 1+_+1+2≤_
      omega
     ·show 4+2≤_;omega
   ·unfold ndB at f
    rw[if_pos h4]at f
    simp only[Bool.and_eq_true,Bool.or_eq_true,beq_iff_eq]at f
    have z:=bT f.1.1
    have C:d.tb.size≤24:=by
     rcases f.1.2 with h|h
     ·omega
     ·exact bT h
    unfold plD
    rw[if_neg (by omega),if_pos h4]
    split
    ·omega
    ·rw[ByteArray.size_append,ByteArray.size_append]
     show _+1+_+2≤_
     omega
  ·obtain⟨a,rfl⟩:∃a,ks= [a]:=by
    have:ks.length=1:=by omega
    exact List.length_eq_one_iff.1 this
   have p:=ih a (by simp) (j a (by simp))
   simp only[sizeL,map_cons,map_nil]
   unfold plD
   simp only[getD_cons_zero]
   have i:=fun r=>jF a.d.op a.pl r
   rcases h4 with h4|h4|h4|h4
   all_goals
    simp only[h4]
    have l:=i 8
    have m:=i 1
    have o:=i 5
    have x:=i 3
    simp(decide:=true) only[if_false,if_true]
    first
    |(rw[ByteArray.size_append,ByteArray.size_append];show 7+_+1+2≤_;omega)
    |(rw[ByteArray.size_append];show 1+_+2≤_;omega)
    |(rw[ByteArray.size_append];show 4+_+2≤_;omega)
    |(rw[ByteArray.size_append];show _+8+2≤_;omega)
  ·obtain⟨a,b,rfl⟩:∃a b,ks= [a,b]:=by
    have:ks.length=2:=by omega
    match ks,this with
    | [a,b],_=>exact⟨a,b,rfl⟩
   have p:=ih a (by simp) (j a (by simp))
   have i:=ih b (by simp) (j b (by simp))
   simp only[sizeL,map_cons,map_nil]
   unfold plD
   rw[if_neg (by omega),if_neg (by omega),if_neg (by omega),if_neg (by omega),if_neg (by omega),if_neg (by omega)]
   simp only[ByteArray.size_append]
   have l:=jF a.d.op a.pl (if lvl d.op=4 then 5 else lvl d.op)
   have m:=jF b.d.op b.pl (lvl d.op+1)
   have o:=jE d.op
   show _+1+_+1+_+2≤_
   simp only[getD_cons_zero,getD_cons_succ]
   omega
  ·omega
theorem qY {d:Nd} {ks:List Ex} (h:(Ex.mk d ks).formed=true):d.op≠0:=by
 intro b
 obtain⟨a,_⟩:=aN h
 rw[b]at a
 unfold opN at a
 simp at a
theorem fS:∀e:Ex,e.formed=true→e.nodes=e.size:=by
 intro e
 induction e using Ex.ind with
 |h d ks ih=>
  intro f
  have i:=qY f
  obtain⟨l,j,m⟩:=aN f
  have:nodesL ks=sizeL ks:=by
   clear i l m f
   induction ks with
   |nil=>rfl
   |cons a ks ih2=>rw[nodesL,sizeL,ih a (by simp) (j a (by simp)),ih2 (fun e b=>ih e (by simp[b])) (fun e b=>j e (by simp[b]))]
  rw[Ex.nodes,Ex.size,this,if_neg i]
theorem cK (e:Ex) (r:Int) (h:e.formed=true):(e.tx r).size≤60*e.size:=by
 have a:=jF e.d.op e.pl r
 have b:=oQ e h
 unfold Ex.tx
 omega
def Nd.val (d:Nd) (A:OA) (n c:Nat):Value:=
 .agg #[i4 d.op,.string d.tb,.string d.nm,i4 d.ix,i4 d.vk,i4 d.vi,.string d.vt,.slice A n c]
def Nd.cells (d:Nd) (A:OA) (n c:Nat):LV:=
 (eC d.op d.tb d.nm d.ix d.vk d.vi d.vt A n c)
def I64 (n:Int):Prop:= -9223372036854775808≤n∧n≤9223372036854775807
structure Nd.fit (d:Nd):Prop where
 op:I64 d.op
 ix:I64 d.ix
 vk:I64 d.vk
 vi:I64 d.vi
 tb:d.tb.size≤9223372036854775807
 nm:d.nm.size≤9223372036854775807
 vt:d.vt.size≤9223372036854775807
def CellsAt (w:World) (A:OA) (o:Nat) (cs:LV):Prop:=
 ∃b off,A=some ⟨b,off,none⟩∧∀(j:Nat) (v:Value),cs[j]? =some v→w.cell? ⟨b,off+o+j,none⟩=some v
theorem CellsAt.ext {w w':World} {A:OA} {o:Nat} {cs:LV} (h:CellsAt w A o cs) (l:Ext w w'):CellsAt w' A o cs:=by
 obtain⟨b,a,f,h⟩:=h
 exact⟨b,a,f,fun j v i=>l.keep (h j v i)⟩
mutual
def ExC (w:World):Ex→LV→Prop
 | .mk d ks,cs=>d.fit∧ks.length≤9223372036854775807∧∃A c,cs=d.cells A ks.length c∧ExsAt w ks A 0
def ExsAt (w:World):List Ex→OA→Nat→Prop
 | [],_,_=>True
 |e::es,A,i=> (∃cs,CellsAt w A (i*8) cs∧ExC w e cs)∧ExsAt w es A (i+1)
end
theorem dO (w:World) (A:OA):∀(l:List Ex) (i:Nat),ExsAt w l A i↔∀(j:Nat) (e:Ex),l[j]? =some e→∃cs,CellsAt w A ((i+j)*8) cs∧ExC w e cs:=by
 intro l
 induction l with
 |nil=>intro i;simp[ExsAt]
 |cons a l ih=>
  intro i
  rw[ExsAt,ih]
  constructor
  ·rintro⟨f,m⟩ j e b
   cases j with
   |zero=>simp at b;subst b;simpa using f
   |succ j=>
    have:=m j e (by simpa using b)
    rwa [show i+1+j=i+(j+1) by omega]at this
  ·intro h
   refine⟨by simpa using h 0 a rfl,fun j e b=>?_⟩
   have:=h (j+1) e (by simpa using b)
   rwa [show i+(j+1)=i+1+j by omega]at this
def KidsAt (w:World) (A:OA) (l:List Ex):Prop:=ExsAt w l A 0
theorem exc_ext {w w':World} (p:Ext w w'):∀(e:Ex) (cs:LV),ExC w e cs→ExC w' e cs:=by
 intro e
 induction e using Ex.ind with
 |h d ks ih=>
  intro cs h
  rw[ExC]at h ⊢
  obtain⟨f,i,A,c,l,a⟩:=h
  refine⟨f,i,A,c,l,?_⟩
  rw[dO]at a ⊢
  intro j e b
  obtain⟨cs,m,o⟩:=a j e b
  exact⟨cs,m.ext p,ih e (mem_of_getElem? b) cs o⟩
theorem KidsAt.ext {w w':World} {A:OA} {l:List Ex} (h:KidsAt w A l) (a:Ext w w'):KidsAt w' A l:=by
 unfold KidsAt at*
 rw[dO]at*
 intro j e i
 obtain⟨cs,b,f⟩:=h j e i
 exact⟨cs,b.ext a,exc_ext a e cs f⟩
structure ExV (w:World) (e:Ex) (A:OA) (n c:Nat):Prop where
 len:e.ks.length=n
 le:n≤9223372036854775807
 fit:e.d.fit
 kids:KidsAt w A e.ks
theorem ExV.ext {w w':World} {e:Ex} {A:OA} {n c:Nat} (h:ExV w e A n c) (a:Ext w w'):ExV w' e A n c:=⟨h.len,h.le,h.fit,h.kids.ext a⟩
structure dI (w:World) (b o:Nat) (e:Ex) (A:OA) (n c:Nat):Prop where
 c0:w.cell? ⟨b,o,none⟩=some (i4 e.d.op)
 c1:w.cell? ⟨b,o+1,none⟩=some (.string e.d.tb)
 c2:w.cell? ⟨b,o+2,none⟩=some (.string e.d.nm)
 c3:w.cell? ⟨b,o+3,none⟩=some (i4 e.d.ix)
 c4:w.cell? ⟨b,o+4,none⟩=some (i4 e.d.vk)
 c5:w.cell? ⟨b,o+5,none⟩=some (i4 e.d.vi)
 c6:w.cell? ⟨b,o+6,none⟩=some (.string e.d.vt)
 c7:w.cell? ⟨b,o+7,none⟩=some (.slice A n c)
 val:ExV w e A n c
theorem exc_elt {w:World} {A:OA} {o:Nat} {e:Ex} {cs:LV} (j:CellsAt w A o cs) (i:ExC w e cs):∃b a h n c,A=some ⟨b,a,none⟩∧dI w b (a+o) e h n c:=by
 obtain⟨b,a,r,f⟩:=j
 cases e with
 |mk d ks=>
  rw[ExC]at i
  obtain⟨l,m,h,c,rfl,p⟩:=i
  exact⟨b,a,h,ks.length,c,r,f 0 _ rfl,f 1 _ rfl,f 2 _ rfl,f 3 _ rfl,f 4 _ rfl,f 5 _ rfl,f 6 _ rfl,f 7 _ rfl,⟨rfl,m,l,p⟩⟩
theorem KidsAt.get {w:World} {A:OA} {l:List Ex} (h:KidsAt w A l) {i:Nat} {e:Ex} (o:l[i]? =some e):∃b a j n c,A=some ⟨b,a,none⟩∧dI w b (a+i*8) e j n c:=by
 unfold KidsAt at h
 rw[dO]at h
 obtain⟨cs,f,m⟩:=h i e o
 rw[Nat.zero_add]at f
 exact exc_elt f m
def Er (w:World):Prop:=(∃te pe,w.cell? ⟨2,0,none⟩=some (.iface te pe))∧(∃te pe,w.cell? ⟨3,0,none⟩=some (.iface te pe))
end Go.Proofs.YtjigcpfjhfoheaaGreatDoor
