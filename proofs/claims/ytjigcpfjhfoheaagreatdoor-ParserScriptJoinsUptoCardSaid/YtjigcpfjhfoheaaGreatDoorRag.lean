/- Walks: ValidExpr, the program's and the reference's; Walks: numbers and texts written; Walks: expr and plain, the canonical text; Walks: plain, a binary operator; Walks: plain, the other operators; the canonical text of a well-for. -/
import Derived.Test.YtjigcpfjhfoheaaGreatDoorRaf
import Derived.WalkSmall
import Derived.Deep.Cut
import Derived.Deep.WholeRow
import Derived.Great.BuildSlice
import Derived.Great.Walk
import Derived.IntWalk
namespace Go.Proofs.YtjigcpfjhfoheaaGreatDoor
open Go.RowKit
set_option maxHeartbeats 4000000
set_option maxRecDepth 100000
set_option linter.unusedVariables false
set_option linter.unusedSimpArgs false
theorem kids_blk {w:World} {g t:Nat} {e:Ex} {A:Option Addr} {n c:Nat} (h:Blk w g t (e.d.cells A n c)) (a:ExV w e A n c):KidsAt w (some ⟨g,0,none⟩) [e]:=by
 unfold KidsAt
 rw[cD]
 intro j x f
 cases j with
 |zero=>
  simp at f
  subst f
  refine⟨e.d.cells A n c,⟨g,0,rfl,fun j v i=>?_⟩,?_⟩
  ·rw[show 0+(0+0)*8+j=j by omega]
   exact h.cell_some i
  ·obtain⟨d,ks⟩:=e
   rw[ExC]
   have b:=a.len
   have b:ks.length=n:=b
   subst b
   exact⟨a.fit,a.le,A,c,rfl,a.kids⟩
 |succ j=>simp at f
def largeB (l:List Ex):Bool:=decide (400<nodesL l)||l.any fun e=>decide (50<e.depth)
theorem ent69:Ent 112:=fun _ _=>by kernel_rfl
theorem large1 (x:Ex) (A:Option Addr) (n c:Nat) (w:World) (h:ExV w x A n c) (g:x.nodes≤100000000):
  Calls Tryz.prog 112 #[x.d.val A n c] w fun r w'=>r= .returned (.bool (decide (50<x.depth)))∧Ext w w':=by
 have H:=hid (fun W (i:Ext w W)=>depth_any x A n c W (h.ext i) g)
 have j:x.depth≤100000000:=Nat.le_trans ((dq [x]).2 x (by simp)) g
 clear h g
 unfold Nd.val at*
 generalize x.depth=D at*
 by_cases e:50<D
 ·have b:decide ((50:Int)<(D:Int))=true:=by simp;omega
  have f:=hid (show decide (50<D)=true by simpa using e)
  clear e
  go_enter Tryz.func112,Tryz.ntmps112
  go_wp2_with (go_at_call 113;refine(H _ ((Ext.refl w).alloc _)).mono ?_;rintro _ k ⟨rfl,a⟩)
  go_ret
  exact⟨aa f.symm,((Ext.refl w).alloc _).trans a⟩
 ·have b:decide ((50:Int)<(D:Int))=false:=by simp;omega
  have f:=hid (show decide (50<D)=false by simpa using e)
  clear e
  go_enter Tryz.func112,Tryz.ntmps112
  go_wp2_with (go_at_call 113;refine(H _ ((Ext.refl w).alloc _)).mono ?_;rintro _ k ⟨rfl,a⟩)
  go_ret
  exact⟨aa f.symm,((Ext.refl w).alloc _).trans a⟩
theorem jO (l:List Ex) (A:Option Addr) (n c:Nat) (w:World) (k:l.length=n) (s:n≤9223372036854775807) (j:KidsAt w A l):
  Calls Tryz.prog 62 #[.slice A n c] w fun r w'=>r= .returned (.bool (largeB l))∧Ext w w':=by
 have g:=hid (pg (sizeL l) l A n c 400 w (Nat.le_refl _) k s j (by omega))
 have h:Hid (largeB l=(decide (400<nodesL l)||l.any fun e=>decide (50<e.depth))):=rfl
 by_cases i:400<nodesL l
 ·have a:min (nodesL l) (400+1)=401:=by omega
  rw[a]at g
  have m:Hid (largeB l=true):=by unfold Hid;rw[h.out];simp[i]
  clear i a h j k
  go_enter Tryz.func62,Tryz.ntmps62
  go_wp2_with (go_at_call 110;refine g.mono ?_;rintro _ F ⟨rfl,f⟩)
  go_ret
  exact⟨aa m.symm,f⟩
 ·have a:min (nodesL l) (400+1)=nodesL l:=by omega
  rw[a]at g
  have m:Hid (largeB l=l.any fun e=>decide (50<e.depth)):=by unfold Hid;rw[h.out];simp[i]
  have u:Hid (∀W,Ext w W→Calls Tryz.prog 111 #[.slice A n c,.func (Fn.func 112) #[] #[]] W fun r w'=>r= .returned (.bool (l.any fun e=>decide (50<e.depth)))∧Ext W w'):=by
   intro W z
   refine kh 112 ent69 _ l A n c W k s (j.ext z) ?_
   intro x D t E c' y C p
   exact large1 x t E c' y p (by have:=jJ D;omega)
  have b:decide ((400:Int)<((nodesL l:Nat):Int))=false:=by simp;omega
  generalize (l.any fun e=>decide (50<e.depth))=B at*
  generalize nodesL l=M at*
  clear i a h j k
  go_enter Tryz.func62,Tryz.ntmps62
  go_wp2_with (first|(go_at_call 110;refine g.mono ?_;rintro _ F ⟨rfl,f⟩)|(go_at_call 111;refine(u _ f).mono ?_;rintro _ G ⟨rfl,o⟩))
  go_ret
  exact⟨aa m.symm,f.trans o⟩
def validE (e:Ex):Int:=if largeB [e]=true then 3 else if e.formed=true then 0 else 1
theorem mV (e:Ex):largeB [e]=(decide (400<e.nodes)||decide (50<e.depth)):=by
 unfold largeB
 rw[nodesL,nodesL]
 simp
theorem valid_any (e:Ex) (A:Option Addr) (n c:Nat) (w:World) (l:ExV w e A n c) (t:Sh w):
  Calls Tryz.prog 40 #[e.d.val A n c] w fun r w'=>r= .returned (.int .i64 (validE e))∧Ext w w':=by
 have p:Hid (validE e=if largeB [e]=true then 3 else if e.formed=true then 0 else 1):=rfl
 have s:Hid (∀W g,Ext w W→Blk W g 37 (e.d.cells A n c)→Calls Tryz.prog 62 #[.slice (some ⟨g,0,none⟩) 1 1] W fun r w'=>r= .returned (.bool (largeB [e]))∧Ext W w'):=
  fun W g i f=>jO [e] _ 1 1 W rfl (by omega) (kids_blk f (l.ext i))
 have u:=hid (fun W (i:Ext w W)=>dA e A n c W (l.ext i) (t.ext i))
 clear l t
 have f:=Blk.of_new (w.alloc (.cells (e.d.cells A n c).toArray 37)) 37 (e.d.cells A n c)
 rw[show(w.alloc (.cells (e.d.cells A n c).toArray 37)).heap.size=w.heap.size+1 by simp]at f
 have o:=hid f
 clear f
 have j:=hid (Blk.of_new w 37 (e.d.cells A n c))
 have b:=hid ((((Ext.refl w).alloc (.cells (e.d.cells A n c).toArray 37))).alloc (.cells (e.d.cells A n c).toArray 37))
 have k:=hid (((Ext.refl (w.alloc (.cells (e.d.cells A n c).toArray 37))).alloc (.cells (e.d.cells A n c).toArray 37)))
 unfold Nd.val at*
 unfold Nd.cells at*
 generalize validE e=R at*
 generalize largeB [e]=Z at*
 generalize e.formed=Y at*
 generalize e.d=d at*
 obtain⟨op,tb,nm,ix,vk,vi,vt⟩:=d
 simp only at*
 cases Z
 ·cases Y
  all_goals
   go_enter Tryz.func40,Tryz.ntmps40
   go_wp2_with (first|(go_at_call 62;refine(s _ _ b o).mono ?_;rintro _ x ⟨rfl,a⟩;have h:=(j.ext k).ext a;obtain⟨c0,c1,c2,c3,c4,c5,c6,c7,-⟩:=cls h;clear h)|(go_at_call 79;refine(u _ (b.trans a)).mono ?_;rintro _ y ⟨rfl,m⟩))
   go_ret
   exact⟨aS (by rw[p.out];rfl),(b.trans a).trans m⟩
 ·go_enter Tryz.func40,Tryz.ntmps40
  go_wp2_with (go_at_call 62;refine(s _ _ b o).mono ?_;rintro _ x ⟨rfl,a⟩)
  go_ret
  exact⟨aS (by rw[p.out];rfl),b.trans a⟩
theorem qv (e:Ex) (A:Option Addr) (n c:Nat) (w:World) (z:ExV w e A n c):
  Calls Tryz.prog 42 #[e.d.val A n c] w fun r w'=>r= .returned (.int .i64 (validE e))∧Ext w w':=by
 have m:Hid (validE e=if largeB [e]=true then 3 else if e.formed=true then 0 else 1):=rfl
 have j:=hid (mV e)
 have s:=hid (fun W (u:Ext w W)=>ph e A n c 400 W (z.ext u) (by omega))
 have H:=hid (fun W (u:Ext w W)=>cC e A n c W (z.ext u))
 have o:=hid (Blk.of_new w 37 (e.d.cells A n c))
 have k:=hid ((Ext.refl w).alloc (.cells (e.d.cells A n c).toArray 37))
 by_cases B:400<e.nodes
 ·have f:min e.nodes (400+1)=401:=by omega
  rw[f]at s
  have t:Hid (validE e=3):=by unfold Hid;rw[m.out,j.out];simp[B]
  clear z m j f B
  unfold Nd.val at*
  unfold Nd.cells at*
  generalize validE e=R at*
  generalize e.formed=Y at*
  generalize e.d=d at*
  obtain⟨op,tb,nm,ix,vk,vi,vt⟩:=d
  simp only at*
  go_enter Tryz.func42,Tryz.ntmps42
  go_wp2_with (go_at_call 73;refine(s _ k).mono ?_;rintro _ G ⟨rfl,a⟩)
  go_ret
  exact⟨aS t.symm,k.trans a⟩
 ·have f:min e.nodes (400+1)=e.nodes:=by omega
  rw[f]at s
  have F:=hid (fun W (u:Ext w W)=>ll e A n c W (z.ext u) (by omega))
  have J:e.depth≤400:=Nat.le_trans ((dq [e]).2 e (by simp)) (by omega)
  have b:decide ((400:Int)<((e.nodes:Nat):Int))=false:=by simp;omega
  have K:e.nodes≤400:=by omega
  have h:Hid (largeB [e]=decide (50<e.depth)):=by unfold Hid;rw[j.out];simp[B]
  clear z j f B
  have l:∀ {x:Nat},e.depth=x→True:=fun _=>trivial
  by_cases C:50<e.depth
  ·have I:decide ((50:Int)<((e.depth:Nat):Int))=true:=by simp;omega
   have t:Hid (validE e=3):=by unfold Hid;rw[m.out,h.out];simp[C]
   clear C l m h
   unfold Nd.val at*
   unfold Nd.cells at*
   generalize validE e=R at*
   generalize e.formed=Y at*
   generalize e.depth=D at*
   generalize e.nodes=M at*
   generalize e.d=d at*
   obtain⟨op,tb,nm,ix,vk,vi,vt⟩:=d
   simp only at*
   go_enter Tryz.func42,Tryz.ntmps42
   go_wp2_with (first|(go_at_call 73;refine(s _ k).mono ?_;rintro _ G ⟨rfl,a⟩;have g:=o.ext a;obtain⟨c0,c1,c2,c3,c4,c5,c6,c7,-⟩:=cls g;have p:=hid g;clear g)|(go_at_call 74;refine(F _ (k.trans a)).mono ?_;rintro _ L ⟨rfl,i⟩))
   go_ret
   exact⟨aS t.symm,(k.trans a).trans i⟩
  ·have I:decide ((50:Int)<((e.depth:Nat):Int))=false:=by simp;omega
   have t:Hid (validE e=if e.formed=true then 0 else 1):=by unfold Hid;rw[m.out,h.out];simp[C]
   clear C l m h
   unfold Nd.val at*
   unfold Nd.cells at*
   generalize validE e=R at*
   generalize e.formed=Y at*
   generalize e.depth=D at*
   generalize e.nodes=M at*
   generalize e.d=d at*
   obtain⟨op,tb,nm,ix,vk,vi,vt⟩:=d
   simp only at*
   cases Y
   all_goals
    go_enter Tryz.func42,Tryz.ntmps42
    go_wp2_with (first|(go_at_call 73;refine(s _ k).mono ?_;rintro _ G ⟨rfl,a⟩;have g:=o.ext a;obtain⟨c0,c1,c2,c3,c4,c5,c6,c7,-⟩:=cls g;have p:=hid g;clear g)|(go_at_call 74;refine(F _ (k.trans a)).mono ?_;rintro _ L ⟨rfl,i⟩;have y:=p.ext i;obtain⟨O,P,Q,U,V,X,Z,d7,-⟩:=cls y;clear y)|(go_at_call 84;refine(H _ ((k.trans a).trans i)).mono ?_;rintro _ w4 ⟨rfl,E⟩))
    go_ret
    exact⟨aS (by rw[t.out];rfl),((k.trans a).trans i).trans E⟩
theorem t_inj {a b:ByteArray} (h:a.data.toList=b.data.toList):a=b:=by
 obtain⟨⟨l⟩⟩:=a
 obtain⟨⟨m⟩⟩:=b
 simp at h
 rw[h]
theorem ext_grow (w:World) (k:Nat) (a:Array Obj):Ext w (Go.Sort.grow (w.drewN k) a):=
 ⟨rfl,rfl,rfl,by simp[Go.Sort.grow],fun i hi=>by
  show(w.heap++a)[i]? =w.heap[i]?
  rw[Array.getElem?_append_left hi]⟩
def Tab (w:World):Prop:=Lib.TabIs Tryz.prog w "internal/strconv.uint64pow10" .u64 Lib.pow10Tab∧4<w.heap.size
theorem gTab:Tryz.prog.globalNamed "internal/strconv.uint64pow10" =some 4:=by kernel_rfl
theorem Tab.ext {w w':World} (h:Tab w) (a:Ext w w'):Tab w':=
 ⟨var?_below a gTab (by have:=h.2;omega) h.1,Nat.le_trans h.2 a.size⟩
def Can (w:World) (n:Int):Prop:=(0≤n∧n<100)∨(Tab w∧ -9223372036854775808≤n∧n≤9223372036854775807)
theorem Can.ext {w w':World} {n:Int} (h:Can w n) (a:Ext w w'):Can w' n:=by
 rcases h with h|⟨h,k⟩
 ·exact .inl h
 ·exact .inr ⟨h.ext a,k⟩
theorem qw (n:Int) (w:World) (h:Can w n):Calls Tryz.prog 253 #[.int .i64 n,.int .i64 10] w fun e w'=>e= .returned (.string (itoB n))∧Ext w w':=by
 rcases h with ⟨h0,h1⟩|⟨ht,h0,h1⟩
 ·obtain⟨i,rfl⟩:∃i:Nat,n=(i:Int):=⟨n.toNat,by omega⟩
  refine(Tryz.strconv_FormatInt_10_small i (by omega) w).mono ?_
  rintro e w' ⟨rfl,rfl⟩
  refine⟨dP ?_,Ext.refl _⟩
  unfold itoB Lib.itoa
  rw[if_neg (by omega)]
  rfl
 ·refine(Tryz.strconv_FormatInt_10 n h0 h1 w ht.1).mono ?_
  rintro e w' ⟨rfl,k,a,rfl⟩
  exact⟨rfl,ext_grow w k a⟩
theorem countB_le (t:ByteArray):Lib.countB t ⟨#[39]⟩≤t.size+1:=Lib.count_le t.data.toList [39]
theorem repl_any (t:ByteArray) (w:World) (h:Sh w) (hs:t.size≤1000):Calls Tryz.prog 257 #[.string t,.string ⟨#[39]⟩,.string ⟨#[39,39]⟩] w fun e w'=>e= .returned (.string (kt t))∧Ext w w':=by
 obtain⟨m,b⟩:=h
 have g:=countB_le t
 have a:(⟨#[39,39]⟩:ByteArray).size=2:=rfl
 refine(Tryz.strings_ReplaceAll t ⟨#[39]⟩ ⟨#[39,39]⟩ m w (by omega) b (Nat.le_refl 1) (by rw[a];omega)).mono ?_
 rintro e w' ⟨rfl,f⟩
 refine⟨dP ?_,f⟩
 show(⟨(Lib.replaceAll t.data.toList [39] [39,39]).toArray⟩:ByteArray)=kt t
 rw[qm]
 rfl
theorem number_any (n:Int) (w:World) (h:Can w n):Calls Tryz.prog 202 #[.int .i64 n] w fun e w'=>e= .returned (.string (itoB n))∧Ext w w':=by
 have H:=hid (qw n w h)
 clear h
 go_enter Tryz.func202,Tryz.ntmps202
 go_wp2_with (go_at_call 253;refine H.mono ?_;rintro _ b ⟨rfl,a⟩)
 go_ret
 exact⟨rfl,a⟩
theorem mW {u:Nat} (h:u<10):Lib.decDigits u= [UInt8.ofNat (48+u)]:=by rw[Lib.decDigits,dif_pos h]
theorem dec_big {u:Nat} (h:¬u<10):Lib.decDigits u=Lib.decDigits (u/10)++ [UInt8.ofNat (48+u%10)]:=by rw[Lib.decDigits,dif_neg h]
theorem dec_len (u:Nat) (h:u<18446744073709551616):(Lib.decDigits u).length≤20:=by rw[Lib.decDigits_length];exact Lib.nDigits_le20 u h
def decB (u:Nat):ByteArray:=⟨(Lib.decDigits u).toArray⟩
theorem jP (u:Nat) (h:u<18446744073709551616):(decB u).size≤20:=by
 have:=dec_len u h
 show((Lib.decDigits u).toArray).size≤20
 simpa using this
theorem qx {u:Nat} (h:u<10):decB u=S [48+u]:=by
 unfold decB S
 rw[mW h];rfl
theorem decB_big {u:Nat} (h:¬u<10):decB u=decB (u/10)++decB (u%10):=by
 apply t_inj
 unfold decB
 rw[dec_big h,mW (Nat.mod_lt _ (by omega))]
 simp
theorem pp:∀(u:Nat) (w:World),u≤9223372036854775807→Calls Tryz.prog 91 #[.int .i64 (u:Int)] w fun e w'=>e= .returned (.string (decB u))∧Ext w w':=by
 intro u
 induction u using Nat.strongRecOn with
 |ind u ih=>
  intro w x
  have t:decide ((u:Int)<0)=false:=by simp
  by_cases b:u<10
  ·have n:decide ((u:Int)<10)=true:=by simp;omega
   have f:=conv_one (P:=Tryz.prog) 60 9 5 (48+u) Tryz.underlying60 Tryz.underlying5 Tryz.underlying9
   have a:((48+u:Nat):Int)=48+(u:Int):=by omega
   rw[a,←qx b]at f
   clear a
   have o:(u:Int)<10:=by omega
   clear b ih
   generalize decB u=C at*
   go_enter Tryz.func91,Tryz.ntmps91
   go_wp2_with fail
   go_ret
   exact⟨rfl,(Ext.refl w).alloc _⟩
  ·have n:decide ((u:Int)<10)=false:=by simp;omega
   have m:=hid (decB_big b)
   have i:=hid (fun W=>ih (u/10) (by omega) W (by omega))
   have j:=hid (fun W=>ih (u%10) (by have:=Nat.mod_lt u (show 10>0 by omega);omega) W (by omega))
   have p:=jP (u/10) (by omega)
   have r:=jP (u%10) (by omega)
   have k:((u/10:Nat):Int)=(u:Int) /10:=by omega
   have l:((u%10:Nat):Int)=(u:Int) %10:=by omega
   rw[k]at i
   rw[l]at j
   clear k l ih
   generalize decB (u/10)=X at*
   generalize decB (u%10)=Y at*
   have y:X.size≤1000:=by omega
   have z:Y.size≤1000:=by omega
   have s:=hid b
   clear b p r
   go_enter Tryz.func91,Tryz.ntmps91
   go_wp2_with (first|(go_at_call 91;(with_reducible refine(i.out _).mono ?_);rintro _ A ⟨rfl,g⟩)|(go_at_call 91;(with_reducible refine(j.out _).mono ?_);rintro _ B ⟨rfl,h⟩))
   go_ret
   exact⟨dP m.symm,g.trans h⟩
theorem itoB_pos (u:Nat):itoB (u:Int)=decB u:=by
 unfold itoB Lib.itoa decB
 rw[if_neg (by omega)];rfl
theorem itoB_neg (n:Int) (h:n<0):itoB n=⟨#[45]⟩++decB n.natAbs:=by
 apply t_inj
 unfold itoB Lib.itoa decB
 rw[if_pos h]
 simp
theorem fh (n:Int) (w:World) (i: -9223372036854775808<n) (j:n≤9223372036854775807):Calls Tryz.prog 91 #[.int .i64 n] w fun e w'=>e= .returned (.string (itoB n))∧Ext w w':=by
 by_cases f:n<0
 ·have H:=hid (fun W=>pp n.natAbs W (by omega))
  have b:(n.natAbs:Int)= -n:=by omega
  rw[b]at H
  have g:=hid (itoB_neg n f)
  have s:=jP n.natAbs (by omega)
  have h:decide (n<0)=true:=by simpa using f
  generalize decB n.natAbs=X at*
  have k:X.size≤1000:=by omega
  clear b s
  go_enter Tryz.func91,Tryz.ntmps91
  go_wp2_with (go_at_call 91;refine(H _).mono ?_;rintro _ l ⟨rfl,a⟩)
  go_ret
  exact⟨dP g.symm,a⟩
 ·obtain⟨u,rfl⟩:∃u:Nat,n=(u:Int):=⟨n.toNat,by omega⟩
  rw[itoB_pos]
  exact pp u w (by omega)
theorem quo_snoc (s:ByteArray) (k:Nat) (h:k<s.size):quo (s.data.toList.take (k+1))=quo (s.data.toList.take k)++(if s[k]=39 then [39,39]else [s[k]]):=by
 have a:k<s.data.toList.length:=by simpa using h
 rw[List.take_succ_eq_append_getElem a,quo_app]
 congr 1
theorem ext1 (s:ByteArray) (k:Nat) (h:k<s.size):(s.extract k (k+1)).data.toList= [s[k]]:=by
 rw[Lib.extract_data]
 have a:k<s.data.toList.length:=by simpa using h
 rw[show k+1-k=1 by omega,List.drop_eq_getElem_cons a,Array.getElem_toList]
 rfl
theorem qy (s:ByteArray) (w:World) (hs:s.size≤1000):Calls Tryz.prog 92 #[.string s] w fun e w'=>e= .returned (.string (⟨#[39]⟩++kt s++⟨#[39]⟩))∧Ext w w':=by
 have n:Hid (∀X:ByteArray,X.data.toList=39::quo s.data.toList→X++⟨#[39]⟩=⟨#[39]⟩++kt s++⟨#[39]⟩):=by
  intro X g
  apply t_inj
  rw[ByteArray.data_append,Array.toList_append,g]
  unfold kt
  simp
 go_enter Tryz.func92,Tryz.ntmps92
 go_wp2_with fail
 go_loop [3,4] (fun sv x=> ∃(k:Nat) (X:ByteArray),k≤s.size∧x= .int .i64 k∧sv= .string X∧X.data.toList=39::quo (s.data.toList.take k)) (fun _ i=>s.size- (intOf i).toNat)
 case atStart=>exact⟨0,⟨#[39]⟩,Nat.zero_le _,rfl,rfl,rfl⟩
 case round=>
  obtain⟨k,X,A,rfl,rfl,g⟩:=hrel
  have m:=hid g
  have u:X.size≤2001:=by
   have y:=nG (s.data.toList.take k)
   have z:(s.data.toList.take k).length≤k:=by rw[List.length_take];omega
   have p:X.size=X.data.toList.length:=rfl
   rw[p,g,List.length_cons]
   omega
  clear g
  by_cases j:k<s.size
  ·have l:=hid (quo_snoc s k j)
   have b:=hid (ext1 s k j)
   have r:(s.extract k (k+1)).size≤1:=by
    have:(s.extract k (k+1)).size=(s.extract k (k+1)).data.toList.length:=rfl
    rw[this,b.out];simp
   have B:(0:Int)≤(k:Int):=by omega
   by_cases a:s[k]=39
   ·have o:((s[k].toNat:Int)==39)=true:=by rw[a];rfl
    have f:Hid (((X++⟨#[39]⟩)++s.extract k (k+1)).data.toList=39::quo (s.data.toList.take (k+1))):=by
     unfold Hid
     rw[l.out,if_pos a,ByteArray.data_append,Array.toList_append,ByteArray.data_append,Array.toList_append,m.out,b.out,a]
     simp
    have t:(X++⟨#[39]⟩:ByteArray).size≤2002:=by rw[ByteArray.size_append];show X.size+1≤2002;omega
    clear a l b
    go_wp2_with fail
    go_round
    case rel=>exact⟨k+1,_,by omega,by go_num,rfl,f⟩
    case measure=>simp[intOf];omega
   ·have o:((s[k].toNat:Int)==39)=false:=by
     rw[beq_eq_false_iff_ne]
     intro h
     apply a
     apply UInt8.toNat_inj.1
     show s[k].toNat=39
     omega
    have f:Hid ((X++s.extract k (k+1)).data.toList=39::quo (s.data.toList.take (k+1))):=by
     unfold Hid
     rw[l.out,if_neg a,ByteArray.data_append,Array.toList_append,m.out,b.out]
     simp
    clear a l b
    go_wp2_with fail
    go_round
    case rel=>exact⟨k+1,_,by omega,by go_num,rfl,f⟩
    case measure=>simp[intOf];omega
  ·have f:=hid (n X (by rw[m.out,List.take_of_length_le (by simp;omega)]))
   go_wp2_with fail
   go_ret
   exact⟨dP f,Ext.refl w⟩
structure Gd (w:World):Prop where
 sh:Sh w
 tab:Tab w
theorem Gd.ext {w w':World} (h:Gd w) (a:Ext w w'):Gd w':=⟨h.sh.ext a,h.tab.ext a⟩
theorem Gd.can {w:World} (h:Gd w) {n:Int} (a:I64 n):Can w n:= .inr ⟨h.tab,a.1,a.2⟩
theorem ig (e:Ex) (r:Int) (A:Option Addr) (n c:Nat) (w:World) (hs:e.pl.size≤100000)
  (p:∀W,Ext w W→Calls Tryz.prog 206 #[e.d.val A n c] W fun r w'=>r= .returned (.string e.pl)∧Ext W w'):
  Calls Tryz.prog 131 #[e.d.val A n c,.int .i64 r] w fun x w'=>x= .returned (.string (e.tx r))∧Ext w w':=by
 have o:=hid p
 have m:=hid (jL e A n c)
 have i:Hid (e.tx r=brk e.d.op e.pl r):=rfl
 have f:Hid (∀s,brk e.d.op s r=if lvl e.d.op<r then ⟨#[40]⟩++s++⟨#[41]⟩else s):=fun _=>rfl
 have l:=hid (Blk.of_new w 37 (e.d.cells A n c))
 have j:=hid ((Ext.refl w).alloc (.cells (e.d.cells A n c).toArray 37))
 clear p
 generalize e.tx r=R at*
 generalize e.pl=P at*
 by_cases h:lvl e.d.op<r
 ·have t:decide (lvl e.d.op<r)=true:=by simpa using h
  have k:Hid (R=⟨#[40]⟩++P++⟨#[41]⟩):=by unfold Hid;rw[i.out,f.out,if_pos h]
  clear h i f
  generalize lvl e.d.op=L at*
  unfold Nd.val at*
  unfold Nd.cells at*
  generalize e.d=d at*
  obtain⟨op,tb,nm,ix,vk,vi,vt⟩:=d
  simp only at*
  go_enter Tryz.func131,Tryz.ntmps131
  go_wp2_with (first|(go_at_call 206;refine(o _ j).mono ?_;rintro _ u ⟨rfl,b⟩;have a:=l.ext b;obtain⟨c0,c1,c2,c3,c4,c5,c6,c7,-⟩:=cls a;clear a)|(go_at_call 207;refine(m _).mono ?_;rintro _ y ⟨rfl,g⟩))
  go_ret
  exact⟨dP k.symm,(j.trans b).trans g⟩
 ·have t:decide (lvl e.d.op<r)=false:=by simpa using h
  have k:Hid (R=P):=by unfold Hid;rw[i.out,f.out,if_neg h]
  clear h i f
  generalize lvl e.d.op=L at*
  unfold Nd.val at*
  unfold Nd.cells at*
  generalize e.d=d at*
  obtain⟨op,tb,nm,ix,vk,vi,vt⟩:=d
  simp only at*
  go_enter Tryz.func131,Tryz.ntmps131
  go_wp2_with (first|(go_at_call 206;refine(o _ j).mono ?_;rintro _ u ⟨rfl,b⟩;have a:=l.ext b;obtain⟨c0,c1,c2,c3,c4,c5,c6,c7,-⟩:=cls a;clear a)|(go_at_call 207;refine(m _).mono ?_;rintro _ y ⟨rfl,g⟩))
  go_ret
  exact⟨dP k.symm,(j.trans b).trans g⟩
def em:Array Value:=#[.string ⟨#[]⟩,.string ⟨#[]⟩,.string ⟨#[]⟩,.string ⟨#[]⟩,.string ⟨#[43]⟩,.string ⟨#[45]⟩,.string ⟨#[42]⟩,.string ⟨#[47]⟩,.string ⟨#[37]⟩,.string ⟨#[]⟩,.string ⟨#[61]⟩,.string ⟨#[60,62]⟩,.string ⟨#[60]⟩,.string ⟨#[60,61]⟩,
 .string ⟨#[62]⟩,.string ⟨#[62,61]⟩,.string ⟨#[76,73,75,69]⟩,.string ⟨#[]⟩,.string ⟨#[65,78,68]⟩,.string ⟨#[79,82]⟩]
def zerC:Array Value:=Array.replicate 20 (.string ⟨#[]⟩)
theorem lD (op:Int) (h:4≤op∧op≤8∨10≤op∧op≤16∨op=18∨op=19):em.toList[op.toNat]? =some (.string (sgn op)):=by
 have b:∀k:Nat,(k<20∧(4≤k∧k≤8∨10≤k∧k≤16∨k=18∨k=19))→em.toList[k]? =some (.string (sgn (k:Int))):=by
  intro k ⟨e,f⟩
  have a:k=4∨k=5∨k=6∨k=7∨k=8∨k=10∨k=11∨k=12∨k=13∨k=14∨k=15∨k=16∨k=18∨k=19:=by omega
  rcases a with rfl|rfl|rfl|rfl|rfl|rfl|rfl|rfl|rfl|rfl|rfl|rfl|rfl|rfl<;>rfl
 have:=b op.toNat (by omega)
 rwa [show((op.toNat:Nat):Int)=op by omega]at this
theorem pc_bin4 (op:Int) (tb nm:ByteArray) (ix vk vi:Int) (vt:ByteArray) (b i:Nat) (n c:Nat) (w:World) (x y:Ex) (X Y:ByteArray) (H I:Option Addr) (V Z c1 c2:Nat)
  (t:4≤op∧op≤8∨10≤op∧op≤16∨op=18∨op=19) (hn:n=2) (hX:X.size≤100000) (hY:Y.size≤100000)
  (P:cq w b (i+0*8) x H V c1) (Q:cq w b (i+1*8) y I Z c2) (b4:(lvl op==4)=true)
  (R:∀W,Ext w W→Calls Tryz.prog 131 #[x.d.val H V c1,.int .i64 5] W fun r w'=>r= .returned (.string X)∧Ext W w')
  (U:∀W,Ext w W→Calls Tryz.prog 131 #[y.d.val I Z c2,.int .i64 (lvl op+1)] W fun r w'=>r= .returned (.string Y)∧Ext W w'):
  Calls Tryz.prog 206 #[.agg #[.int .i64 op,.string tb,.string nm,.int .i64 ix,.int .i64 vk,.int .i64 vi,.string vt,.slice (some ⟨b,i,none⟩) n c]] w fun r w'=>r= .returned (.string (X++⟨#[32]⟩++sgn op++⟨#[32]⟩++Y))∧Ext w w':=by
 subst hn
 have b1:(op==1)=false:=by rw[beq_eq_false_iff_ne];omega
 have b2:(op==2)=false:=by rw[beq_eq_false_iff_ne];omega
 have b3:(op==3)=false:=by rw[beq_eq_false_iff_ne];omega
 have b9:(op==9)=false:=by rw[beq_eq_false_iff_ne];omega
 have ac:(op==17)=false:=by rw[beq_eq_false_iff_ne];omega
 have ad:(op==20)=false:=by rw[beq_eq_false_iff_ne];omega
 have ax:=fS op
 have HS:=hid (lD op t)
 have A:=hid (fun W=>jL (.mk ⟨op,tb,nm,ix,vk,vi,vt⟩ []) (some ⟨b,i,none⟩) 2 c W)
 have f:=hid P
 have h:=hid Q
 have J:=hid R
 have K:=hid U
 have o0:(0:Int)≤op:=by omega
 have o1:op<20:=by omega
 have E:1≤lvl op∧lvl op≤8:=by unfold lvl;repeat' split<;>try omega
 clear P Q R U t
 unfold Nd.val at A J K
 simp only[Ex.d]at A
 generalize lvl op=L at*
 obtain⟨ag,an⟩:=E
 generalize sgn op=G at*
 have HB:=hid (Blk.of_new w 37 (eC op tb nm ix vk vi vt (some ⟨b,i,none⟩) 2 c))
 have HX:=hid ((Ext.refl w).alloc (.cells #[.int .i64 op,.string tb,.string nm,.int .i64 ix,.int .i64 vk,.int .i64 vi,.string vt,.slice (some ⟨b,i,none⟩) 2 c] 37))
 go_enter Tryz.func206,Tryz.ntmps206
 go_upto_region 21 with fail
 generalize w.alloc (.cells #[.int .i64 op,.string tb,.string nm,.int .i64 ix,.int .i64 vk,.int .i64 vi,.string vt,.slice (some ⟨b,i,none⟩) 2 c] 37)=k at*
 generalize w.heap.size=g at*
 apply wp_region_lit
 refine wpList_buildTo rfl 213 _ rfl (some 72) rfl em (by kernel_rfl) ?_
 refine Great.wpList_allocTo rfl (some 3) rfl (.pointer (some ⟨k.heap.size,0,none⟩)) (.cells zerC 213) (by kernel_rfl) ?_
 refine wpList_store_rowTo rfl 213 (.tmp 3) (.tmp 72) rfl rfl k.heap.size em rfl rfl 213 zerC (heap_alloc_new k _) (by kernel_rfl) (by kernel_rfl) (by kernel_rfl) ?_
 apply wpList_nil
 rw[World.setRow_alloc_new]
 have l:=hid (HB.ext ((Ext.refl k).alloc (.cells em 213)))
 have D:=hid (HX.alloc (.cells em 213))
 have O:=hid (Blk.of_new k 213 em.toList)
 have s:(.cells em.toList.toArray 213:Obj)= .cells em 213:=rfl
 rw[s]at O
 clear s
 generalize k.alloc (.cells em 213)=w2 at*
 generalize k.heap.size=ga at*
 have e:=l.out
 have c0:=e.cell 0
 have m:=e.cell 1
 have o:=e.cell 2
 have c3:=e.cell 3
 have c4:=e.cell 4
 have c5:=e.cell 5
 have c6:=e.cell 6
 have c7:=e.cell 7
 simp only[List.getElem?_cons_succ,List.getElem?_cons_zero]at c0 m o c3 c4 c5 c6 c7
 clear e
 go_wp2_with (go_at_call 207;refine(A _).mono ?_;rintro _ w3 ⟨rfl,j⟩)
 have a:=hid (D.trans j)
 clear c0 m o c3 c4 c5 c6 c7
 have p:=l.ext j
 obtain⟨k0,k1,k2,k3,k4,k5,k6,k7,-⟩:=lks p
 have ks:=ae.keep (((O.ext j).cell op.toNat).trans HS)
 have q0:=ae.keep (a.keep f.c0)
 have q1:=ae.keep (a.keep f.c1)
 have q2:=ae.keep (a.keep f.c2)
 have q3:=ae.keep (a.keep f.c3)
 have q4:=ae.keep (a.keep f.c4)
 have q5:=ae.keep (a.keep f.c5)
 have q6:=ae.keep (a.keep f.c6)
 have q7:=ae.keep (a.keep f.c7)
 have s0:=ae.keep (a.keep h.c0)
 have s1:=ae.keep (a.keep h.c1)
 have s2:=ae.keep (a.keep h.c2)
 have s3:=ae.keep (a.keep h.c3)
 have s4:=ae.keep (a.keep h.c4)
 have s5:=ae.keep (a.keep h.c5)
 have s6:=ae.keep (a.keep h.c6)
 have s7:=ae.keep (a.keep h.c7)
 simp only[Nat.zero_mul,Nat.add_zero]at q0 q1 q2 q3 q4 q5 q6 q7
 have B:Hid (∀z:ae w3,Calls Tryz.prog 131 _ z.now _):=fun z=>J z.now (a.trans z.ext)
 have C:Hid (∀z:ae w3,Calls Tryz.prog 131 _ z.now _):=fun z=>K z.now (a.trans z.ext)
 have lw:IntKind.i64.wrap (L+1)=L+1:=IntWalk.i64_in _ (by omega)
 clear j p
 refine ab (by kernel_rfl) (by kernel_rfl) ?_
 repeat (go_big_quiet_step ((first|(go_at_call 131;with_reducible exact ak (B.out _))|(go_at_call 131;with_reducible exact ak (C.out _))|(go_at_call 207;exact ak (A.out _)))))
 refine wpQuiet_nil ?_
 intro w4 u
 have F:=ah u
 clear u k0 k1 k2 k3 k4 k5 k6 k7 ks q0 q1 q2 q3 q4 q5 q6 q7 s0 s1 s2 s3 s4 s5 s6 s7 lw
 go_wp2_with fail
 go_ret
 exact⟨rfl,a.trans F⟩
theorem pc_bin (op:Int) (tb nm:ByteArray) (ix vk vi:Int) (vt:ByteArray) (b i:Nat) (n c:Nat) (w:World) (x y:Ex) (X Y:ByteArray) (H I:Option Addr) (V Z c1 c2:Nat)
  (t:4≤op∧op≤8∨10≤op∧op≤16∨op=18∨op=19) (hn:n=2) (hX:X.size≤100000) (hY:Y.size≤100000)
  (P:cq w b (i+0*8) x H V c1) (Q:cq w b (i+1*8) y I Z c2) (b4:(lvl op==4)=false)
  (R:∀W,Ext w W→Calls Tryz.prog 131 #[x.d.val H V c1,.int .i64 (lvl op)] W fun r w'=>r= .returned (.string X)∧Ext W w')
  (U:∀W,Ext w W→Calls Tryz.prog 131 #[y.d.val I Z c2,.int .i64 (lvl op+1)] W fun r w'=>r= .returned (.string Y)∧Ext W w'):
  Calls Tryz.prog 206 #[.agg #[.int .i64 op,.string tb,.string nm,.int .i64 ix,.int .i64 vk,.int .i64 vi,.string vt,.slice (some ⟨b,i,none⟩) n c]] w fun r w'=>r= .returned (.string (X++⟨#[32]⟩++sgn op++⟨#[32]⟩++Y))∧Ext w w':=by
 subst hn
 have b1:(op==1)=false:=by rw[beq_eq_false_iff_ne];omega
 have b2:(op==2)=false:=by rw[beq_eq_false_iff_ne];omega
 have b3:(op==3)=false:=by rw[beq_eq_false_iff_ne];omega
 have b9:(op==9)=false:=by rw[beq_eq_false_iff_ne];omega
 have ac:(op==17)=false:=by rw[beq_eq_false_iff_ne];omega
 have ad:(op==20)=false:=by rw[beq_eq_false_iff_ne];omega
 have ax:=fS op
 have HS:=hid (lD op t)
 have A:=hid (fun W=>jL (.mk ⟨op,tb,nm,ix,vk,vi,vt⟩ []) (some ⟨b,i,none⟩) 2 c W)
 have f:=hid P
 have h:=hid Q
 have J:=hid R
 have K:=hid U
 have o0:(0:Int)≤op:=by omega
 have o1:op<20:=by omega
 have E:1≤lvl op∧lvl op≤8:=by unfold lvl;repeat' split<;>try omega
 clear P Q R U t
 unfold Nd.val at A J K
 simp only[Ex.d]at A
 generalize lvl op=L at*
 obtain⟨ag,an⟩:=E
 generalize sgn op=G at*
 have HB:=hid (Blk.of_new w 37 (eC op tb nm ix vk vi vt (some ⟨b,i,none⟩) 2 c))
 have HX:=hid ((Ext.refl w).alloc (.cells #[.int .i64 op,.string tb,.string nm,.int .i64 ix,.int .i64 vk,.int .i64 vi,.string vt,.slice (some ⟨b,i,none⟩) 2 c] 37))
 go_enter Tryz.func206,Tryz.ntmps206
 go_upto_region 21 with fail
 generalize w.alloc (.cells #[.int .i64 op,.string tb,.string nm,.int .i64 ix,.int .i64 vk,.int .i64 vi,.string vt,.slice (some ⟨b,i,none⟩) 2 c] 37)=k at*
 generalize w.heap.size=g at*
 apply wp_region_lit
 refine wpList_buildTo rfl 213 _ rfl (some 72) rfl em (by kernel_rfl) ?_
 refine Great.wpList_allocTo rfl (some 3) rfl (.pointer (some ⟨k.heap.size,0,none⟩)) (.cells zerC 213) (by kernel_rfl) ?_
 refine wpList_store_rowTo rfl 213 (.tmp 3) (.tmp 72) rfl rfl k.heap.size em rfl rfl 213 zerC (heap_alloc_new k _) (by kernel_rfl) (by kernel_rfl) (by kernel_rfl) ?_
 apply wpList_nil
 rw[World.setRow_alloc_new]
 have l:=hid (HB.ext ((Ext.refl k).alloc (.cells em 213)))
 have D:=hid (HX.alloc (.cells em 213))
 have O:=hid (Blk.of_new k 213 em.toList)
 have s:(.cells em.toList.toArray 213:Obj)= .cells em 213:=rfl
 rw[s]at O
 clear s
 generalize k.alloc (.cells em 213)=w2 at*
 generalize k.heap.size=ga at*
 have e:=l.out
 have c0:=e.cell 0
 have m:=e.cell 1
 have o:=e.cell 2
 have c3:=e.cell 3
 have c4:=e.cell 4
 have c5:=e.cell 5
 have c6:=e.cell 6
 have c7:=e.cell 7
 simp only[List.getElem?_cons_succ,List.getElem?_cons_zero]at c0 m o c3 c4 c5 c6 c7
 clear e
 go_wp2_with (go_at_call 207;refine(A _).mono ?_;rintro _ w3 ⟨rfl,j⟩)
 have a:=hid (D.trans j)
 clear c0 m o c3 c4 c5 c6 c7
 have p:=l.ext j
 obtain⟨k0,k1,k2,k3,k4,k5,k6,k7,-⟩:=lks p
 have ks:=ae.keep (((O.ext j).cell op.toNat).trans HS)
 have q0:=ae.keep (a.keep f.c0)
 have q1:=ae.keep (a.keep f.c1)
 have q2:=ae.keep (a.keep f.c2)
 have q3:=ae.keep (a.keep f.c3)
 have q4:=ae.keep (a.keep f.c4)
 have q5:=ae.keep (a.keep f.c5)
 have q6:=ae.keep (a.keep f.c6)
 have q7:=ae.keep (a.keep f.c7)
 have s0:=ae.keep (a.keep h.c0)
 have s1:=ae.keep (a.keep h.c1)
 have s2:=ae.keep (a.keep h.c2)
 have s3:=ae.keep (a.keep h.c3)
 have s4:=ae.keep (a.keep h.c4)
 have s5:=ae.keep (a.keep h.c5)
 have s6:=ae.keep (a.keep h.c6)
 have s7:=ae.keep (a.keep h.c7)
 simp only[Nat.zero_mul,Nat.add_zero]at q0 q1 q2 q3 q4 q5 q6 q7
 have B:Hid (∀z:ae w3,Calls Tryz.prog 131 _ z.now _):=fun z=>J z.now (a.trans z.ext)
 have C:Hid (∀z:ae w3,Calls Tryz.prog 131 _ z.now _):=fun z=>K z.now (a.trans z.ext)
 have lw:IntKind.i64.wrap (L+1)=L+1:=IntWalk.i64_in _ (by omega)
 clear j p
 refine ab (by kernel_rfl) (by kernel_rfl) ?_
 repeat (go_big_quiet_step ((first|(go_at_call 131;with_reducible exact ak (B.out _))|(go_at_call 131;with_reducible exact ak (C.out _))|(go_at_call 207;exact ak (A.out _)))))
 refine wpQuiet_nil ?_
 intro w4 u
 have F:=ah u
 clear u k0 k1 k2 k3 k4 k5 k6 k7 ks q0 q1 q2 q3 q4 q5 q6 q7 s0 s1 s2 s3 s4 s5 s6 s7 lw
 go_wp2_with fail
 go_ret
 exact⟨rfl,a.trans F⟩
theorem pl_num (tb nm:ByteArray) (ix vk vi:Int) (vt:ByteArray) (A:Option Addr) (n c:Nat) (w:World) (e:Hid (∀W,Ext w W→Can W vi)):
  Calls Tryz.prog 206 #[.agg #[.int .i64 1,.string tb,.string nm,.int .i64 ix,.int .i64 1,.int .i64 vi,.string vt,.slice A n c]] w fun r w'=>r= .returned (.string (itoB vi))∧Ext w w':=by
 have b:=hid ((Ext.refl w).alloc (.cells #[.int .i64 1,.string tb,.string nm,.int .i64 ix,.int .i64 1,.int .i64 vi,.string vt,.slice A n c] 37))
 go_enter Tryz.func206,Tryz.ntmps206
 go_wp2_with (go_at_call 202;refine(number_any _ _ (e _ b)).mono ?_;rintro _ f ⟨rfl,a⟩)
 go_ret
 exact⟨rfl,b.trans a⟩
theorem pl_text (tb nm:ByteArray) (ix vk vi:Int) (vt:ByteArray) (A:Option Addr) (n c:Nat) (w:World) (e:Hid (Sh w)) (hs:vt.size≤1000) (f:(kt vt).size≤2000):
  Calls Tryz.prog 206 #[.agg #[.int .i64 1,.string tb,.string nm,.int .i64 ix,.int .i64 2,.int .i64 vi,.string vt,.slice A n c]] w fun r w'=>r= .returned (.string (⟨#[39]⟩++kt vt++⟨#[39]⟩))∧Ext w w':=by
 have b:=hid ((Ext.refl w).alloc (.cells #[.int .i64 1,.string tb,.string nm,.int .i64 ix,.int .i64 2,.int .i64 vi,.string vt,.slice A n c] 37))
 go_enter Tryz.func206,Tryz.ntmps206
 go_wp2_with (go_at_call 257;refine(repl_any _ _ (e.ext b) hs).mono ?_;rintro _ g ⟨rfl,a⟩)
 go_ret
 exact⟨rfl,b.trans a⟩
theorem pl_null (tb nm:ByteArray) (ix vk vi:Int) (vt:ByteArray) (A:Option Addr) (n c:Nat) (w:World):
  Calls Tryz.prog 206 #[.agg #[.int .i64 1,.string tb,.string nm,.int .i64 ix,.int .i64 0,.int .i64 vi,.string vt,.slice A n c]] w fun r w'=>r= .returned (.string ⟨#[78,85,76,76]⟩)∧Ext w w':=by
 have a:=hid ((Ext.refl w).alloc (.cells #[.int .i64 1,.string tb,.string nm,.int .i64 ix,.int .i64 0,.int .i64 vi,.string vt,.slice A n c] 37))
 go_enter Tryz.func206,Tryz.ntmps206
 go_wp2_with fail
 go_ret
 exact⟨rfl,a⟩
theorem pl_col (tb nm:ByteArray) (ix vk vi:Int) (vt:ByteArray) (A:Option Addr) (n c:Nat) (w:World):
  Calls Tryz.prog 206 #[.agg #[.int .i64 2,.string ⟨#[]⟩,.string nm,.int .i64 ix,.int .i64 vk,.int .i64 vi,.string vt,.slice A n c]] w fun r w'=>r= .returned (.string nm)∧Ext w w':=by
 have a:=hid ((Ext.refl w).alloc (.cells #[.int .i64 2,.string ⟨#[]⟩,.string nm,.int .i64 ix,.int .i64 vk,.int .i64 vi,.string vt,.slice A n c] 37))
 go_enter Tryz.func206,Tryz.ntmps206
 go_wp2_with fail
 go_ret
 exact⟨rfl,a⟩
theorem pl_qual (tb nm:ByteArray) (ix vk vi:Int) (vt:ByteArray) (A:Option Addr) (n c:Nat) (w:World) (e:¬tb.toList= []) (f:tb.toList.isEmpty=false) (hs:tb.size≤1000) (b:nm.size≤1000):
  Calls Tryz.prog 206 #[.agg #[.int .i64 2,.string tb,.string nm,.int .i64 ix,.int .i64 vk,.int .i64 vi,.string vt,.slice A n c]] w fun r w'=>r= .returned (.string (tb++⟨#[46]⟩++nm))∧Ext w w':=by
 have a:=hid ((Ext.refl w).alloc (.cells #[.int .i64 2,.string tb,.string nm,.int .i64 ix,.int .i64 vk,.int .i64 vi,.string vt,.slice A n c] 37))
 go_enter Tryz.func206,Tryz.ntmps206
 go_wp2_with fail
 go_ret
 exact⟨rfl,a⟩
theorem pl_neg (tb nm:ByteArray) (ix vk vi:Int) (vt:ByteArray) (b e n c:Nat) (w:World) (x:Ex) (X:ByteArray) (g:Option Addr) (k c1:Nat) (l:n=1) (m:X.size≤100000)
  (a:cq w b (e+0*8) x g k c1)
  (j:∀W,Ext w W→Calls Tryz.prog 131 #[x.d.val g k c1,.int .i64 8] W fun r w'=>r= .returned (.string X)∧Ext W w'):
  Calls Tryz.prog 206 #[.agg #[.int .i64 3,.string tb,.string nm,.int .i64 ix,.int .i64 vk,.int .i64 vi,.string vt,.slice (some ⟨b,e,none⟩) n c]] w fun r w'=>r= .returned (.string (⟨#[45]⟩++X))∧Ext w w':=by
 subst l
 have i:=hid ((Ext.refl w).alloc (.cells #[.int .i64 3,.string tb,.string nm,.int .i64 ix,.int .i64 vk,.int .i64 vi,.string vt,.slice (some ⟨b,e,none⟩) 1 c] 37))
 have h:=hid j
 unfold Nd.val at h
 simp only[Nat.zero_mul,Nat.add_zero]at a
 have p:=fun o=> ((Ext.refl w).alloc o).keep a.c0
 have s:=fun o=> ((Ext.refl w).alloc o).keep a.c1
 have t:=fun o=> ((Ext.refl w).alloc o).keep a.c2
 have u:=fun o=> ((Ext.refl w).alloc o).keep a.c3
 have y:=fun o=> ((Ext.refl w).alloc o).keep a.c4
 have z:=fun o=> ((Ext.refl w).alloc o).keep a.c5
 have A:=fun o=> ((Ext.refl w).alloc o).keep a.c6
 have B:=fun o=> ((Ext.refl w).alloc o).keep a.c7
 clear j a
 go_enter Tryz.func206,Tryz.ntmps206
 go_wp2_with (go_at_call 131;refine(h _ i).mono ?_;rintro _ C ⟨rfl,f⟩)
 go_ret
 exact⟨rfl,i.trans f⟩
theorem pl_len (tb nm:ByteArray) (ix vk vi:Int) (vt:ByteArray) (b e n c:Nat) (w:World) (x:Ex) (X:ByteArray) (g:Option Addr) (k c1:Nat) (l:n=1) (m:X.size≤100000)
  (a:cq w b (e+0*8) x g k c1)
  (j:∀W,Ext w W→Calls Tryz.prog 131 #[x.d.val g k c1,.int .i64 1] W fun r w'=>r= .returned (.string X)∧Ext W w'):
  Calls Tryz.prog 206 #[.agg #[.int .i64 9,.string tb,.string nm,.int .i64 ix,.int .i64 vk,.int .i64 vi,.string vt,.slice (some ⟨b,e,none⟩) n c]] w fun r w'=>r= .returned (.string (⟨#[76,69,78,71,84,72,40]⟩++X++⟨#[41]⟩))∧Ext w w':=by
 subst l
 have i:=hid ((Ext.refl w).alloc (.cells #[.int .i64 9,.string tb,.string nm,.int .i64 ix,.int .i64 vk,.int .i64 vi,.string vt,.slice (some ⟨b,e,none⟩) 1 c] 37))
 have h:=hid j
 unfold Nd.val at h
 simp only[Nat.zero_mul,Nat.add_zero]at a
 have p:=fun o=> ((Ext.refl w).alloc o).keep a.c0
 have s:=fun o=> ((Ext.refl w).alloc o).keep a.c1
 have t:=fun o=> ((Ext.refl w).alloc o).keep a.c2
 have u:=fun o=> ((Ext.refl w).alloc o).keep a.c3
 have y:=fun o=> ((Ext.refl w).alloc o).keep a.c4
 have z:=fun o=> ((Ext.refl w).alloc o).keep a.c5
 have A:=fun o=> ((Ext.refl w).alloc o).keep a.c6
 have B:=fun o=> ((Ext.refl w).alloc o).keep a.c7
 clear j a
 go_enter Tryz.func206,Tryz.ntmps206
 go_wp2_with (go_at_call 131;refine(h _ i).mono ?_;rintro _ C ⟨rfl,f⟩)
 go_ret
 exact⟨rfl,i.trans f⟩
theorem pl_isnull (tb nm:ByteArray) (ix vk vi:Int) (vt:ByteArray) (b e n c:Nat) (w:World) (x:Ex) (X:ByteArray) (g:Option Addr) (k c1:Nat) (l:n=1) (m:X.size≤100000)
  (a:cq w b (e+0*8) x g k c1)
  (j:∀W,Ext w W→Calls Tryz.prog 131 #[x.d.val g k c1,.int .i64 5] W fun r w'=>r= .returned (.string X)∧Ext W w'):
  Calls Tryz.prog 206 #[.agg #[.int .i64 17,.string tb,.string nm,.int .i64 ix,.int .i64 vk,.int .i64 vi,.string vt,.slice (some ⟨b,e,none⟩) n c]] w fun r w'=>r= .returned (.string (X++⟨#[32,73,83,32,78,85,76,76]⟩))∧Ext w w':=by
 subst l
 have i:=hid ((Ext.refl w).alloc (.cells #[.int .i64 17,.string tb,.string nm,.int .i64 ix,.int .i64 vk,.int .i64 vi,.string vt,.slice (some ⟨b,e,none⟩) 1 c] 37))
 have h:=hid j
 unfold Nd.val at h
 simp only[Nat.zero_mul,Nat.add_zero]at a
 have p:=fun o=> ((Ext.refl w).alloc o).keep a.c0
 have s:=fun o=> ((Ext.refl w).alloc o).keep a.c1
 have t:=fun o=> ((Ext.refl w).alloc o).keep a.c2
 have u:=fun o=> ((Ext.refl w).alloc o).keep a.c3
 have y:=fun o=> ((Ext.refl w).alloc o).keep a.c4
 have z:=fun o=> ((Ext.refl w).alloc o).keep a.c5
 have A:=fun o=> ((Ext.refl w).alloc o).keep a.c6
 have B:=fun o=> ((Ext.refl w).alloc o).keep a.c7
 clear j a
 go_enter Tryz.func206,Tryz.ntmps206
 go_wp2_with (go_at_call 131;refine(h _ i).mono ?_;rintro _ C ⟨rfl,f⟩)
 go_ret
 exact⟨rfl,i.trans f⟩
theorem pl_not (tb nm:ByteArray) (ix vk vi:Int) (vt:ByteArray) (b e n c:Nat) (w:World) (x:Ex) (X:ByteArray) (g:Option Addr) (k c1:Nat) (l:n=1) (m:X.size≤100000)
  (a:cq w b (e+0*8) x g k c1)
  (j:∀W,Ext w W→Calls Tryz.prog 131 #[x.d.val g k c1,.int .i64 3] W fun r w'=>r= .returned (.string X)∧Ext W w'):
  Calls Tryz.prog 206 #[.agg #[.int .i64 20,.string tb,.string nm,.int .i64 ix,.int .i64 vk,.int .i64 vi,.string vt,.slice (some ⟨b,e,none⟩) n c]] w fun r w'=>r= .returned (.string (⟨#[78,79,84,32]⟩++X))∧Ext w w':=by
 subst l
 have i:=hid ((Ext.refl w).alloc (.cells #[.int .i64 20,.string tb,.string nm,.int .i64 ix,.int .i64 vk,.int .i64 vi,.string vt,.slice (some ⟨b,e,none⟩) 1 c] 37))
 have h:=hid j
 unfold Nd.val at h
 simp only[Nat.zero_mul,Nat.add_zero]at a
 have p:=fun o=> ((Ext.refl w).alloc o).keep a.c0
 have s:=fun o=> ((Ext.refl w).alloc o).keep a.c1
 have t:=fun o=> ((Ext.refl w).alloc o).keep a.c2
 have u:=fun o=> ((Ext.refl w).alloc o).keep a.c3
 have y:=fun o=> ((Ext.refl w).alloc o).keep a.c4
 have z:=fun o=> ((Ext.refl w).alloc o).keep a.c5
 have A:=fun o=> ((Ext.refl w).alloc o).keep a.c6
 have B:=fun o=> ((Ext.refl w).alloc o).keep a.c7
 clear j a
 go_enter Tryz.func206,Tryz.ntmps206
 go_wp2_with (go_at_call 131;refine(h _ i).mono ?_;rintro _ C ⟨rfl,f⟩)
 go_ret
 exact⟨rfl,i.trans f⟩
theorem pl_mk (d:Nd) (ks:List Ex):(Ex.mk d ks).pl=plD d (ks.map fun e=> (e.d.op,e.pl)):=by rw[Ex.pl,plL_eq]
theorem cQ {d:Nd} {ks:List Ex} {x:Ex} (h:x∈ks):x.size≤(Ex.mk d ks).size:=Nat.le_of_lt (oO h)
theorem plain_any:∀(e:Ex) (A:Option Addr) (n c:Nat) (w:World),ExV w e A n c→e.formed=true→e.size≤1000→Gd w→
  Calls Tryz.prog 206 #[e.d.val A n c] w fun r w'=>r= .returned (.string e.pl)∧Ext w w':=by
 intro e
 induction e using Ex.ind with
 |h d ks ih=>
  intro A n c w hv hf hs V
  obtain⟨L,h2,U,D⟩:=hv
  have L:ks.length=n:=L
  have D:KidsAt w A ks:=D
  have U:d.fit:=U
  obtain⟨f1,R,s⟩:=aB hf
  have j:∀x∈ks,∀(r:Int) (l:Option Addr) (m c':Nat) (W:World),Ext w W→ExV W x l m c'→Calls Tryz.prog 131 #[x.d.val l m c',.int .i64 r] W fun y w'=>y= .returned (.string (x.tx r))∧Ext W w':=by
   intro x j r l m c' W f X
   have H:x.size≤1000:=Nat.le_trans (cQ (d:=d) j) hs
   have hp:=kz x (R x j)
   exact ig x r l m c' W (by omega) fun Z F=>ih x j l m c' Z (X.ext F) (R x j) H ((V.ext f).ext F)
  have g:∀x∈ks,∀r,(x.tx r).size≤100000:=by
   intro x j r
   have H:x.size≤1000:=Nat.le_trans (cQ (d:=d) j) hs
   have:=bJ x r (R x j)
   omega
  rw[pl_mk]
  have I:∀A,(Ex.mk d ks).d.val A n c= .agg #[.int .i64 d.op,.string d.tb,.string d.nm,.int .i64 d.ix,.int .i64 d.vk,.int .i64 d.vi,.string d.vt,.slice A n c]:=fun _=>rfl
  rw[I]
  unfold plD
  rcases bL d.op with ⟨h0,h5⟩|⟨h0,h5⟩|⟨h0,h5⟩|h0
  ·rcases h5 with h5|h5
   ·unfold ndB at s
    rw[if_neg (by omega),if_pos h5]at s
    simp only[Bool.and_eq_true]at s
    obtain⟨l1,l2,B⟩:=fa s.2
    rw[if_pos h5,h5]
    rcases B with B|B|B
    ·rw[if_neg (by omega),if_neg (by omega),B]
     exact pl_null _ _ _ d.vk _ _ _ _ _ _
    ·rw[if_pos B,B]
     exact pl_num _ _ _ d.vk _ _ _ _ _ _ fun W f=> (V.ext f).can U.vi
    ·rw[if_neg (by omega),if_pos B,B]
     have:=mM d.vt
     exact pl_text _ _ _ d.vk _ _ _ _ _ _ V.sh (by omega) (by omega)
   ·unfold ndB at s
    rw[if_pos h5]at s
    simp only[Bool.and_eq_true,Bool.or_eq_true,beq_iff_eq]at s
    have l1:=bv s.1.1
    rw[if_neg (by omega),if_pos h5,h5]
    by_cases C:d.tb.size=0
    ·rw[if_pos C,bi C]
     exact pl_col d.tb _ _ _ _ _ _ _ _ _
    ·rw[if_neg C]
     have l2:d.tb.size≤24:=by
      rcases s.1.2 with h|h
      ·exact absurd h C
      ·exact bv h
     exact pl_qual _ _ _ _ _ _ _ _ _ _ (bB C) (bo C) (by omega) (by omega)
  ·obtain⟨a,rfl⟩:∃a,ks= [a]:=by
    have:ks.length=1:=by omega
    exact List.length_eq_one_iff.1 this
   obtain⟨b,k,l,m,c',rfl,o⟩:=D.get (i:=0) (e:=a) rfl
   have p:a∈[a]:=by simp
   have z:n=1:=by rw[←L];rfl
   simp only[List.map_cons,List.map_nil,List.getD_cons_zero]
   rcases h5 with h5|h5|h5|h5
   ·rw[if_neg (by omega),if_neg (by omega),if_pos h5,h5]
    exact pl_neg _ _ _ _ _ _ b k n c w a _ l m c' z (g a p 8) o fun W f=>j a p 8 l m c' W f (o.val.ext f)
   ·rw[if_neg (by omega),if_neg (by omega),if_neg (by omega),if_pos h5,h5]
    exact pl_len _ _ _ _ _ _ b k n c w a _ l m c' z (g a p 1) o fun W f=>j a p 1 l m c' W f (o.val.ext f)
   ·rw[if_neg (by omega),if_neg (by omega),if_neg (by omega),if_neg (by omega),if_pos h5,h5]
    exact pl_isnull _ _ _ _ _ _ b k n c w a _ l m c' z (g a p 5) o fun W f=>j a p 5 l m c' W f (o.val.ext f)
   ·rw[if_neg (by omega),if_neg (by omega),if_neg (by omega),if_neg (by omega),if_neg (by omega),if_pos h5,h5]
    exact pl_not _ _ _ _ _ _ b k n c w a _ l m c' z (g a p 3) o fun W f=>j a p 3 l m c' W f (o.val.ext f)
  ·obtain⟨x,y,rfl⟩:∃x y,ks= [x,y]:=by
    have:ks.length=2:=by omega
    match ks,this with
    | [x,y],_=>exact⟨x,y,rfl⟩
   obtain⟨b,k,J,P,c1,rfl,o⟩:=D.get (i:=0) (e:=x) rfl
   obtain⟨b2,Y,K,Q,c2,E,u⟩:=D.get (i:=1) (e:=y) rfl
   simp only[Option.some.injEq,Addr.mk.injEq,and_true]at E
   obtain⟨rfl,rfl⟩:=E
   have p:x∈[x,y]:=by simp
   have O:y∈[x,y]:=by simp
   have G:n=2:=by rw[←L];rfl
   simp only[List.map_cons,List.map_nil,List.getD_cons_zero,List.getD_cons_succ]
   rw[if_neg (by omega),if_neg (by omega),if_neg (by omega),if_neg (by omega),if_neg (by omega),if_neg (by omega)]
   by_cases t:lvl d.op=4
   ·rw[if_pos t]
    exact pc_bin4 d.op _ _ _ _ _ _ b k n c w x y _ _ J K P Q c1 c2 h5 G (g x p 5) (g y O (lvl d.op+1)) o u (by rw[t];rfl)
     (fun W f=>j x p 5 J P c1 W f (o.val.ext f)) (fun W f=>j y O (lvl d.op+1) K Q c2 W f (u.val.ext f))
   ·rw[if_neg t]
    exact pc_bin d.op _ _ _ _ _ _ b k n c w x y _ _ J K P Q c1 c2 h5 G (g x p (lvl d.op)) (g y O (lvl d.op+1)) o u (by simpa using t)
     (fun W f=>j x p (lvl d.op) J P c1 W f (o.val.ext f)) (fun W f=>j y O (lvl d.op+1) K Q c2 W f (u.val.ext f))
  ·omega
theorem gg (e:Ex) (r:Int) (A:Option Addr) (n c:Nat) (w:World) (g:ExV w e A n c) (b:e.formed=true) (hs:e.size≤1000) (f:Gd w):
  Calls Tryz.prog 131 #[e.d.val A n c,.int .i64 r] w fun x w'=>x= .returned (.string (e.tx r))∧Ext w w':=
 ig e r A n c w (by have:=kz e b;omega) fun W a=>plain_any e A n c W (g.ext a) b hs (f.ext a)
end Go.Proofs.YtjigcpfjhfoheaaGreatDoor
