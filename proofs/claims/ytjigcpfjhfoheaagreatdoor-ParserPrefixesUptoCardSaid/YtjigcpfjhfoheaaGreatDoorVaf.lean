/- Walks: ValidExpr, the program's and the reference's; Walks: numbers and texts written; Walks: expr and plain, the canonical text; Walks: plain, a binary operator; Walks: plain, the other operators; the canonical text of a well-for. -/
import Derived.Test.YtjigcpfjhfoheaaGreatDoorVae
import Derived.WalkSmall
import Derived.Deep.Cut
import Derived.Deep.WholeRow
import Derived.Great.BuildSlice
import Derived.Great.Walk
import Derived.IntWalk
namespace Go.Proofs.YtjigcpfjhfoheaaGreatDoor
open Go.RowKit List Go.Proofs.Tryz
set_option maxHeartbeats 4000000
set_option maxRecDepth 100000
set_option linter.unusedVariables false
set_option linter.unusedSimpArgs false
theorem pE {w:World} {g t:Nat} {e:Ex} {A:OA} {n c:Nat} (h:Blk w g t (e.d.cells A n c)) (a:ExV w e A n c):KidsAt w (some ⟨g,0,none⟩) [e]:=by
 unfold KidsAt
 rw[dO]
 intro j x f
 cases j with
 |zero=>
  simp at f
  subst f
  refine⟨e.d.cells A n c,⟨g,0,rfl,fun j v i=>?_⟩,?_⟩
  ·rw[show 0+(0+0)*8+j=j by omega]
   exact h.cell_some i
  ·obtain⟨d,ks⟩:=e
   rw[ExC]
   have b:=a.len
   have b:ks.length=n:=b
   subst b
   exact⟨a.fit,a.le,A,c,rfl,a.kids⟩
 |succ j=>simp at f
def largeB (l:List Ex):Bool:=decide (400<nodesL l)||l.any fun e=>decide (50<e.depth)
theorem ent69:Ent 112:=fun _ _=>by kernel_rfl
theorem large1 (x:Ex) (A:OA) (n c:Nat) (w:World) (h:ExV w x A n c) (g:x.nodes≤100000000):
  Cl 112 #[x.d.val A n c] w (Rt (.bool (decide (50<x.depth))) w):=by
 have H:=hid (fun W (i:Ext w W)=>depth_any x A n c W (h.ext i) g)
 have j:x.depth≤100000000:=Nat.le_trans ((fh [x]).2 x (by simp)) g
 clear h g
 unfold Nd.val at*
 generalize x.depth=D at*
 by_cases e:50<D
 ·have b:decide ((50:Int)<(D:Int))=true:=by simp;omega
  have f:=hid (show decide (50<D)=true by simpa using e)
  clear e
  go_enter func112,ntmps112
  go_wp2_with (go_at_call 113;refine(H _ (x10 w _)).mono ?_;rintro _ k ⟨rfl,a⟩)
  go_ret
  exact⟨aa f.symm,(x10 w _).trans a⟩
 ·have b:decide ((50:Int)<(D:Int))=false:=by simp;omega
  have f:=hid (show decide (50<D)=false by simpa using e)
  clear e
  go_enter func112,ntmps112
  go_wp2_with (go_at_call 113;refine(H _ (x10 w _)).mono ?_;rintro _ k ⟨rfl,a⟩)
  go_ret
  exact⟨aa f.symm,(x10 w _).trans a⟩
theorem nD (l:List Ex) (A:OA) (n c:Nat) (w:World) (k:l.length=n) (s:n≤9223372036854775807) (j:KidsAt w A l):
  Cl 62 #[.slice A n c] w (Rt (.bool (largeB l)) w):=by
 have g:=hid (ux (sizeL l) l A n c 400 w (Nat.le_refl _) k s j (by omega))
 have h:Hid (largeB l=(decide (400<nodesL l)||l.any fun e=>decide (50<e.depth))):=rfl
 by_cases i:400<nodesL l
 ·have a:min (nodesL l) (400+1)=401:=by omega
  rw[a]at g
  have m:Hid (largeB l=true):=by unfold Hid;rw[h.out];simp[i]
  clear i a h j k
  go_enter func62,ntmps62
  go_wp2_with (go_at_call 110;refine g.mono ?_;rintro _ F ⟨rfl,f⟩)
  go_ret
  exact⟨aa m.symm,f⟩
 ·have a:min (nodesL l) (400+1)=nodesL l:=by omega
  rw[a]at g
  have m:Hid (largeB l=l.any fun e=>decide (50<e.depth)):=by unfold Hid;rw[h.out];simp[i]
  have u:Hid (∀W,Ext w W→Cl 111 #[.slice A n c,.func (Fn.func 112) #[] #[]] W (Rt (.bool (l.any fun e=>decide (50<e.depth))) W)):=by
   intro W z
   refine ot 112 ent69 _ l A n c W k s (j.ext z) ?_
   intro x D t E c' y C p
   exact large1 x t E c' y p (by have:=nw D;omega)
  have b:decide ((400:Int)<((nodesL l:Nat):Int))=false:=by simp;omega
  generalize (l.any fun e=>decide (50<e.depth))=B at*
  generalize nodesL l=M at*
  clear i a h j k
  go_enter func62,ntmps62
  go_wp2_with (first|(go_at_call 110;refine g.mono ?_;rintro _ F ⟨rfl,f⟩)|(go_at_call 111;refine(u _ f).mono ?_;rintro _ G ⟨rfl,o⟩))
  go_ret
  exact⟨aa m.symm,f.trans o⟩
def validE (e:Ex):Int:=if largeB [e]=true then 3 else if e.formed=true then 0 else 1
theorem rh (e:Ex):largeB [e]=(decide (400<e.nodes)||decide (50<e.depth)):=by
 unfold largeB
 rw[nodesL,nodesL]
 simp
theorem valid_any (e:Ex) (A:OA) (n c:Nat) (w:World) (l:ExV w e A n c) (t:Sh w):
  Cl 40 #[e.d.val A n c] w (Rt (i4 (validE e)) w):=by
 have p:Hid (validE e=if largeB [e]=true then 3 else if e.formed=true then 0 else 1):=rfl
 have s:Hid (∀W g,Ext w W→Blk W g 37 (e.d.cells A n c)→Cl 62 #[.slice (some ⟨g,0,none⟩) 1 1] W (Rt (.bool (largeB [e])) W)):=
  fun W g i f=>nD [e] _ 1 1 W rfl (by omega) (pE f (l.ext i))
 have u:=hid (fun W (i:Ext w W)=>fp e A n c W (l.ext i) (t.ext i))
 clear l t
 have f:=Blk.of_new (w.alloc (.cells (e.d.cells A n c).toArray 37)) 37 (e.d.cells A n c)
 rw[show(w.alloc (.cells (e.d.cells A n c).toArray 37)).heap.size=w.heap.size+1 by simp]at f
 have o:=hid f
 clear f
 have j:=hid (Blk.of_new w 37 (e.d.cells A n c))
 have b:=hid (((x10 w (.cells (e.d.cells A n c).toArray 37))).alloc (.cells (e.d.cells A n c).toArray 37))
 have k:=hid (((Ext.refl (w.alloc (.cells (e.d.cells A n c).toArray 37))).alloc (.cells (e.d.cells A n c).toArray 37)))
 unfold Nd.val at*
 unfold Nd.cells at*
 generalize validE e=R at*
 generalize largeB [e]=Z at*
 generalize e.formed=Y at*
 generalize e.d=d at*
 obtain⟨op,tb,nm,ix,vk,vi,vt⟩:=d
 simp only at*
 cases Z
 ·cases Y
  all_goals
   go_enter func40,ntmps40
   go_wp2_with (first|(go_at_call 62;refine(s _ _ b o).mono ?_;rintro _ x ⟨rfl,a⟩;have h:=(j.ext k).ext a;obtain⟨c0,c1,c2,c3,c4,c5,c6,c7,-⟩:=cls h;clear h)|(go_at_call 79;refine(u _ (b.trans a)).mono ?_;rintro _ y ⟨rfl,m⟩))
   go_ret
   exact⟨aM (by rw[p.out];rfl),(b.trans a).trans m⟩
 ·go_enter func40,ntmps40
  go_wp2_with (go_at_call 62;refine(s _ _ b o).mono ?_;rintro _ x ⟨rfl,a⟩)
  go_ret
  exact⟨aM (by rw[p.out];rfl),b.trans a⟩
theorem wA (e:Ex) (A:OA) (n c:Nat) (w:World) (z:ExV w e A n c):
  Cl 42 #[e.d.val A n c] w (Rt (i4 (validE e)) w):=by
 have m:Hid (validE e=if largeB [e]=true then 3 else if e.formed=true then 0 else 1):=rfl
 have j:=hid (rh e)
 have s:=hid (fun W (u:Ext w W)=>uy e A n c 400 W (z.ext u) (by omega))
 have H:=hid (fun W (u:Ext w W)=>dM e A n c W (z.ext u))
 have o:=hid (Blk.of_new w 37 (e.d.cells A n c))
 have k:=hid (x10 w (.cells (e.d.cells A n c).toArray 37))
 by_cases B:400<e.nodes
 ·have f:min e.nodes (400+1)=401:=by omega
  rw[f]at s
  have t:Hid (validE e=3):=by unfold Hid;rw[m.out,j.out];simp[B]
  clear z m j f B
  unfold Nd.val at*
  unfold Nd.cells at*
  generalize validE e=R at*
  generalize e.formed=Y at*
  generalize e.d=d at*
  obtain⟨op,tb,nm,ix,vk,vi,vt⟩:=d
  simp only at*
  go_enter func42,ntmps42
  go_wp2_with (go_at_call 73;refine(s _ k).mono ?_;rintro _ G ⟨rfl,a⟩)
  go_ret
  exact⟨aM t.symm,k.trans a⟩
 ·have f:min e.nodes (400+1)=e.nodes:=by omega
  rw[f]at s
  have F:=hid (fun W (u:Ext w W)=>pt e A n c W (z.ext u) (by omega))
  have J:e.depth≤400:=Nat.le_trans ((fh [e]).2 e (by simp)) (by omega)
  have b:decide ((400:Int)<((e.nodes:Nat):Int))=false:=by simp;omega
  have K:e.nodes≤400:=by omega
  have h:Hid (largeB [e]=decide (50<e.depth)):=by unfold Hid;rw[j.out];simp[B]
  clear z j f B
  have l:∀ {x:Nat},e.depth=x→True:=fun _=>trivial
  by_cases C:50<e.depth
  ·have I:decide ((50:Int)<((e.depth:Nat):Int))=true:=by simp;omega
   have t:Hid (validE e=3):=by unfold Hid;rw[m.out,h.out];simp[C]
   clear C l m h
   unfold Nd.val at*
   unfold Nd.cells at*
   generalize validE e=R at*
   generalize e.formed=Y at*
   generalize e.depth=D at*
   generalize e.nodes=M at*
   generalize e.d=d at*
   obtain⟨op,tb,nm,ix,vk,vi,vt⟩:=d
   simp only at*
   go_enter func42,ntmps42
   go_wp2_with (first|(go_at_call 73;refine(s _ k).mono ?_;rintro _ G ⟨rfl,a⟩;have g:=o.ext a;obtain⟨c0,c1,c2,c3,c4,c5,c6,c7,-⟩:=cls g;have p:=hid g;clear g)|(go_at_call 74;refine(F _ (k.trans a)).mono ?_;rintro _ L ⟨rfl,i⟩))
   go_ret
   exact⟨aM t.symm,(k.trans a).trans i⟩
  ·have I:decide ((50:Int)<((e.depth:Nat):Int))=false:=by simp;omega
   have t:Hid (validE e=if e.formed=true then 0 else 1):=by unfold Hid;rw[m.out,h.out];simp[C]
   clear C l m h
   unfold Nd.val at*
   unfold Nd.cells at*
   generalize validE e=R at*
   generalize e.formed=Y at*
   generalize e.depth=D at*
   generalize e.nodes=M at*
   generalize e.d=d at*
   obtain⟨op,tb,nm,ix,vk,vi,vt⟩:=d
   simp only at*
   cases Y
   all_goals
    go_enter func42,ntmps42
    go_wp2_with (first|(go_at_call 73;refine(s _ k).mono ?_;rintro _ G ⟨rfl,a⟩;have g:=o.ext a;obtain⟨c0,c1,c2,c3,c4,c5,c6,c7,-⟩:=cls g;have p:=hid g;clear g)|(go_at_call 74;refine(F _ (k.trans a)).mono ?_;rintro _ L ⟨rfl,i⟩;have y:=p.ext i;obtain⟨O,P,Q,U,V,X,Z,d7,-⟩:=cls y;clear y)|(go_at_call 84;refine(H _ ((k.trans a).trans i)).mono ?_;rintro _ w4 ⟨rfl,E⟩))
    go_ret
    exact⟨aM (by rw[t.out];rfl),((k.trans a).trans i).trans E⟩
theorem t_inj {a b:BA} (h:a.data.toList=b.data.toList):a=b:=by
 obtain⟨⟨l⟩⟩:=a
 obtain⟨⟨m⟩⟩:=b
 simp at h
 rw[h]
theorem ext_grow (w:World) (k:Nat) (a:Array Obj):Ext w (Go.Sort.grow (w.drewN k) a):=
 ⟨rfl,rfl,rfl,by simp[Go.Sort.grow],fun i hi=>by
  show(w.heap++a)[i]? =w.heap[i]?
  rw[Array.getElem?_append_left hi]⟩
def Tab (w:World):Prop:=Lib.TabIs prog w "internal/strconv.uint64pow10" .u64 Lib.pow10Tab∧4<w.heap.size
theorem gTab:prog.globalNamed "internal/strconv.uint64pow10" =some 4:=by kernel_rfl
theorem Tab.ext {w w':World} (h:Tab w) (a:Ext w w'):Tab w':=
 ⟨var?_below a gTab (by have:=h.2;omega) h.1,Nat.le_trans h.2 a.size⟩
def Can (w:World) (n:Int):Prop:=(0≤n∧n<100)∨(Tab w∧ -9223372036854775808≤n∧n≤9223372036854775807)
theorem Can.ext {w w':World} {n:Int} (h:Can w n) (a:Ext w w'):Can w' n:=by
 rcases h with h|⟨h,k⟩
 ·exact .inl h
 ·exact .inr ⟨h.ext a,k⟩
theorem wD (n:Int) (w:World) (h:Can w n):Cl 253 #[i4 n,i4 10] w fun e w'=>e= .returned (.string (itoB n))∧Ext w w':=by
 rcases h with ⟨h0,h1⟩|⟨ht,h0,h1⟩
 ·obtain⟨i,rfl⟩:∃i:Nat,n=(i:Int):=⟨n.toNat,by omega⟩
  refine(Tryz.strconv_FormatInt_10_small i (by omega) w).mono ?_
  rintro e w' ⟨rfl,rfl⟩
  refine⟨fR ?_,Ext.refl _⟩
  unfold itoB Lib.itoa
  rw[if_neg (by omega)]
  rfl
 ·refine(Tryz.strconv_FormatInt_10 n h0 h1 w ht.1).mono ?_
  rintro e w' ⟨rfl,k,a,rfl⟩
  exact⟨rfl,ext_grow w k a⟩
theorem countB_le (t:BA):Lib.countB t ⟨#[39]⟩≤t.size+1:=Lib.count_le t.data.toList [39]
theorem repl_any (t:BA) (w:World) (h:Sh w) (hs:t.size≤1000):Cl 257 #[.string t,.string ⟨#[39]⟩,.string ⟨#[39,39]⟩] w fun e w'=>e= .returned (.string (oL t))∧Ext w w':=by
 obtain⟨m,b⟩:=h
 have g:=countB_le t
 have a:(⟨#[39,39]⟩:BA).size=2:=rfl
 refine(Tryz.strings_ReplaceAll t ⟨#[39]⟩ ⟨#[39,39]⟩ m w (by omega) b (Nat.le_refl 1) (by rw[a];omega)).mono ?_
 rintro e w' ⟨rfl,f⟩
 refine⟨fR ?_,f⟩
 show(⟨(Lib.replaceAll t.data.toList [39] [39,39]).toArray⟩:BA)=oL t
 rw[wj]
 rfl
theorem number_any (n:Int) (w:World) (h:Can w n):Cl 202 #[i4 n] w fun e w'=>e= .returned (.string (itoB n))∧Ext w w':=by
 have H:=hid (wD n w h)
 clear h
 go_enter func202,ntmps202
 go_wp2_with (go_at_call 253;refine H.mono ?_;rintro _ b ⟨rfl,a⟩)
 go_ret
 exact⟨rfl,a⟩
theorem ri {u:Nat} (h:u<10):Lib.decDigits u= [UInt8.ofNat (48+u)]:=by rw[Lib.decDigits,dif_pos h]
theorem dec_big {u:Nat} (h:¬u<10):Lib.decDigits u=Lib.decDigits (u/10)++ [UInt8.ofNat (48+u%10)]:=by rw[Lib.decDigits,dif_neg h]
theorem dec_len (u:Nat) (h:u<18446744073709551616):(Lib.decDigits u).length≤20:=by rw[Lib.decDigits_length];exact Lib.nDigits_le20 u h
def decB (u:Nat):BA:=⟨(Lib.decDigits u).toArray⟩
theorem nE (u:Nat) (h:u<18446744073709551616):(decB u).size≤20:=by
 have:=dec_len u h
 show((Lib.decDigits u).toArray).size≤20
 simpa using this
theorem wE {u:Nat} (h:u<10):decB u=S [48+u]:=by
 unfold decB S
 rw[ri h];rfl
theorem decB_big {u:Nat} (h:¬u<10):decB u=decB (u/10)++decB (u%10):=by
 apply t_inj
 unfold decB
 rw[dec_big h,ri (Nat.mod_lt _ (by omega))]
 simp
theorem uF:∀(u:Nat) (w:World),u≤9223372036854775807→Cl 91 #[i4 (u:Int)] w fun e w'=>e= .returned (.string (decB u))∧Ext w w':=by
 intro u
 induction u using Nat.strongRecOn with
 |ind u ih=>
  intro w x
  have t:decide ((u:Int)<0)=false:=by simp
  by_cases b:u<10
  ·have n:decide ((u:Int)<10)=true:=by simp;omega
   have f:=conv_one (P:=prog) 60 9 5 (48+u) underlying60 underlying5 underlying9
   have a:((48+u:Nat):Int)=48+(u:Int):=by omega
   rw[a,←wE b]at f
   clear a
   have o:(u:Int)<10:=by omega
   clear b ih
   generalize decB u=C at*
   go_enter func91,ntmps91
   go_wp2_with fail
   go_ret
   exact⟨rfl,x10 w _⟩
  ·have n:decide ((u:Int)<10)=false:=by simp;omega
   have m:=hid (decB_big b)
   have i:=hid (fun W=>ih (u/10) (by omega) W (by omega))
   have j:=hid (fun W=>ih (u%10) (by have:=Nat.mod_lt u (show 10>0 by omega);omega) W (by omega))
   have p:=nE (u/10) (by omega)
   have r:=nE (u%10) (by omega)
   have k:((u/10:Nat):Int)=(u:Int) /10:=by omega
   have l:((u%10:Nat):Int)=(u:Int) %10:=by omega
   rw[k]at i
   rw[l]at j
   clear k l ih
   generalize decB (u/10)=X at*
   generalize decB (u%10)=Y at*
   have y:X.size≤1000:=by omega
   have z:Y.size≤1000:=by omega
   have s:=hid b
   clear b p r
   go_enter func91,ntmps91
   go_wp2_with (first|(go_at_call 91;(with_reducible refine(i.out _).mono ?_);rintro _ A ⟨rfl,g⟩)|(go_at_call 91;(with_reducible refine(j.out _).mono ?_);rintro _ B ⟨rfl,h⟩))
   go_ret
   exact⟨fR m.symm,g.trans h⟩
theorem itoB_pos (u:Nat):itoB (u:Int)=decB u:=by
 unfold itoB Lib.itoa decB
 rw[if_neg (by omega)];rfl
theorem itoB_neg (n:Int) (h:n<0):itoB n=⟨#[45]⟩++decB n.natAbs:=by
 apply t_inj
 unfold itoB Lib.itoa decB
 rw[if_pos h]
 simp
theorem iM (n:Int) (w:World) (i: -9223372036854775808<n) (j:n≤9223372036854775807):Cl 91 #[i4 n] w fun e w'=>e= .returned (.string (itoB n))∧Ext w w':=by
 by_cases f:n<0
 ·have H:=hid (fun W=>uF n.natAbs W (by omega))
  have b:(n.natAbs:Int)= -n:=by omega
  rw[b]at H
  have g:=hid (itoB_neg n f)
  have s:=nE n.natAbs (by omega)
  have h:decide (n<0)=true:=by simpa using f
  generalize decB n.natAbs=X at*
  have k:X.size≤1000:=by omega
  clear b s
  go_enter func91,ntmps91
  go_wp2_with (go_at_call 91;refine(H _).mono ?_;rintro _ l ⟨rfl,a⟩)
  go_ret
  exact⟨fR g.symm,a⟩
 ·obtain⟨u,rfl⟩:∃u:Nat,n=(u:Int):=⟨n.toNat,by omega⟩
  rw[itoB_pos]
  exact uF u w (by omega)
theorem quo_snoc (s:BA) (k:Nat) (h:k<s.size):quo (s.data.toList.take (k+1))=quo (s.data.toList.take k)++(if s[k]=39 then [39,39]else [s[k]]):=by
 have a:k<s.data.toList.length:=by simpa using h
 rw[take_succ_eq_append_getElem a,quo_app]
 congr 1
theorem ext1 (s:BA) (k:Nat) (h:k<s.size):(s.extract k (k+1)).data.toList= [s[k]]:=by
 rw[Lib.extract_data]
 have a:k<s.data.toList.length:=by simpa using h
 rw[show k+1-k=1 by omega,drop_eq_getElem_cons a,Array.getElem_toList]
 rfl
theorem wF (s:BA) (w:World) (hs:s.size≤1000):Cl 92 #[.string s] w fun e w'=>e= .returned (.string (⟨#[39]⟩++oL s++⟨#[39]⟩))∧Ext w w':=by
 have n:Hid (∀X:BA,X.data.toList=39::quo s.data.toList→X++⟨#[39]⟩=⟨#[39]⟩++oL s++⟨#[39]⟩):=by
  intro X g
  apply t_inj
  rw[ByteArray.data_append,Array.toList_append,g]
  unfold oL
  simp
 go_enter func92,ntmps92
 go_wp2_with fail
 go_loop [3,4] (fun sv x=> ∃(k:Nat) (X:BA),k≤s.size∧x= i4 k∧sv= .string X∧X.data.toList=39::quo (s.data.toList.take k)) (fun _ i=>s.size- (intOf i).toNat)
 case atStart=>exact⟨0,⟨#[39]⟩,Nat.zero_le _,rfl,rfl,rfl⟩
 case round=>
  obtain⟨k,X,A,rfl,rfl,g⟩:=hrel
  have m:=hid g
  have u:X.size≤2001:=by
   have y:=ss (s.data.toList.take k)
   have z:(s.data.toList.take k).length≤k:=by rw[length_take];omega
   have p:X.size=X.data.toList.length:=rfl
   rw[p,g,length_cons]
   omega
  clear g
  by_cases j:k<s.size
  ·have l:=hid (quo_snoc s k j)
   have b:=hid (ext1 s k j)
   have r:(s.extract k (k+1)).size≤1:=by
    have:(s.extract k (k+1)).size=(s.extract k (k+1)).data.toList.length:=rfl
    rw[this,b.out];simp
   have B:(0:Int)≤(k:Int):=by omega
   by_cases a:s[k]=39
   ·have o:((s[k].toNat:Int)==39)=true:=by rw[a];rfl
    have f:Hid (((X++⟨#[39]⟩)++s.extract k (k+1)).data.toList=39::quo (s.data.toList.take (k+1))):=by
     unfold Hid
     rw[l.out,if_pos a,ByteArray.data_append,Array.toList_append,ByteArray.data_append,Array.toList_append,m.out,b.out,a]
     simp
    have t:(X++⟨#[39]⟩:BA).size≤2002:=by rw[ByteArray.size_append];show X.size+1≤2002;omega
    clear a l b
    go_wp2_with fail
    go_round
    case rel=>exact⟨k+1,_,by omega,by go_num,rfl,f⟩
    case measure=>simp[intOf];omega
   ·have o:((s[k].toNat:Int)==39)=false:=by
     rw[beq_eq_false_iff_ne]
     intro h
     apply a
     apply UInt8.toNat_inj.1
     show s[k].toNat=39
     omega
    have f:Hid ((X++s.extract k (k+1)).data.toList=39::quo (s.data.toList.take (k+1))):=by
     unfold Hid
     rw[l.out,if_neg a,ByteArray.data_append,Array.toList_append,m.out,b.out]
     simp
    clear a l b
    go_wp2_with fail
    go_round
    case rel=>exact⟨k+1,_,by omega,by go_num,rfl,f⟩
    case measure=>simp[intOf];omega
  ·have f:=hid (n X (by rw[m.out,take_of_length_le (by simp;omega)]))
   go_wp2_with fail
   go_ret
   exact⟨fR f,Ext.refl w⟩
structure Gd (w:World):Prop where
 sh:Sh w
 tab:Tab w
theorem Gd.ext {w w':World} (h:Gd w) (a:Ext w w'):Gd w':=⟨h.sh.ext a,h.tab.ext a⟩
theorem Gd.can {w:World} (h:Gd w) {n:Int} (a:I64 n):Can w n:= .inr ⟨h.tab,a.1,a.2⟩
theorem la (e:Ex) (r:Int) (A:OA) (n c:Nat) (w:World) (hs:e.pl.size≤100000)
  (p:∀W,Ext w W→Cl 206 #[e.d.val A n c] W (Rt (.string e.pl) W)):
  Cl 131 #[e.d.val A n c,i4 r] w fun x w'=>x= .returned (.string (e.tx r))∧Ext w w':=by
 have o:=hid p
 have m:=hid (nA e A n c)
 have i:Hid (e.tx r=brk e.d.op e.pl r):=rfl
 have f:Hid (∀s,brk e.d.op s r=if lvl e.d.op<r then ⟨#[40]⟩++s++⟨#[41]⟩else s):=fun _=>rfl
 have l:=hid (Blk.of_new w 37 (e.d.cells A n c))
 have j:=hid (x10 w (.cells (e.d.cells A n c).toArray 37))
 clear p
 generalize e.tx r=R at*
 generalize e.pl=P at*
 by_cases h:lvl e.d.op<r
 ·have t:decide (lvl e.d.op<r)=true:=by simpa using h
  have k:Hid (R=⟨#[40]⟩++P++⟨#[41]⟩):=by unfold Hid;rw[i.out,f.out,if_pos h]
  clear h i f
  generalize lvl e.d.op=L at*
  unfold Nd.val at*
  unfold Nd.cells at*
  generalize e.d=d at*
  obtain⟨op,tb,nm,ix,vk,vi,vt⟩:=d
  simp only at*
  go_enter func131,ntmps131
  go_wp2_with (first|(go_at_call 206;refine(o _ j).mono ?_;rintro _ u ⟨rfl,b⟩;have a:=l.ext b;obtain⟨c0,c1,c2,c3,c4,c5,c6,c7,-⟩:=cls a;clear a)|(go_at_call 207;refine(m _).mono ?_;rintro _ y ⟨rfl,g⟩))
  go_ret
  exact⟨fR k.symm,(j.trans b).trans g⟩
 ·have t:decide (lvl e.d.op<r)=false:=by simpa using h
  have k:Hid (R=P):=by unfold Hid;rw[i.out,f.out,if_neg h]
  clear h i f
  generalize lvl e.d.op=L at*
  unfold Nd.val at*
  unfold Nd.cells at*
  generalize e.d=d at*
  obtain⟨op,tb,nm,ix,vk,vi,vt⟩:=d
  simp only at*
  go_enter func131,ntmps131
  go_wp2_with (first|(go_at_call 206;refine(o _ j).mono ?_;rintro _ u ⟨rfl,b⟩;have a:=l.ext b;obtain⟨c0,c1,c2,c3,c4,c5,c6,c7,-⟩:=cls a;clear a)|(go_at_call 207;refine(m _).mono ?_;rintro _ y ⟨rfl,g⟩))
  go_ret
  exact⟨fR k.symm,(j.trans b).trans g⟩
def gI:Array Value:=#[.string ⟨#[]⟩,.string ⟨#[]⟩,.string ⟨#[]⟩,.string ⟨#[]⟩,.string ⟨#[43]⟩,.string ⟨#[45]⟩,.string ⟨#[42]⟩,.string ⟨#[47]⟩,.string ⟨#[37]⟩,.string ⟨#[]⟩,.string ⟨#[61]⟩,.string ⟨#[60,62]⟩,.string ⟨#[60]⟩,.string ⟨#[60,61]⟩,
 .string ⟨#[62]⟩,.string ⟨#[62,61]⟩,.string ⟨#[76,73,75,69]⟩,.string ⟨#[]⟩,.string ⟨#[65,78,68]⟩,.string ⟨#[79,82]⟩]
def zerC:Array Value:=Array.replicate 20 (.string ⟨#[]⟩)
theorem pF (op:Int) (h:4≤op∧op≤8∨10≤op∧op≤16∨op=18∨op=19):gI.toList[op.toNat]? =some (.string (sgn op)):=by
 have b:∀k:Nat,(k<20∧(4≤k∧k≤8∨10≤k∧k≤16∨k=18∨k=19))→gI.toList[k]? =some (.string (sgn (k:Int))):=by
  intro k ⟨e,f⟩
  have a:k=4∨k=5∨k=6∨k=7∨k=8∨k=10∨k=11∨k=12∨k=13∨k=14∨k=15∨k=16∨k=18∨k=19:=by omega
  rcases a with rfl|rfl|rfl|rfl|rfl|rfl|rfl|rfl|rfl|rfl|rfl|rfl|rfl|rfl<;>rfl
 have:=b op.toNat (by omega)
 rwa [show((op.toNat:Nat):Int)=op by omega]at this
theorem pc_bin4 (op:Int) (tb nm:BA) (ix vk vi:Int) (vt:BA) (b i:Nat) (n c:Nat) (w:World) (x y:Ex) (X Y:BA) (H I:OA) (V Z c1 c2:Nat)
  (t:4≤op∧op≤8∨10≤op∧op≤16∨op=18∨op=19) (hn:n=2) (hX:X.size≤100000) (hY:Y.size≤100000)
  (P:dI w b (i+0*8) x H V c1) (Q:dI w b (i+1*8) y I Z c2) (b4:(lvl op==4)=true)
  (R:∀W,Ext w W→Cl 131 #[x.d.val H V c1,i4 5] W (Rt (.string X) W))
  (U:∀W,Ext w W→Cl 131 #[y.d.val I Z c2,i4 (lvl op+1)] W (Rt (.string Y) W)):
  Cl 206 #[.agg #[i4 op,.string tb,.string nm,i4 ix,i4 vk,i4 vi,.string vt,.slice (some ⟨b,i,none⟩) n c]] w (Rt (.string (X++⟨#[32]⟩++sgn op++⟨#[32]⟩++Y)) w):=by
 subst hn
 have b1:(op==1)=false:=by rw[beq_eq_false_iff_ne];omega
 have b2:(op==2)=false:=by rw[beq_eq_false_iff_ne];omega
 have b3:(op==3)=false:=by rw[beq_eq_false_iff_ne];omega
 have b9:(op==9)=false:=by rw[beq_eq_false_iff_ne];omega
 have ac:(op==17)=false:=by rw[beq_eq_false_iff_ne];omega
 have ad:(op==20)=false:=by rw[beq_eq_false_iff_ne];omega
 have ax:=jE op
 have HS:=hid (pF op t)
 have A:=hid (fun W=>nA (.mk ⟨op,tb,nm,ix,vk,vi,vt⟩ []) (some ⟨b,i,none⟩) 2 c W)
 have f:=hid P
 have h:=hid Q
 have J:=hid R
 have K:=hid U
 have o0:(0:Int)≤op:=by omega
 have o1:op<20:=by omega
 have E:1≤lvl op∧lvl op≤8:=by unfold lvl;repeat' split<;>try omega
 clear P Q R U t
 unfold Nd.val at A J K
 simp only[Ex.d]at A
 generalize lvl op=L at*
 obtain⟨ag,an⟩:=E
 generalize sgn op=G at*
 have HB:=hid (Blk.of_new w 37 (eC op tb nm ix vk vi vt (some ⟨b,i,none⟩) 2 c))
 have HX:=hid (x10 w (.cells #[i4 op,.string tb,.string nm,i4 ix,i4 vk,i4 vi,.string vt,.slice (some ⟨b,i,none⟩) 2 c] 37))
 go_enter func206,ntmps206
 go_upto_region 21 with fail
 generalize w.alloc (.cells #[i4 op,.string tb,.string nm,i4 ix,i4 vk,i4 vi,.string vt,.slice (some ⟨b,i,none⟩) 2 c] 37)=k at*
 generalize w.heap.size=g at*
 apply wp_region_lit
 refine wpList_buildTo rfl 213 _ rfl (some 72) rfl gI (by kernel_rfl) ?_
 refine Great.wpList_allocTo rfl (some 3) rfl (.pointer (some ⟨k.heap.size,0,none⟩)) (.cells zerC 213) (by kernel_rfl) ?_
 refine wpList_store_rowTo rfl 213 (.tmp 3) (.tmp 72) rfl rfl k.heap.size gI rfl rfl 213 zerC (heap_alloc_new k _) (by kernel_rfl) (by kernel_rfl) (by kernel_rfl) ?_
 apply wpList_nil
 rw[World.setRow_alloc_new]
 have l:=hid (HB.ext (x10 k (.cells gI 213)))
 have D:=hid (HX.alloc (.cells gI 213))
 have O:=hid (Blk.of_new k 213 gI.toList)
 have s:(.cells gI.toList.toArray 213:Obj)= .cells gI 213:=rfl
 rw[s]at O
 clear s
 generalize k.alloc (.cells gI 213)=w2 at*
 generalize k.heap.size=ga at*
 have e:=l.out
 have c0:=e.cell 0
 have m:=e.cell 1
 have o:=e.cell 2
 have c3:=e.cell 3
 have c4:=e.cell 4
 have c5:=e.cell 5
 have c6:=e.cell 6
 have c7:=e.cell 7
 simp only[g10,g11]at c0 m o c3 c4 c5 c6 c7
 clear e
 go_wp2_with (go_at_call 207;refine(A _).mono ?_;rintro _ w3 ⟨rfl,j⟩)
 have a:=hid (D.trans j)
 clear c0 m o c3 c4 c5 c6 c7
 have p:=l.ext j
 obtain⟨k0,k1,k2,k3,k4,k5,k6,k7,-⟩:=lks p
 have ks:=ai.keep (((O.ext j).cell op.toNat).trans HS)
 have q0:=ai.keep (a.keep f.c0)
 have q1:=ai.keep (a.keep f.c1)
 have q2:=ai.keep (a.keep f.c2)
 have q3:=ai.keep (a.keep f.c3)
 have q4:=ai.keep (a.keep f.c4)
 have q5:=ai.keep (a.keep f.c5)
 have q6:=ai.keep (a.keep f.c6)
 have q7:=ai.keep (a.keep f.c7)
 have s0:=ai.keep (a.keep h.c0)
 have s1:=ai.keep (a.keep h.c1)
 have s2:=ai.keep (a.keep h.c2)
 have s3:=ai.keep (a.keep h.c3)
 have s4:=ai.keep (a.keep h.c4)
 have s5:=ai.keep (a.keep h.c5)
 have s6:=ai.keep (a.keep h.c6)
 have s7:=ai.keep (a.keep h.c7)
 simp only[Nat.zero_mul,Nat.add_zero]at q0 q1 q2 q3 q4 q5 q6 q7
 have B:Hid (∀z:ai w3,Cl 131 _ z.now _):=fun z=>J z.now (a.trans z.ext)
 have C:Hid (∀z:ai w3,Cl 131 _ z.now _):=fun z=>K z.now (a.trans z.ext)
 have lw:IntKind.i64.wrap (L+1)=L+1:=IntWalk.i64_in _ (by omega)
 clear j p
 refine af (by kernel_rfl) (by kernel_rfl) ?_
 repeat (go_big_quiet_step ((first|(go_at_call 131;with_reducible exact aq (B.out _))|(go_at_call 131;with_reducible exact aq (C.out _))|(go_at_call 207;exact aq (A.out _)))))
 refine wpQuiet_nil ?_
 intro w4 u
 have F:=am u
 clear u k0 k1 k2 k3 k4 k5 k6 k7 ks q0 q1 q2 q3 q4 q5 q6 q7 s0 s1 s2 s3 s4 s5 s6 s7 lw
 go_wp2_with fail
 go_ret
 exact⟨rfl,a.trans F⟩
theorem pc_bin (op:Int) (tb nm:BA) (ix vk vi:Int) (vt:BA) (b i:Nat) (n c:Nat) (w:World) (x y:Ex) (X Y:BA) (H I:OA) (V Z c1 c2:Nat)
  (t:4≤op∧op≤8∨10≤op∧op≤16∨op=18∨op=19) (hn:n=2) (hX:X.size≤100000) (hY:Y.size≤100000)
  (P:dI w b (i+0*8) x H V c1) (Q:dI w b (i+1*8) y I Z c2) (b4:(lvl op==4)=false)
  (R:∀W,Ext w W→Cl 131 #[x.d.val H V c1,i4 (lvl op)] W (Rt (.string X) W))
  (U:∀W,Ext w W→Cl 131 #[y.d.val I Z c2,i4 (lvl op+1)] W (Rt (.string Y) W)):
  Cl 206 #[.agg #[i4 op,.string tb,.string nm,i4 ix,i4 vk,i4 vi,.string vt,.slice (some ⟨b,i,none⟩) n c]] w (Rt (.string (X++⟨#[32]⟩++sgn op++⟨#[32]⟩++Y)) w):=by
 subst hn
 have b1:(op==1)=false:=by rw[beq_eq_false_iff_ne];omega
 have b2:(op==2)=false:=by rw[beq_eq_false_iff_ne];omega
 have b3:(op==3)=false:=by rw[beq_eq_false_iff_ne];omega
 have b9:(op==9)=false:=by rw[beq_eq_false_iff_ne];omega
 have ac:(op==17)=false:=by rw[beq_eq_false_iff_ne];omega
 have ad:(op==20)=false:=by rw[beq_eq_false_iff_ne];omega
 have ax:=jE op
 have HS:=hid (pF op t)
 have A:=hid (fun W=>nA (.mk ⟨op,tb,nm,ix,vk,vi,vt⟩ []) (some ⟨b,i,none⟩) 2 c W)
 have f:=hid P
 have h:=hid Q
 have J:=hid R
 have K:=hid U
 have o0:(0:Int)≤op:=by omega
 have o1:op<20:=by omega
 have E:1≤lvl op∧lvl op≤8:=by unfold lvl;repeat' split<;>try omega
 clear P Q R U t
 unfold Nd.val at A J K
 simp only[Ex.d]at A
 generalize lvl op=L at*
 obtain⟨ag,an⟩:=E
 generalize sgn op=G at*
 have HB:=hid (Blk.of_new w 37 (eC op tb nm ix vk vi vt (some ⟨b,i,none⟩) 2 c))
 have HX:=hid (x10 w (.cells #[i4 op,.string tb,.string nm,i4 ix,i4 vk,i4 vi,.string vt,.slice (some ⟨b,i,none⟩) 2 c] 37))
 go_enter func206,ntmps206
 go_upto_region 21 with fail
 generalize w.alloc (.cells #[i4 op,.string tb,.string nm,i4 ix,i4 vk,i4 vi,.string vt,.slice (some ⟨b,i,none⟩) 2 c] 37)=k at*
 generalize w.heap.size=g at*
 apply wp_region_lit
 refine wpList_buildTo rfl 213 _ rfl (some 72) rfl gI (by kernel_rfl) ?_
 refine Great.wpList_allocTo rfl (some 3) rfl (.pointer (some ⟨k.heap.size,0,none⟩)) (.cells zerC 213) (by kernel_rfl) ?_
 refine wpList_store_rowTo rfl 213 (.tmp 3) (.tmp 72) rfl rfl k.heap.size gI rfl rfl 213 zerC (heap_alloc_new k _) (by kernel_rfl) (by kernel_rfl) (by kernel_rfl) ?_
 apply wpList_nil
 rw[World.setRow_alloc_new]
 have l:=hid (HB.ext (x10 k (.cells gI 213)))
 have D:=hid (HX.alloc (.cells gI 213))
 have O:=hid (Blk.of_new k 213 gI.toList)
 have s:(.cells gI.toList.toArray 213:Obj)= .cells gI 213:=rfl
 rw[s]at O
 clear s
 generalize k.alloc (.cells gI 213)=w2 at*
 generalize k.heap.size=ga at*
 have e:=l.out
 have c0:=e.cell 0
 have m:=e.cell 1
 have o:=e.cell 2
 have c3:=e.cell 3
 have c4:=e.cell 4
 have c5:=e.cell 5
 have c6:=e.cell 6
 have c7:=e.cell 7
 simp only[g10,g11]at c0 m o c3 c4 c5 c6 c7
 clear e
 go_wp2_with (go_at_call 207;refine(A _).mono ?_;rintro _ w3 ⟨rfl,j⟩)
 have a:=hid (D.trans j)
 clear c0 m o c3 c4 c5 c6 c7
 have p:=l.ext j
 obtain⟨k0,k1,k2,k3,k4,k5,k6,k7,-⟩:=lks p
 have ks:=ai.keep (((O.ext j).cell op.toNat).trans HS)
 have q0:=ai.keep (a.keep f.c0)
 have q1:=ai.keep (a.keep f.c1)
 have q2:=ai.keep (a.keep f.c2)
 have q3:=ai.keep (a.keep f.c3)
 have q4:=ai.keep (a.keep f.c4)
 have q5:=ai.keep (a.keep f.c5)
 have q6:=ai.keep (a.keep f.c6)
 have q7:=ai.keep (a.keep f.c7)
 have s0:=ai.keep (a.keep h.c0)
 have s1:=ai.keep (a.keep h.c1)
 have s2:=ai.keep (a.keep h.c2)
 have s3:=ai.keep (a.keep h.c3)
 have s4:=ai.keep (a.keep h.c4)
 have s5:=ai.keep (a.keep h.c5)
 have s6:=ai.keep (a.keep h.c6)
 have s7:=ai.keep (a.keep h.c7)
 simp only[Nat.zero_mul,Nat.add_zero]at q0 q1 q2 q3 q4 q5 q6 q7
 have B:Hid (∀z:ai w3,Cl 131 _ z.now _):=fun z=>J z.now (a.trans z.ext)
 have C:Hid (∀z:ai w3,Cl 131 _ z.now _):=fun z=>K z.now (a.trans z.ext)
 have lw:IntKind.i64.wrap (L+1)=L+1:=IntWalk.i64_in _ (by omega)
 clear j p
 refine af (by kernel_rfl) (by kernel_rfl) ?_
 repeat (go_big_quiet_step ((first|(go_at_call 131;with_reducible exact aq (B.out _))|(go_at_call 131;with_reducible exact aq (C.out _))|(go_at_call 207;exact aq (A.out _)))))
 refine wpQuiet_nil ?_
 intro w4 u
 have F:=am u
 clear u k0 k1 k2 k3 k4 k5 k6 k7 ks q0 q1 q2 q3 q4 q5 q6 q7 s0 s1 s2 s3 s4 s5 s6 s7 lw
 go_wp2_with fail
 go_ret
 exact⟨rfl,a.trans F⟩
theorem pl_num (tb nm:BA) (ix vk vi:Int) (vt:BA) (A:OA) (n c:Nat) (w:World) (e:Hid (∀W,Ext w W→Can W vi)):
  Cl 206 #[.agg #[i4 1,.string tb,.string nm,i4 ix,i4 1,i4 vi,.string vt,.slice A n c]] w (Rt (.string (itoB vi)) w):=by
 have b:=hid (x10 w (.cells #[i4 1,.string tb,.string nm,i4 ix,i4 1,i4 vi,.string vt,.slice A n c] 37))
 go_enter func206,ntmps206
 go_wp2_with (go_at_call 202;refine(number_any _ _ (e _ b)).mono ?_;rintro _ f ⟨rfl,a⟩)
 go_ret
 exact⟨rfl,b.trans a⟩
theorem pl_text (tb nm:BA) (ix vk vi:Int) (vt:BA) (A:OA) (n c:Nat) (w:World) (e:Hid (Sh w)) (hs:vt.size≤1000) (f:(oL vt).size≤2000):
  Cl 206 #[.agg #[i4 1,.string tb,.string nm,i4 ix,i4 2,i4 vi,.string vt,.slice A n c]] w (Rt (.string (⟨#[39]⟩++oL vt++⟨#[39]⟩)) w):=by
 have b:=hid (x10 w (.cells #[i4 1,.string tb,.string nm,i4 ix,i4 2,i4 vi,.string vt,.slice A n c] 37))
 go_enter func206,ntmps206
 go_wp2_with (go_at_call 257;refine(repl_any _ _ (e.ext b) hs).mono ?_;rintro _ g ⟨rfl,a⟩)
 go_ret
 exact⟨rfl,b.trans a⟩
theorem pl_null (tb nm:BA) (ix vk vi:Int) (vt:BA) (A:OA) (n c:Nat) (w:World):
  Cl 206 #[.agg #[i4 1,.string tb,.string nm,i4 ix,i4 0,i4 vi,.string vt,.slice A n c]] w (Rt (.string ⟨#[78,85,76,76]⟩) w):=by
 have a:=hid (x10 w (.cells #[i4 1,.string tb,.string nm,i4 ix,i4 0,i4 vi,.string vt,.slice A n c] 37))
 go_enter func206,ntmps206
 go_wp2_with fail
 go_ret
 exact⟨rfl,a⟩
theorem pl_col (tb nm:BA) (ix vk vi:Int) (vt:BA) (A:OA) (n c:Nat) (w:World):
  Cl 206 #[.agg #[i4 2,.string ⟨#[]⟩,.string nm,i4 ix,i4 vk,i4 vi,.string vt,.slice A n c]] w (Rt (.string nm) w):=by
 have a:=hid (x10 w (.cells #[i4 2,.string ⟨#[]⟩,.string nm,i4 ix,i4 vk,i4 vi,.string vt,.slice A n c] 37))
 go_enter func206,ntmps206
 go_wp2_with fail
 go_ret
 exact⟨rfl,a⟩
theorem pl_qual (tb nm:BA) (ix vk vi:Int) (vt:BA) (A:OA) (n c:Nat) (w:World) (e:¬tb.toList= []) (f:tb.toList.isEmpty=false) (hs:tb.size≤1000) (b:nm.size≤1000):
  Cl 206 #[.agg #[i4 2,.string tb,.string nm,i4 ix,i4 vk,i4 vi,.string vt,.slice A n c]] w (Rt (.string (tb++⟨#[46]⟩++nm)) w):=by
 have a:=hid (x10 w (.cells #[i4 2,.string tb,.string nm,i4 ix,i4 vk,i4 vi,.string vt,.slice A n c] 37))
 go_enter func206,ntmps206
 go_wp2_with fail
 go_ret
 exact⟨rfl,a⟩
theorem pl_neg (tb nm:BA) (ix vk vi:Int) (vt:BA) (b e n c:Nat) (w:World) (x:Ex) (X:BA) (g:OA) (k c1:Nat) (l:n=1) (m:X.size≤100000)
  (a:dI w b (e+0*8) x g k c1)
  (j:∀W,Ext w W→Cl 131 #[x.d.val g k c1,i4 8] W (Rt (.string X) W)):
  Cl 206 #[.agg #[i4 3,.string tb,.string nm,i4 ix,i4 vk,i4 vi,.string vt,.slice (some ⟨b,e,none⟩) n c]] w (Rt (.string (⟨#[45]⟩++X)) w):=by
 subst l
 have i:=hid (x10 w (.cells #[i4 3,.string tb,.string nm,i4 ix,i4 vk,i4 vi,.string vt,.slice (some ⟨b,e,none⟩) 1 c] 37))
 have h:=hid j
 unfold Nd.val at h
 simp only[Nat.zero_mul,Nat.add_zero]at a
 have p:=fun o=> (x10 w o).keep a.c0
 have s:=fun o=> (x10 w o).keep a.c1
 have t:=fun o=> (x10 w o).keep a.c2
 have u:=fun o=> (x10 w o).keep a.c3
 have y:=fun o=> (x10 w o).keep a.c4
 have z:=fun o=> (x10 w o).keep a.c5
 have A:=fun o=> (x10 w o).keep a.c6
 have B:=fun o=> (x10 w o).keep a.c7
 clear j a
 go_enter func206,ntmps206
 go_wp2_with (go_at_call 131;refine(h _ i).mono ?_;rintro _ C ⟨rfl,f⟩)
 go_ret
 exact⟨rfl,i.trans f⟩
theorem pl_len (tb nm:BA) (ix vk vi:Int) (vt:BA) (b e n c:Nat) (w:World) (x:Ex) (X:BA) (g:OA) (k c1:Nat) (l:n=1) (m:X.size≤100000)
  (a:dI w b (e+0*8) x g k c1)
  (j:∀W,Ext w W→Cl 131 #[x.d.val g k c1,i4 1] W (Rt (.string X) W)):
  Cl 206 #[.agg #[i4 9,.string tb,.string nm,i4 ix,i4 vk,i4 vi,.string vt,.slice (some ⟨b,e,none⟩) n c]] w (Rt (.string (⟨#[76,69,78,71,84,72,40]⟩++X++⟨#[41]⟩)) w):=by
 subst l
 have i:=hid (x10 w (.cells #[i4 9,.string tb,.string nm,i4 ix,i4 vk,i4 vi,.string vt,.slice (some ⟨b,e,none⟩) 1 c] 37))
 have h:=hid j
 unfold Nd.val at h
 simp only[Nat.zero_mul,Nat.add_zero]at a
 have p:=fun o=> (x10 w o).keep a.c0
 have s:=fun o=> (x10 w o).keep a.c1
 have t:=fun o=> (x10 w o).keep a.c2
 have u:=fun o=> (x10 w o).keep a.c3
 have y:=fun o=> (x10 w o).keep a.c4
 have z:=fun o=> (x10 w o).keep a.c5
 have A:=fun o=> (x10 w o).keep a.c6
 have B:=fun o=> (x10 w o).keep a.c7
 clear j a
 go_enter func206,ntmps206
 go_wp2_with (go_at_call 131;refine(h _ i).mono ?_;rintro _ C ⟨rfl,f⟩)
 go_ret
 exact⟨rfl,i.trans f⟩
theorem pl_isnull (tb nm:BA) (ix vk vi:Int) (vt:BA) (b e n c:Nat) (w:World) (x:Ex) (X:BA) (g:OA) (k c1:Nat) (l:n=1) (m:X.size≤100000)
  (a:dI w b (e+0*8) x g k c1)
  (j:∀W,Ext w W→Cl 131 #[x.d.val g k c1,i4 5] W (Rt (.string X) W)):
  Cl 206 #[.agg #[i4 17,.string tb,.string nm,i4 ix,i4 vk,i4 vi,.string vt,.slice (some ⟨b,e,none⟩) n c]] w (Rt (.string (X++⟨#[32,73,83,32,78,85,76,76]⟩)) w):=by
 subst l
 have i:=hid (x10 w (.cells #[i4 17,.string tb,.string nm,i4 ix,i4 vk,i4 vi,.string vt,.slice (some ⟨b,e,none⟩) 1 c] 37))
 have h:=hid j
 unfold Nd.val at h
 simp only[Nat.zero_mul,Nat.add_zero]at a
 have p:=fun o=> (x10 w o).keep a.c0
 have s:=fun o=> (x10 w o).keep a.c1
 have t:=fun o=> (x10 w o).keep a.c2
 have u:=fun o=> (x10 w o).keep a.c3
 have y:=fun o=> (x10 w o).keep a.c4
 have z:=fun o=> (x10 w o).keep a.c5
 have A:=fun o=> (x10 w o).keep a.c6
 have B:=fun o=> (x10 w o).keep a.c7
 clear j a
 go_enter func206,ntmps206
 go_wp2_with (go_at_call 131;refine(h _ i).mono ?_;rintro _ C ⟨rfl,f⟩)
 go_ret
 exact⟨rfl,i.trans f⟩
theorem pl_not (tb nm:BA) (ix vk vi:Int) (vt:BA) (b e n c:Nat) (w:World) (x:Ex) (X:BA) (g:OA) (k c1:Nat) (l:n=1) (m:X.size≤100000)
  (a:dI w b (e+0*8) x g k c1)
  (j:∀W,Ext w W→Cl 131 #[x.d.val g k c1,i4 3] W (Rt (.string X) W)):
  Cl 206 #[.agg #[i4 20,.string tb,.string nm,i4 ix,i4 vk,i4 vi,.string vt,.slice (some ⟨b,e,none⟩) n c]] w (Rt (.string (⟨#[78,79,84,32]⟩++X)) w):=by
 subst l
 have i:=hid (x10 w (.cells #[i4 20,.string tb,.string nm,i4 ix,i4 vk,i4 vi,.string vt,.slice (some ⟨b,e,none⟩) 1 c] 37))
 have h:=hid j
 unfold Nd.val at h
 simp only[Nat.zero_mul,Nat.add_zero]at a
 have p:=fun o=> (x10 w o).keep a.c0
 have s:=fun o=> (x10 w o).keep a.c1
 have t:=fun o=> (x10 w o).keep a.c2
 have u:=fun o=> (x10 w o).keep a.c3
 have y:=fun o=> (x10 w o).keep a.c4
 have z:=fun o=> (x10 w o).keep a.c5
 have A:=fun o=> (x10 w o).keep a.c6
 have B:=fun o=> (x10 w o).keep a.c7
 clear j a
 go_enter func206,ntmps206
 go_wp2_with (go_at_call 131;refine(h _ i).mono ?_;rintro _ C ⟨rfl,f⟩)
 go_ret
 exact⟨rfl,i.trans f⟩
theorem pl_mk (d:Nd) (ks:List Ex):(Ex.mk d ks).pl=plD d (ks.map fun e=> (e.d.op,e.pl)):=by rw[Ex.pl,plL_eq]
theorem ef {d:Nd} {ks:List Ex} {x:Ex} (h:x∈ks):x.size≤(Ex.mk d ks).size:=Nat.le_of_lt (ud h)
theorem plain_any:∀(e:Ex) (A:OA) (n c:Nat) (w:World),ExV w e A n c→e.formed=true→e.size≤1000→Gd w→
  Cl 206 #[e.d.val A n c] w (Rt (.string e.pl) w):=by
 intro e
 induction e using Ex.ind with
 |h d ks ih=>
  intro A n c w hv hf hs V
  obtain⟨L,h2,U,D⟩:=hv
  have L:ks.length=n:=L
  have D:KidsAt w A ks:=D
  have U:d.fit:=U
  obtain⟨f1,R,s⟩:=aN hf
  have j:∀x∈ks,∀(r:Int) (l:OA) (m c':Nat) (W:World),Ext w W→ExV W x l m c'→Cl 131 #[x.d.val l m c',i4 r] W fun y w'=>y= .returned (.string (x.tx r))∧Ext W w':=by
   intro x j r l m c' W f X
   have H:x.size≤1000:=Nat.le_trans (ef (d:=d) j) hs
   have hp:=oQ x (R x j)
   exact la x r l m c' W (by omega) fun Z F=>ih x j l m c' Z (X.ext F) (R x j) H ((V.ext f).ext F)
  have g:∀x∈ks,∀r,(x.tx r).size≤100000:=by
   intro x j r
   have H:x.size≤1000:=Nat.le_trans (ef (d:=d) j) hs
   have:=cK x r (R x j)
   omega
  rw[pl_mk]
  have I:∀A,(Ex.mk d ks).d.val A n c= .agg #[i4 d.op,.string d.tb,.string d.nm,i4 d.ix,i4 d.vk,i4 d.vi,.string d.vt,.slice A n c]:=fun _=>rfl
  rw[I]
  unfold plD
  rcases cQ d.op with ⟨h0,h5⟩|⟨h0,h5⟩|⟨h0,h5⟩|h0
  ·rcases h5 with h5|h5
   ·unfold ndB at s
    rw[if_neg (by omega),if_pos h5]at s
    simp only[Bool.and_eq_true]at s
    obtain⟨l1,l2,B⟩:=iE s.2
    rw[if_pos h5,h5]
    rcases B with B|B|B
    ·rw[if_neg (by omega),if_neg (by omega),B]
     exact pl_null _ _ _ d.vk _ _ _ _ _ _
    ·rw[if_pos B,B]
     exact pl_num _ _ _ d.vk _ _ _ _ _ _ fun W f=> (V.ext f).can U.vi
    ·rw[if_neg (by omega),if_pos B,B]
     have:=qX d.vt
     exact pl_text _ _ _ d.vk _ _ _ _ _ _ V.sh (by omega) (by omega)
   ·unfold ndB at s
    rw[if_pos h5]at s
    simp only[Bool.and_eq_true,Bool.or_eq_true,beq_iff_eq]at s
    have l1:=bT s.1.1
    rw[if_neg (by omega),if_pos h5,h5]
    by_cases C:d.tb.size=0
    ·rw[if_pos C,bF C]
     exact pl_col d.tb _ _ _ _ _ _ _ _ _
    ·rw[if_neg C]
     have l2:d.tb.size≤24:=by
      rcases s.1.2 with h|h
      ·exact absurd h C
      ·exact bT h
     exact pl_qual _ _ _ _ _ _ _ _ _ _ (bV C) (bH C) (by omega) (by omega)
  ·obtain⟨a,rfl⟩:∃a,ks= [a]:=by
    have:ks.length=1:=by omega
    exact List.length_eq_one_iff.1 this
   obtain⟨b,k,l,m,c',rfl,o⟩:=D.get (i:=0) (e:=a) rfl
   have p:a∈[a]:=by simp
   have z:n=1:=by rw[←L];rfl
   simp only[map_cons,map_nil,getD_cons_zero]
   rcases h5 with h5|h5|h5|h5
   ·rw[if_neg (by omega),if_neg (by omega),if_pos h5,h5]
    exact pl_neg _ _ _ _ _ _ b k n c w a _ l m c' z (g a p 8) o fun W f=>j a p 8 l m c' W f (o.val.ext f)
   ·rw[if_neg (by omega),if_neg (by omega),if_neg (by omega),if_pos h5,h5]
    exact pl_len _ _ _ _ _ _ b k n c w a _ l m c' z (g a p 1) o fun W f=>j a p 1 l m c' W f (o.val.ext f)
   ·rw[if_neg (by omega),if_neg (by omega),if_neg (by omega),if_neg (by omega),if_pos h5,h5]
    exact pl_isnull _ _ _ _ _ _ b k n c w a _ l m c' z (g a p 5) o fun W f=>j a p 5 l m c' W f (o.val.ext f)
   ·rw[if_neg (by omega),if_neg (by omega),if_neg (by omega),if_neg (by omega),if_neg (by omega),if_pos h5,h5]
    exact pl_not _ _ _ _ _ _ b k n c w a _ l m c' z (g a p 3) o fun W f=>j a p 3 l m c' W f (o.val.ext f)
  ·obtain⟨x,y,rfl⟩:∃x y,ks= [x,y]:=by
    have:ks.length=2:=by omega
    match ks,this with
    | [x,y],_=>exact⟨x,y,rfl⟩
   obtain⟨b,k,J,P,c1,rfl,o⟩:=D.get (i:=0) (e:=x) rfl
   obtain⟨b2,Y,K,Q,c2,E,u⟩:=D.get (i:=1) (e:=y) rfl
   simp only[Option.some.injEq,Addr.mk.injEq,and_true]at E
   obtain⟨rfl,rfl⟩:=E
   have p:x∈[x,y]:=by simp
   have O:y∈[x,y]:=by simp
   have G:n=2:=by rw[←L];rfl
   simp only[map_cons,map_nil,getD_cons_zero,getD_cons_succ]
   rw[if_neg (by omega),if_neg (by omega),if_neg (by omega),if_neg (by omega),if_neg (by omega),if_neg (by omega)]
   by_cases t:lvl d.op=4
   ·rw[if_pos t]
    exact pc_bin4 d.op _ _ _ _ _ _ b k n c w x y _ _ J K P Q c1 c2 h5 G (g x p 5) (g y O (lvl d.op+1)) o u (by rw[t];rfl)
     (fun W f=>j x p 5 J P c1 W f (o.val.ext f)) (fun W f=>j y O (lvl d.op+1) K Q c2 W f (u.val.ext f))
   ·rw[if_neg t]
    exact pc_bin d.op _ _ _ _ _ _ b k n c w x y _ _ J K P Q c1 c2 h5 G (g x p (lvl d.op)) (g y O (lvl d.op+1)) o u (by simpa using t)
     (fun W f=>j x p (lvl d.op) J P c1 W f (o.val.ext f)) (fun W f=>j y O (lvl d.op+1) K Q c2 W f (u.val.ext f))
  ·omega
theorem jO (e:Ex) (r:Int) (A:OA) (n c:Nat) (w:World) (g:ExV w e A n c) (b:e.formed=true) (hs:e.size≤1000) (f:Gd w):
  Cl 131 #[e.d.val A n c,i4 r] w fun x w'=>x= .returned (.string (e.tx r))∧Ext w w':=
 la e r A n c w (by have:=oQ e b;omega) fun W a=>plain_any e A n c W (g.ext a) b hs (f.ext a)
theorem rj (op:Int) (w:World) (b:4≤op∧op≤8∨10≤op∧op≤16∨op=18∨op=19):Cl 93 #[i4 op] w (Rt (.string (sgn op)) w):=by
 have g:=hid (pF op b)
 have e:=hid (Blk.of_new w 9 gI.toList)
 have f:=hid (x10 w (.cells gI 9))
 have a:(.cells gI.toList.toArray 9:Obj)= .cells gI 9:=rfl
 rw[a]at e
 have i:(0:Int)≤op:=by omega
 have o1:op<20:=by omega
 have h:=(e.cell op.toNat).trans g
 clear a b
 generalize sgn op=G at*
 go_enter func93,ntmps93
 unfold gI at h f
 go_wp2_with fail
 go_ret
 exact⟨rfl,f⟩
theorem pr_num (tb nm:BA) (ix vk vi:Int) (vt:BA) (A:OA) (n c:Nat) (w:World) (L r:Int) (j:decide (L<r)=false)
  (e:Hid (∀W,Cl 90 #[.agg #[i4 1,.string tb,.string nm,i4 ix,i4 1,i4 vi,.string vt,.slice A n c]] W (Rt (i4 L) W))) (hi:I64 vi) (i: -9223372036854775808<vi):
  Cl 50 #[.agg #[i4 1,.string tb,.string nm,i4 ix,i4 1,i4 vi,.string vt,.slice A n c],i4 r] w (Rt (.string (itoB vi)) w):=by
 have g:=hid (Blk.of_new w 37 (eC 1 tb nm ix 1 vi vt A n c))
 have h:=hid (x10 w (.cells #[i4 1,.string tb,.string nm,i4 ix,i4 1,i4 vi,.string vt,.slice A n c] 37))
 go_enter func50,ntmps50
 go_wp2_with (first|(go_at_call 90;refine(e _).mono ?_;rintro _ k ⟨rfl,b⟩;have a:=g.ext b;obtain⟨c0,c1,c2,c3,c4,c5,c6,c7,-⟩:=cls a;clear a)|(go_at_call 91;refine(iM _ _ i hi.2).mono ?_;rintro _ l ⟨rfl,f⟩))
 go_ret
 exact⟨rfl,(h.trans b).trans f⟩
theorem pr_text (tb nm:BA) (ix vk vi:Int) (vt:BA) (A:OA) (n c:Nat) (w:World) (L r:Int) (i:decide (L<r)=false)
  (e:Hid (∀W,Cl 90 #[.agg #[i4 1,.string tb,.string nm,i4 ix,i4 2,i4 vi,.string vt,.slice A n c]] W (Rt (i4 L) W))) (hs:vt.size≤1000):
  Cl 50 #[.agg #[i4 1,.string tb,.string nm,i4 ix,i4 2,i4 vi,.string vt,.slice A n c],i4 r] w (Rt (.string (⟨#[39]⟩++oL vt++⟨#[39]⟩)) w):=by
 have g:=hid (Blk.of_new w 37 (eC 1 tb nm ix 2 vi vt A n c))
 have h:=hid (x10 w (.cells #[i4 1,.string tb,.string nm,i4 ix,i4 2,i4 vi,.string vt,.slice A n c] 37))
 go_enter func50,ntmps50
 go_wp2_with (first|(go_at_call 90;refine(e _).mono ?_;rintro _ j ⟨rfl,b⟩;have a:=g.ext b;obtain⟨c0,c1,c2,c3,c4,c5,c6,c7,-⟩:=cls a;clear a)|(go_at_call 92;refine(wF _ _ hs).mono ?_;rintro _ k ⟨rfl,f⟩))
 go_ret
 exact⟨rfl,(h.trans b).trans f⟩
theorem pr_null (tb nm:BA) (ix vk vi:Int) (vt:BA) (A:OA) (n c:Nat) (w:World) (L r:Int) (h:decide (L<r)=false)
  (e:Hid (∀W,Cl 90 #[.agg #[i4 1,.string tb,.string nm,i4 ix,i4 0,i4 vi,.string vt,.slice A n c]] W (Rt (i4 L) W))):
  Cl 50 #[.agg #[i4 1,.string tb,.string nm,i4 ix,i4 0,i4 vi,.string vt,.slice A n c],i4 r] w (Rt (.string ⟨#[78,85,76,76]⟩) w):=by
 have f:=hid (Blk.of_new w 37 (eC 1 tb nm ix 0 vi vt A n c))
 have g:=hid (x10 w (.cells #[i4 1,.string tb,.string nm,i4 ix,i4 0,i4 vi,.string vt,.slice A n c] 37))
 go_enter func50,ntmps50
 go_wp2_with (first|(go_at_call 90;refine(e _).mono ?_;rintro _ i ⟨rfl,b⟩;have a:=f.ext b;obtain⟨c0,c1,c2,c3,c4,c5,c6,c7,-⟩:=cls a;clear a))
 go_ret
 exact⟨rfl,g.trans b⟩
theorem pr_col (tb nm:BA) (ix vk vi:Int) (vt:BA) (A:OA) (n c:Nat) (w:World) (L r:Int) (h:decide (L<r)=false)
  (e:Hid (∀W,Cl 90 #[.agg #[i4 2,.string ⟨#[]⟩,.string nm,i4 ix,i4 vk,i4 vi,.string vt,.slice A n c]] W (Rt (i4 L) W))):
  Cl 50 #[.agg #[i4 2,.string ⟨#[]⟩,.string nm,i4 ix,i4 vk,i4 vi,.string vt,.slice A n c],i4 r] w (Rt (.string nm) w):=by
 have f:=hid (Blk.of_new w 37 (eC 2 ⟨#[]⟩ nm ix vk vi vt A n c))
 have g:=hid (x10 w (.cells #[i4 2,.string ⟨#[]⟩,.string nm,i4 ix,i4 vk,i4 vi,.string vt,.slice A n c] 37))
 go_enter func50,ntmps50
 go_wp2_with (first|(go_at_call 90;refine(e _).mono ?_;rintro _ i ⟨rfl,b⟩;have a:=f.ext b;obtain⟨c0,c1,c2,c3,c4,c5,c6,c7,-⟩:=cls a;clear a))
 go_ret
 exact⟨rfl,g.trans b⟩
theorem pr_qual (tb nm:BA) (ix vk vi:Int) (vt:BA) (A:OA) (n c:Nat) (w:World) (L r:Int) (i:decide (L<r)=false)
  (e:Hid (∀W,Cl 90 #[.agg #[i4 2,.string tb,.string nm,i4 ix,i4 vk,i4 vi,.string vt,.slice A n c]] W (Rt (i4 L) W))) (j:¬tb.toList= []) (k:tb.toList.isEmpty=false) (hs:tb.size≤1000) (h:nm.size≤1000):
  Cl 50 #[.agg #[i4 2,.string tb,.string nm,i4 ix,i4 vk,i4 vi,.string vt,.slice A n c],i4 r] w (Rt (.string (tb++⟨#[46]⟩++nm)) w):=by
 have f:=hid (Blk.of_new w 37 (eC 2 tb nm ix vk vi vt A n c))
 have g:=hid (x10 w (.cells #[i4 2,.string tb,.string nm,i4 ix,i4 vk,i4 vi,.string vt,.slice A n c] 37))
 go_enter func50,ntmps50
 go_wp2_with (first|(go_at_call 90;refine(e _).mono ?_;rintro _ l ⟨rfl,b⟩;have a:=f.ext b;obtain⟨c0,c1,c2,c3,c4,c5,c6,c7,-⟩:=cls a;clear a))
 go_ret
 exact⟨rfl,g.trans b⟩
theorem pr_neg (tb nm:BA) (ix vk vi:Int) (vt:BA) (b e n c:Nat) (w:World) (L r:Int) (u:decide (L<r)=false)
  (i:Hid (∀W,Cl 90 #[.agg #[i4 3,.string tb,.string nm,i4 ix,i4 vk,i4 vi,.string vt,.slice (some ⟨b,e,none⟩) n c]] W (Rt (i4 L) W))) (x:Ex) (X:BA) (l:OA) (p c1:Nat) (t:n=1) (y:X.size≤100000)
  (j:dI w b (e+0*8) x l p c1)
  (o:∀W,Ext w W→Cl 50 #[x.d.val l p c1,i4 8] W (Rt (.string X) W)):
  Cl 50 #[.agg #[i4 3,.string tb,.string nm,i4 ix,i4 vk,i4 vi,.string vt,.slice (some ⟨b,e,none⟩) n c],i4 r] w (Rt (.string (⟨#[45]⟩++X)) w):=by
 subst t
 have s:=hid (Blk.of_new w 37 (eC 3 tb nm ix vk vi vt (some ⟨b,e,none⟩) 1 c))
 have f:=hid (x10 w (.cells #[i4 3,.string tb,.string nm,i4 ix,i4 vk,i4 vi,.string vt,.slice (some ⟨b,e,none⟩) 1 c] 37))
 have m:=hid o
 unfold Nd.val at m
 simp only[Nat.zero_mul,Nat.add_zero]at j
 have g:=hid j
 clear o j
 go_enter func50,ntmps50
 go_wp2_with (first|(go_at_call 90;refine(i _).mono ?_;rintro _ H ⟨rfl,a⟩;have h:=s.ext a;obtain⟨c0,c1,c2,c3,c4,c5,c6,c7,-⟩:=cls h;clear h;have z:=(f.trans a).keep g.c0;have A:=(f.trans a).keep g.c1;have B:=(f.trans a).keep g.c2;have C:=(f.trans a).keep g.c3;have D:=(f.trans a).keep g.c4;have E:=(f.trans a).keep g.c5;have F:=(f.trans a).keep g.c6;have G:=(f.trans a).keep g.c7)|(go_at_call 50;refine(m _ (f.trans a)).mono ?_;rintro _ I ⟨rfl,k⟩))
 go_ret
 exact⟨rfl,(f.trans a).trans k⟩
theorem pr_len (tb nm:BA) (ix vk vi:Int) (vt:BA) (b e n c:Nat) (w:World) (L r:Int) (u:decide (L<r)=false)
  (i:Hid (∀W,Cl 90 #[.agg #[i4 9,.string tb,.string nm,i4 ix,i4 vk,i4 vi,.string vt,.slice (some ⟨b,e,none⟩) n c]] W (Rt (i4 L) W))) (x:Ex) (X:BA) (l:OA) (p c1:Nat) (t:n=1) (y:X.size≤100000)
  (j:dI w b (e+0*8) x l p c1)
  (o:∀W,Ext w W→Cl 50 #[x.d.val l p c1,i4 1] W (Rt (.string X) W)):
  Cl 50 #[.agg #[i4 9,.string tb,.string nm,i4 ix,i4 vk,i4 vi,.string vt,.slice (some ⟨b,e,none⟩) n c],i4 r] w (Rt (.string (⟨#[76,69,78,71,84,72,40]⟩++X++⟨#[41]⟩)) w):=by
 subst t
 have s:=hid (Blk.of_new w 37 (eC 9 tb nm ix vk vi vt (some ⟨b,e,none⟩) 1 c))
 have f:=hid (x10 w (.cells #[i4 9,.string tb,.string nm,i4 ix,i4 vk,i4 vi,.string vt,.slice (some ⟨b,e,none⟩) 1 c] 37))
 have m:=hid o
 unfold Nd.val at m
 simp only[Nat.zero_mul,Nat.add_zero]at j
 have g:=hid j
 clear o j
 go_enter func50,ntmps50
 go_wp2_with (first|(go_at_call 90;refine(i _).mono ?_;rintro _ H ⟨rfl,a⟩;have h:=s.ext a;obtain⟨c0,c1,c2,c3,c4,c5,c6,c7,-⟩:=cls h;clear h;have z:=(f.trans a).keep g.c0;have A:=(f.trans a).keep g.c1;have B:=(f.trans a).keep g.c2;have C:=(f.trans a).keep g.c3;have D:=(f.trans a).keep g.c4;have E:=(f.trans a).keep g.c5;have F:=(f.trans a).keep g.c6;have G:=(f.trans a).keep g.c7)|(go_at_call 50;refine(m _ (f.trans a)).mono ?_;rintro _ I ⟨rfl,k⟩))
 go_ret
 exact⟨rfl,(f.trans a).trans k⟩
theorem pr_isnull (tb nm:BA) (ix vk vi:Int) (vt:BA) (b e n c:Nat) (w:World) (L r:Int) (u:decide (L<r)=false)
  (i:Hid (∀W,Cl 90 #[.agg #[i4 17,.string tb,.string nm,i4 ix,i4 vk,i4 vi,.string vt,.slice (some ⟨b,e,none⟩) n c]] W (Rt (i4 L) W))) (x:Ex) (X:BA) (l:OA) (p c1:Nat) (t:n=1) (y:X.size≤100000)
  (j:dI w b (e+0*8) x l p c1)
  (o:∀W,Ext w W→Cl 50 #[x.d.val l p c1,i4 5] W (Rt (.string X) W)):
  Cl 50 #[.agg #[i4 17,.string tb,.string nm,i4 ix,i4 vk,i4 vi,.string vt,.slice (some ⟨b,e,none⟩) n c],i4 r] w (Rt (.string (X++⟨#[32,73,83,32,78,85,76,76]⟩)) w):=by
 subst t
 have s:=hid (Blk.of_new w 37 (eC 17 tb nm ix vk vi vt (some ⟨b,e,none⟩) 1 c))
 have f:=hid (x10 w (.cells #[i4 17,.string tb,.string nm,i4 ix,i4 vk,i4 vi,.string vt,.slice (some ⟨b,e,none⟩) 1 c] 37))
 have m:=hid o
 unfold Nd.val at m
 simp only[Nat.zero_mul,Nat.add_zero]at j
 have g:=hid j
 clear o j
 go_enter func50,ntmps50
 go_wp2_with (first|(go_at_call 90;refine(i _).mono ?_;rintro _ H ⟨rfl,a⟩;have h:=s.ext a;obtain⟨c0,c1,c2,c3,c4,c5,c6,c7,-⟩:=cls h;clear h;have z:=(f.trans a).keep g.c0;have A:=(f.trans a).keep g.c1;have B:=(f.trans a).keep g.c2;have C:=(f.trans a).keep g.c3;have D:=(f.trans a).keep g.c4;have E:=(f.trans a).keep g.c5;have F:=(f.trans a).keep g.c6;have G:=(f.trans a).keep g.c7)|(go_at_call 50;refine(m _ (f.trans a)).mono ?_;rintro _ I ⟨rfl,k⟩))
 go_ret
 exact⟨rfl,(f.trans a).trans k⟩
theorem pr_not (tb nm:BA) (ix vk vi:Int) (vt:BA) (b e n c:Nat) (w:World) (L r:Int) (u:decide (L<r)=false)
  (i:Hid (∀W,Cl 90 #[.agg #[i4 20,.string tb,.string nm,i4 ix,i4 vk,i4 vi,.string vt,.slice (some ⟨b,e,none⟩) n c]] W (Rt (i4 L) W))) (x:Ex) (X:BA) (l:OA) (p c1:Nat) (t:n=1) (y:X.size≤100000)
  (j:dI w b (e+0*8) x l p c1)
  (o:∀W,Ext w W→Cl 50 #[x.d.val l p c1,i4 3] W (Rt (.string X) W)):
  Cl 50 #[.agg #[i4 20,.string tb,.string nm,i4 ix,i4 vk,i4 vi,.string vt,.slice (some ⟨b,e,none⟩) n c],i4 r] w (Rt (.string (⟨#[78,79,84,32]⟩++X)) w):=by
 subst t
 have s:=hid (Blk.of_new w 37 (eC 20 tb nm ix vk vi vt (some ⟨b,e,none⟩) 1 c))
 have f:=hid (x10 w (.cells #[i4 20,.string tb,.string nm,i4 ix,i4 vk,i4 vi,.string vt,.slice (some ⟨b,e,none⟩) 1 c] 37))
 have m:=hid o
 unfold Nd.val at m
 simp only[Nat.zero_mul,Nat.add_zero]at j
 have g:=hid j
 clear o j
 go_enter func50,ntmps50
 go_wp2_with (first|(go_at_call 90;refine(i _).mono ?_;rintro _ H ⟨rfl,a⟩;have h:=s.ext a;obtain⟨c0,c1,c2,c3,c4,c5,c6,c7,-⟩:=cls h;clear h;have z:=(f.trans a).keep g.c0;have A:=(f.trans a).keep g.c1;have B:=(f.trans a).keep g.c2;have C:=(f.trans a).keep g.c3;have D:=(f.trans a).keep g.c4;have E:=(f.trans a).keep g.c5;have F:=(f.trans a).keep g.c6;have G:=(f.trans a).keep g.c7)|(go_at_call 50;refine(m _ (f.trans a)).mono ?_;rintro _ I ⟨rfl,k⟩))
 go_ret
 exact⟨rfl,(f.trans a).trans k⟩
theorem pr_bin4 (op:Int) (tb nm:BA) (ix vk vi:Int) (vt:BA) (b f n c:Nat) (w:World) (L r:Int) (d1:decide (L<r)=false) (ag:1≤L) (an:L≤8) (b4:(L==4)=true)
  (j:Hid (∀W,Cl 90 #[.agg #[i4 op,.string tb,.string nm,i4 ix,i4 vk,i4 vi,.string vt,.slice (some ⟨b,f,none⟩) n c]] W (Rt (i4 L) W))) (x y:Ex) (X Y:BA) (V Z:OA) (n1 n2 c1 c2:Nat)
  (s:4≤op∧op≤8∨10≤op∧op≤16∨op=18∨op=19) (hn:n=2) (hX:X.size≤100000) (hY:Y.size≤100000)
  (e1:dI w b (f+0*8) x V n1 c1) (e2:dI w b (f+1*8) y Z n2 c2)
  (h1:∀W,Ext w W→Cl 50 #[x.d.val V n1 c1,i4 5] W (Rt (.string X) W))
  (h2:∀W,Ext w W→Cl 50 #[y.d.val Z n2 c2,i4 (L+1)] W (Rt (.string Y) W)):
  Cl 50 #[.agg #[i4 op,.string tb,.string nm,i4 ix,i4 vk,i4 vi,.string vt,.slice (some ⟨b,f,none⟩) n c],i4 r] w (Rt (.string (X++⟨#[32]⟩++sgn op++⟨#[32]⟩++Y)) w):=by
 subst hn
 have b1:(op==1)=false:=by rw[beq_eq_false_iff_ne];omega
 have b2:(op==2)=false:=by rw[beq_eq_false_iff_ne];omega
 have b3:(op==3)=false:=by rw[beq_eq_false_iff_ne];omega
 have b9:(op==9)=false:=by rw[beq_eq_false_iff_ne];omega
 have ac:(op==17)=false:=by rw[beq_eq_false_iff_ne];omega
 have ad:(op==20)=false:=by rw[beq_eq_false_iff_ne];omega
 have ax:=jE op
 have D:=hid (fun W=>rj op W s)
 have i:=hid e1
 have e:=hid e2
 have H1:=hid h1
 have H2:=hid h2
 clear e1 e2 h1 h2 s
 unfold Nd.val at H1 H2
 generalize sgn op=G at*
 have HB:=hid (Blk.of_new w 37 (eC op tb nm ix vk vi vt (some ⟨b,f,none⟩) 2 c))
 have HX:=hid (x10 w (.cells #[i4 op,.string tb,.string nm,i4 ix,i4 vk,i4 vi,.string vt,.slice (some ⟨b,f,none⟩) 2 c] 37))
 have lw:IntKind.i64.wrap (L+1)=L+1:=IntWalk.i64_in _ (by omega)
 have C:=hid lw
 clear lw
 go_enter func50,ntmps50
 go_wp2_with (go_at_call 90;refine(j _).mono ?_;rintro _ w2 ⟨rfl,h⟩;have g:=HB.ext h;obtain⟨c0,c1,c2,c3,c4,c5,c6,c7,-⟩:=cls g;clear g)
 have E:=hid (HX.trans h)
 have m:=hid (HB.ext h)
 clear c0 c1 c2 c3 c4 c5 c6 c7 h
 have p:=m.out
 obtain⟨I,J,K,O,P,Q,R,U,-⟩:=lks p
 have lw:=C.out
 clear p
 refine af (by kernel_rfl) (by kernel_rfl) ?_
 repeat (go_big_quiet_step ((go_at_call 90;exact aq (j _))))
 refine wpQuiet_nil ?_
 intro w3 t
 have k:=am t
 clear t I J K O P Q R U lw
 have F:=hid (E.trans k)
 have o:=hid (m.ext k)
 clear k
 have g:=o.out
 obtain⟨c0,c1,c2,c3,c4,c5,c6,c7,-⟩:=cls g
 clear g
 go_wp2_with (go_at_call 90;refine(j _).mono ?_;rintro _ w4 ⟨rfl,l⟩)
 have a:=hid (F.trans l)
 have p:=o.ext l
 clear c0 c1 c2 c3 c4 c5 c6 c7 l
 obtain⟨I,J,K,O,P,Q,R,U,-⟩:=lks p
 have q0:=ai.keep (a.keep i.c0)
 have q1:=ai.keep (a.keep i.c1)
 have q2:=ai.keep (a.keep i.c2)
 have q3:=ai.keep (a.keep i.c3)
 have q4:=ai.keep (a.keep i.c4)
 have q5:=ai.keep (a.keep i.c5)
 have q6:=ai.keep (a.keep i.c6)
 have q7:=ai.keep (a.keep i.c7)
 have s0:=ai.keep (a.keep e.c0)
 have s1:=ai.keep (a.keep e.c1)
 have s2:=ai.keep (a.keep e.c2)
 have s3:=ai.keep (a.keep e.c3)
 have s4:=ai.keep (a.keep e.c4)
 have s5:=ai.keep (a.keep e.c5)
 have s6:=ai.keep (a.keep e.c6)
 have s7:=ai.keep (a.keep e.c7)
 simp only[Nat.zero_mul,Nat.add_zero]at q0 q1 q2 q3 q4 q5 q6 q7
 have A:Hid (∀z:ai w4,Cl 50 _ z.now _):=fun z=>H1 z.now (a.trans z.ext)
 have B:Hid (∀z:ai w4,Cl 50 _ z.now _):=fun z=>H2 z.now (a.trans z.ext)
 clear p
 refine af (by kernel_rfl) (by kernel_rfl) ?_
 repeat (go_big_quiet_step ((first|(go_at_call 50;with_reducible exact aq (A.out _))|(go_at_call 50;with_reducible exact aq (B.out _))|(go_at_call 93;exact aq (D.out _)))))
 refine wpQuiet_nil ?_
 intro w5 u
 have H:=am u
 clear u I J K O P Q R U q0 q1 q2 q3 q4 q5 q6 q7 s0 s1 s2 s3 s4 s5 s6 s7
 go_wp2_with fail
 go_ret
 exact⟨rfl,a.trans H⟩
theorem pr_bin (op:Int) (tb nm:BA) (ix vk vi:Int) (vt:BA) (b f n c:Nat) (w:World) (L r:Int) (d1:decide (L<r)=false) (ag:1≤L) (an:L≤8) (b4:(L==4)=false)
  (j:Hid (∀W,Cl 90 #[.agg #[i4 op,.string tb,.string nm,i4 ix,i4 vk,i4 vi,.string vt,.slice (some ⟨b,f,none⟩) n c]] W (Rt (i4 L) W))) (x y:Ex) (X Y:BA) (V Z:OA) (n1 n2 c1 c2:Nat)
  (s:4≤op∧op≤8∨10≤op∧op≤16∨op=18∨op=19) (hn:n=2) (hX:X.size≤100000) (hY:Y.size≤100000)
  (e1:dI w b (f+0*8) x V n1 c1) (e2:dI w b (f+1*8) y Z n2 c2)
  (h1:∀W,Ext w W→Cl 50 #[x.d.val V n1 c1,i4 L] W (Rt (.string X) W))
  (h2:∀W,Ext w W→Cl 50 #[y.d.val Z n2 c2,i4 (L+1)] W (Rt (.string Y) W)):
  Cl 50 #[.agg #[i4 op,.string tb,.string nm,i4 ix,i4 vk,i4 vi,.string vt,.slice (some ⟨b,f,none⟩) n c],i4 r] w (Rt (.string (X++⟨#[32]⟩++sgn op++⟨#[32]⟩++Y)) w):=by
 subst hn
 have b1:(op==1)=false:=by rw[beq_eq_false_iff_ne];omega
 have b2:(op==2)=false:=by rw[beq_eq_false_iff_ne];omega
 have b3:(op==3)=false:=by rw[beq_eq_false_iff_ne];omega
 have b9:(op==9)=false:=by rw[beq_eq_false_iff_ne];omega
 have ac:(op==17)=false:=by rw[beq_eq_false_iff_ne];omega
 have ad:(op==20)=false:=by rw[beq_eq_false_iff_ne];omega
 have ax:=jE op
 have D:=hid (fun W=>rj op W s)
 have i:=hid e1
 have e:=hid e2
 have H1:=hid h1
 have H2:=hid h2
 clear e1 e2 h1 h2 s
 unfold Nd.val at H1 H2
 generalize sgn op=G at*
 have HB:=hid (Blk.of_new w 37 (eC op tb nm ix vk vi vt (some ⟨b,f,none⟩) 2 c))
 have HX:=hid (x10 w (.cells #[i4 op,.string tb,.string nm,i4 ix,i4 vk,i4 vi,.string vt,.slice (some ⟨b,f,none⟩) 2 c] 37))
 have lw:IntKind.i64.wrap (L+1)=L+1:=IntWalk.i64_in _ (by omega)
 have C:=hid lw
 clear lw
 go_enter func50,ntmps50
 go_wp2_with (go_at_call 90;refine(j _).mono ?_;rintro _ w2 ⟨rfl,h⟩;have g:=HB.ext h;obtain⟨c0,c1,c2,c3,c4,c5,c6,c7,-⟩:=cls g;clear g)
 have E:=hid (HX.trans h)
 have m:=hid (HB.ext h)
 clear c0 c1 c2 c3 c4 c5 c6 c7 h
 have p:=m.out
 obtain⟨I,J,K,O,P,Q,R,U,-⟩:=lks p
 have lw:=C.out
 clear p
 refine af (by kernel_rfl) (by kernel_rfl) ?_
 repeat (go_big_quiet_step ((go_at_call 90;exact aq (j _))))
 refine wpQuiet_nil ?_
 intro w3 t
 have k:=am t
 clear t I J K O P Q R U lw
 have F:=hid (E.trans k)
 have o:=hid (m.ext k)
 clear k
 have g:=o.out
 obtain⟨c0,c1,c2,c3,c4,c5,c6,c7,-⟩:=cls g
 clear g
 go_wp2_with (go_at_call 90;refine(j _).mono ?_;rintro _ w4 ⟨rfl,l⟩)
 have a:=hid (F.trans l)
 have p:=o.ext l
 clear c0 c1 c2 c3 c4 c5 c6 c7 l
 obtain⟨I,J,K,O,P,Q,R,U,-⟩:=lks p
 have q0:=ai.keep (a.keep i.c0)
 have q1:=ai.keep (a.keep i.c1)
 have q2:=ai.keep (a.keep i.c2)
 have q3:=ai.keep (a.keep i.c3)
 have q4:=ai.keep (a.keep i.c4)
 have q5:=ai.keep (a.keep i.c5)
 have q6:=ai.keep (a.keep i.c6)
 have q7:=ai.keep (a.keep i.c7)
 have s0:=ai.keep (a.keep e.c0)
 have s1:=ai.keep (a.keep e.c1)
 have s2:=ai.keep (a.keep e.c2)
 have s3:=ai.keep (a.keep e.c3)
 have s4:=ai.keep (a.keep e.c4)
 have s5:=ai.keep (a.keep e.c5)
 have s6:=ai.keep (a.keep e.c6)
 have s7:=ai.keep (a.keep e.c7)
 simp only[Nat.zero_mul,Nat.add_zero]at q0 q1 q2 q3 q4 q5 q6 q7
 have A:Hid (∀z:ai w4,Cl 50 _ z.now _):=fun z=>H1 z.now (a.trans z.ext)
 have B:Hid (∀z:ai w4,Cl 50 _ z.now _):=fun z=>H2 z.now (a.trans z.ext)
 clear p
 refine af (by kernel_rfl) (by kernel_rfl) ?_
 repeat (go_big_quiet_step ((first|(go_at_call 50;with_reducible exact aq (A.out _))|(go_at_call 50;with_reducible exact aq (B.out _))|(go_at_call 93;exact aq (D.out _)))))
 refine wpQuiet_nil ?_
 intro w5 u
 have H:=am u
 clear u I J K O P Q R U q0 q1 q2 q3 q4 q5 q6 q7 s0 s1 s2 s3 s4 s5 s6 s7
 go_wp2_with fail
 go_ret
 exact⟨rfl,a.trans H⟩
theorem pr_brk (d:Nd) (A:OA) (n c:Nat) (w:World) (L r:Int) (P:BA) (j:decide (L<r)=true) (k:P.size≤100000)
  (e:Hid (∀W,Cl 90 #[d.val A n c] W (Rt (i4 L) W)))
  (h:Hid (∀W,Ext w W→Cl 50 #[d.val A n c,i4 1] W (Rt (.string P) W))):
  Cl 50 #[d.val A n c,i4 r] w (Rt (.string (⟨#[40]⟩++P++⟨#[41]⟩)) w):=by
 have i:=hid (Blk.of_new w 37 (d.cells A n c))
 have g:=hid (x10 w (.cells (d.cells A n c).toArray 37))
 unfold Nd.val at*
 unfold Nd.cells at*
 obtain⟨op,tb,nm,ix,vk,vi,vt⟩:=d
 simp only at*
 go_enter func50,ntmps50
 go_wp2_with (first|(go_at_call 90;refine(e _).mono ?_;rintro _ l ⟨rfl,a⟩;have b:=i.ext a;obtain⟨c0,c1,c2,c3,c4,c5,c6,c7,-⟩:=cls b;clear b)|(go_at_call 50;refine(h _ (g.trans a)).mono ?_;rintro _ m ⟨rfl,f⟩))
 go_ret
 exact⟨rfl,(g.trans a).trans f⟩
theorem lvl_bd (op:Int):1≤lvl op∧lvl op≤8:=by unfold lvl;repeat' split<;>try omega
theorem opN_op {op:Int} {k:Nat} (h:opN op=(k:Int)):1≤op∧op≤20:=by
 rcases cQ op with ⟨h0,h5⟩|⟨h0,h5⟩|⟨h0,h5⟩|h0<;>omega
theorem fq:∀(e:Ex) (r:Int) (A:OA) (n c:Nat) (w:World),ExV w e A n c→e.formed=true→e.size≤1000→
  Cl 50 #[e.d.val A n c,i4 r] w fun x w'=>x= .returned (.string (e.tx r))∧Ext w w':=by
 intro e
 induction e using Ex.ind with
 |h d ks ih=>
  intro r A n c w Y hf hs
  have ag:=oQ _ hf
  have Q:∀(r:Int) (w:World),ExV w (.mk d ks) A n c→¬lvl d.op<r→Cl 50 #[(Ex.mk d ks).d.val A n c,i4 r] w fun x w'=>x= .returned (.string (Ex.mk d ks).pl)∧Ext w w':=by
   intro r w Y I
   obtain⟨V,h2,h3,J⟩:=Y
   have V:ks.length=n:=V
   have J:KidsAt w A ks:=J
   have h3:d.fit:=h3
   obtain⟨f1,f2,z⟩:=aN hf
   have G:=opN_op f1
   have t:decide (lvl d.op<r)=false:=by simpa using I
   have l:∀x∈ks,∀(r:Int) (m:OA) (s c':Nat) (W:World),Ext w W→ExV W x m s c'→Cl 50 #[x.d.val m s c',i4 r] W fun y w'=>y= .returned (.string (x.tx r))∧Ext W w':=
    fun x l r m s c' W _ ac=>ih x l r m s c' W ac (f2 x l) (Nat.le_trans (ef (d:=d) l) hs)
   have j:∀x∈ks,∀r,(x.tx r).size≤100000:=by
    intro x l r
    have an:x.size≤1000:=Nat.le_trans (ef (d:=d) l) hs
    have:=cK x r (f2 x l)
    omega
   have F:∀A,Hid (∀W,Cl 90 #[.agg #[i4 d.op,.string d.tb,.string d.nm,i4 d.ix,i4 d.vk,i4 d.vi,.string d.vt,.slice A n c]] W (Rt (i4 (lvl d.op)) W)):=
    fun A W=>pz (.mk d ks) A n c W G
   rw[pl_mk]
   have P:∀A,(Ex.mk d ks).d.val A n c= .agg #[i4 d.op,.string d.tb,.string d.nm,i4 d.ix,i4 d.vk,i4 d.vi,.string d.vt,.slice A n c]:=fun _=>rfl
   rw[P]
   unfold plD
   rcases cQ d.op with ⟨h0,h5⟩|⟨h0,h5⟩|⟨h0,h5⟩|h0
   ·have g:=F A
    rcases h5 with h5|h5
    ·unfold ndB at z
     rw[if_neg (by omega),if_pos h5]at z
     simp only[Bool.and_eq_true]at z
     obtain⟨l1,l2,u⟩:=iE z.2
     generalize lvl d.op=L at*
     rw[h5]at g
     rw[if_pos h5,h5]
     rcases u with u|u|u
     ·rw[u]at g
      rw[if_neg (by omega),if_neg (by omega),u]
      exact pr_null _ _ _ d.vk _ _ _ _ _ _ L r t g
     ·rw[if_pos u]
      rw[u]at g ⊢
      exact pr_num _ _ _ d.vk _ _ _ _ _ _ L r t g h3.vi (by have:=l2 u;omega)
     ·rw[if_neg (by omega),if_pos u]
      rw[u]at g ⊢
      exact pr_text _ _ _ d.vk _ _ _ _ _ _ L r t g (by omega)
    ·unfold ndB at z
     rw[if_pos h5]at z
     simp only[Bool.and_eq_true,Bool.or_eq_true,beq_iff_eq]at z
     have l1:=bT z.1.1
     generalize lvl d.op=L at*
     rw[h5]at g
     rw[if_neg (by omega),if_pos h5,h5]
     by_cases H:d.tb.size=0
     ·rw[bF H]at g
      rw[if_pos H,bF H]
      exact pr_col d.tb _ _ _ _ _ _ _ _ _ L r t g
     ·rw[if_neg H]
      have l2:d.tb.size≤24:=by
       rcases z.1.2 with h|h
       ·exact absurd h H
       ·exact bT h
      exact pr_qual _ _ _ _ _ _ _ _ _ _ L r t g (bV H) (bH H) (by omega) (by omega)
   ·obtain⟨a,rfl⟩:∃a,ks= [a]:=by
     have:ks.length=1:=by omega
     exact List.length_eq_one_iff.1 this
    obtain⟨b,k,m,s,c',rfl,o⟩:=J.get (i:=0) (e:=a) rfl
    have g:=F (some ⟨b,k,none⟩)
    have p:a∈[a]:=by simp
    have E:n=1:=by rw[←V];rfl
    simp only[map_cons,map_nil,getD_cons_zero]
    generalize lvl d.op=L at*
    rcases h5 with h5|h5|h5|h5
    ·rw[h5]at g
     rw[if_neg (by omega),if_neg (by omega),if_pos h5,h5]
     exact pr_neg _ _ _ _ _ _ b k n c w L r t g a _ m s c' E (j a p 8) o fun W f=>l a p 8 m s c' W f (o.val.ext f)
    ·rw[h5]at g
     rw[if_neg (by omega),if_neg (by omega),if_neg (by omega),if_pos h5,h5]
     exact pr_len _ _ _ _ _ _ b k n c w L r t g a _ m s c' E (j a p 1) o fun W f=>l a p 1 m s c' W f (o.val.ext f)
    ·rw[h5]at g
     rw[if_neg (by omega),if_neg (by omega),if_neg (by omega),if_neg (by omega),if_pos h5,h5]
     exact pr_isnull _ _ _ _ _ _ b k n c w L r t g a _ m s c' E (j a p 5) o fun W f=>l a p 5 m s c' W f (o.val.ext f)
    ·rw[h5]at g
     rw[if_neg (by omega),if_neg (by omega),if_neg (by omega),if_neg (by omega),if_neg (by omega),if_pos h5,h5]
     exact pr_not _ _ _ _ _ _ b k n c w L r t g a _ m s c' E (j a p 3) o fun W f=>l a p 3 m s c' W f (o.val.ext f)
   ·obtain⟨x,y,rfl⟩:∃x y,ks= [x,y]:=by
     have:ks.length=2:=by omega
     match ks,this with
     | [x,y],_=>exact⟨x,y,rfl⟩
    obtain⟨b,k,R,Z,c1,rfl,o⟩:=J.get (i:=0) (e:=x) rfl
    obtain⟨b2,ad,U,n2,c2,K,C⟩:=J.get (i:=1) (e:=y) rfl
    simp only[Option.some.injEq,Addr.mk.injEq,and_true]at K
    obtain⟨rfl,rfl⟩:=K
    have g:=F (some ⟨b,k,none⟩)
    have p:x∈[x,y]:=by simp
    have X:y∈[x,y]:=by simp
    have O:n=2:=by rw[←V];rfl
    have D:=lvl_bd d.op
    simp only[map_cons,map_nil,getD_cons_zero,getD_cons_succ]
    rw[if_neg (by omega),if_neg (by omega),if_neg (by omega),if_neg (by omega),if_neg (by omega),if_neg (by omega)]
    by_cases B:lvl d.op=4
    ·rw[if_pos B]
     exact pr_bin4 d.op _ _ _ _ _ _ b k n c w (lvl d.op) r t D.1 D.2 (by rw[B];rfl) g x y _ _ R U Z n2 c1 c2 h5 O (j x p 5) (j y X (lvl d.op+1)) o C
      (fun W f=>l x p 5 R Z c1 W f (o.val.ext f)) (fun W f=>l y X (lvl d.op+1) U n2 c2 W f (C.val.ext f))
    ·rw[if_neg B]
     exact pr_bin d.op _ _ _ _ _ _ b k n c w (lvl d.op) r t D.1 D.2 (by simpa using B) g x y _ _ R U Z n2 c1 c2 h5 O (j x p (lvl d.op)) (j y X (lvl d.op+1)) o C
      (fun W f=>l x p (lvl d.op) R Z c1 W f (o.val.ext f)) (fun W f=>l y X (lvl d.op+1) U n2 c2 W f (C.val.ext f))
   ·omega
  have j:(Ex.mk d ks).tx r=if lvl d.op<r then ⟨#[40]⟩++(Ex.mk d ks).pl++⟨#[41]⟩else (Ex.mk d ks).pl:=rfl
  rw[j]
  by_cases I:lvl d.op<r
  ·rw[if_pos I]
   have G:=opN_op (aN hf).1
   exact pr_brk d A n c w (lvl d.op) r _ (by simpa using I) (by omega) (fun W=>pz (.mk d ks) A n c W G) fun W f=>Q 1 W (Y.ext f) (by have:=lvl_bd d.op;omega)
  ·rw[if_neg I]
   exact Q r w Y I
def textE (e:Ex):BA:=if validE e=0 then e.tx 1 else ⟨#[]⟩
theorem sS (e:Ex):validE e=0∧e.formed=true∧e.size≤400∨validE e=1∨validE e=3:=by
 unfold validE
 rw[rh]
 by_cases h:(decide (400<e.nodes)||decide (50<e.depth))=true
 ·rw[if_pos h];exact .inr (.inr rfl)
 ·rw[if_neg h]
  by_cases a:e.formed=true
  ·rw[if_pos a]
   refine .inl ⟨rfl,a,?_⟩
   have:=fS e a
   simp only[Bool.or_eq_true,decide_eq_true_eq,not_or]at h
   omega
  ·rw[if_neg a];exact .inr (.inl rfl)
theorem ret_2 {a e:BA} {b f:Int} (h:a=e) (g:b=f):Ending.returned (.tuple #[.string a,i4 b])= .returned (.tuple #[.string e,i4 f]):=by rw[h,g]
theorem pG (e:Ex) (A:OA) (n c:Nat) (w:World) (p:ExV w e A n c):
  Cl 26 #[e.d.val A n c] w (Rt (.tuple #[.string (textE e),i4 (validE e)]) w):=by
 have t:=hid (fun W (o:Ext w W)=>wA e A n c W (p.ext o))
 have j:Hid (validE e=0→∀W,Ext w W→Cl 50 #[e.d.val A n c,i4 1] W (Rt (.string (textE e)) W)):=by
  intro f W o
  rcases sS e with ⟨_,h1,h2⟩|h1|h1
  ·unfold textE
   rw[if_pos f]
   exact fq e 1 A n c W (p.ext o) h1 (by omega)
  ·omega
  ·omega
 have l:Hid (validE e≠0→textE e=⟨#[]⟩):=fun h=>by unfold textE;rw[if_neg h]
 have u:=hid (Blk.of_new w 37 (e.d.cells A n c))
 have g:=hid (x10 w (.cells (e.d.cells A n c).toArray 37))
 clear p
 generalize textE e=T at*
 generalize validE e=V at*
 unfold Nd.val at*
 unfold Nd.cells at*
 generalize e.d=d at*
 obtain⟨op,tb,nm,ix,vk,vi,vt⟩:=d
 simp only at*
 by_cases f:V=0
 ·have k:=hid (j f)
  clear j l
  subst f
  go_enter func26,ntmps26
  go_wp2_with (first|(go_at_call 42;refine(t _ g).mono ?_;rintro _ x ⟨rfl,a⟩;have i:=u.ext a;obtain⟨c0,c1,c2,c3,c4,c5,c6,c7,-⟩:=cls i;clear i)|(go_at_call 50;refine(k _ (g.trans a)).mono ?_;rintro _ y ⟨rfl,s⟩))
  go_ret2
  exact⟨rfl,(g.trans a).trans s⟩
 ·have b:(V !=0)=true:=by simpa using f
  have m:=hid (l f)
  clear j l f
  go_enter func26,ntmps26
  go_wp2_with (go_at_call 42;refine(t _ g).mono ?_;rintro _ x ⟨rfl,a⟩)
  go_ret2
  exact⟨ret_2 m.symm rfl,g.trans a⟩
end Go.Proofs.YtjigcpfjhfoheaaGreatDoor
