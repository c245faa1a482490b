/- Where a walk over a parser stands: the parser, memory of the call's own (blocks, rows that grow, maps), and what stays; Whole structs loaded, stored and returned; Walks over the reference's smallest functions; Walks over the refer. -/
import Derived.Test.YtjigcpfjhfoheaaGreatDoorVbb
import Derived.Test.YtjigcpfjhfoheaaGreatDoorVbi
import Derived.Laws.Rows
import Derived.Great.BuildSlice
namespace Go.Proofs.YtjigcpfjhfoheaaGreatDoor
open Go.RowKit List Go.Proofs.Tryz
set_option maxHeartbeats 4000000
set_option maxRecDepth 100000
set_option linter.unusedVariables false
set_option linter.unusedSimpArgs false
section
open Lx (Tk)
section
variable {T P c:Nat} {A:OA} {L:List Tk} {w0 wi w w':World} {s s':Ps} {V:List Vb} {Φ Ψ:World→Prop}
theorem En.far (h:En T P A c L w0 wi w s V Φ):∀q,w.heap.size≤q→Fr wi V q:=fun q a=>⟨Nat.le_trans h.size a,fun x b e=>by have:=h.new x b _ e;omega⟩
end
end
section
open Lx (Tk)
section
variable {T P c:Nat} {A:OA} {L:List Tk} {w0 wi w w':World} {s:Ps} {V:List Vb} {Φ:World→Prop}
theorem rK {t:Nat} {cs:LV} (a:PsAt T P A c L w0 w s) (b:w.alloc (.cells cs.toArray t)=w'):En T P A c L w0 w w' s [bk w.heap.size t cs] (fun _=>True):=b ▸ (En.start a).alloc t cs
end
section
variable {T P c:Nat} {A:OA} {L:List Tk} {w0 wi w w':World} {s:Ps} {V:List Vb} {Φ:World→Prop}
theorem En.stay {Ψ:World→Prop} (h:En T P A c L w0 wi w s V Φ) (a:Ext w w') (hs:Stb (Fr wi V) w' Ψ):En T P A c L w0 wi w' s V Ψ:= { h.ext a with stb:=hs }
theorem En.both {Ψ:World→Prop} (h:En T P A c L w0 wi w s V Φ) (a:Stb (Fr wi V) w Ψ):En T P A c L w0 wi w s V (fun u=>Φ u∧Ψ u):= { h with stb:=h.stb.and a }
end
end
section
open Lx (Tk)
section
variable {P c:Nat} {A:OA} {L:List Tk} {w0 w:World} {s:Ps}
theorem ris_any (k:PsAt 77 P A c L w0 w s) (u:TkL L) (t:BA):
  Cl 134 #[.pointer (some ⟨P,0,none⟩),.string t] w fun e w'=>e= .returned (.bool (isS t s))∧Ext w w':=by
 obtain⟨b,H,D,E,c0,c1,c2⟩:=k.cells
 subst D
 obtain⟨x,y,p,-⟩:=cls k.blk
 have hi:=k.lti
 have O:=u.len
 have C:Hid (isS t s=(!s.bad&& ((s.hd.kind==2||s.hd.kind==5) &&decide (tkB s.hd=t)))):=rfl
 generalize isS t s=B at*
 generalize L.length-s.r.length=i at*
 generalize s.hd.kind=K at*
 generalize s.hd.pos=f at*
 generalize tkB s.hd=X at*
 generalize s.bad=bd at*
 have Q:(0:Int)≤(i:Int):=by omega
 have R:(i:Int)<(L.length:Int):=by omega
 have a:=x10 w (.cells #[i4 0,.string ⟨#[]⟩,i4 0] 78)
 have I:=hid a
 have ap0:=a.keep x
 have ap1:=a.keep y
 have o:=a.keep p
 have l:=a.keep c0
 have m:=a.keep c1
 have n:=a.keep c2
 clear k u a
 go_enter func134,ntmps134
 go_upto_region 1 with fail
 go_region
 have h:Ext w (w.alloc (.cells #[i4 (K:Int),.string X,i4 (f:Int)] 78)).drew:=(x10 w _).drew
 have j:Blk (w.alloc (.cells #[i4 (K:Int),.string X,i4 (f:Int)] 78)).drew w.heap.size 78 [i4 (K:Int),.string X,i4 (f:Int)]:=(Blk.of_new w 78 [i4 (K:Int),.string X,i4 (f:Int)]).drew
 have U:=h.keep p
 obtain⟨W,Y,-⟩:=cls j
 have g:=hid h
 clear h j x y p c0 c1 c2 ap0 ap1 o l m n E hi
 generalize (w.alloc (.cells #[i4 (K:Int),.string X,i4 (f:Int)] 78)).drew=w1 at*
 generalize w.heap.size=J at*
 have z:=C.out
 subst z
 by_cases F:K=2
 ·subst F
  cases bd<;> (go_wp2_with fail;go_ret;exact⟨aa (by simp[jh, *]),g⟩)
 ·by_cases G:K=5
  ·subst G
   cases bd<;> (go_wp2_with fail;go_ret;exact⟨aa (by simp[jh, *]),g⟩)
  ·cases bd<;> (go_wp2_with fail;go_ret;exact⟨aa (by simp[jh, *]),g⟩)
theorem fx (j:PsAt 77 P A c L w0 w s) (h:TkL L) (t:BA):
  Cl 66 #[.pointer (some ⟨P,0,none⟩),.string t] w fun e w'=>e= .returned (.bool (isS t s))∧PsAt 77 P A c L w0 w' (ir t s).2∧Chg P w w':=by
 have m:=hid j
 have k:=hid (ris_any j h t)
 clear j
 go_enter func66,ntmps66
 go_wp2_with fail
 refine k.mono ?_
 rintro e w1 ⟨rfl,b⟩
 have a:=hid (m.ext b)
 have u:=a.blk.cell_some (i:=1) rfl
 have o:=a.blk.frozen 1
 have f:=hid b
 clear b k
 have l:Hid ((ir t s).2=if isS t s=true then s.next else s):=rfl
 cases hs:isS t s
 ·go_wp2_with fail
  go_ret
  exact⟨by rw[hs];rfl,by rw[l.out,hs];exact a,Chg.of f⟩
 ·have n:s.hd.kind≠0:=by
   intro e
   simp[isS,e]at hs
  have g:=hid (a.next h n)
  have hi:=a.lti
  have p:=h.len
  generalize L.length-s.r.length=i at*
  go_wp2_with fail
  go_ret
  exact⟨by rw[hs];rfl,by rw[l.out,hs];exact g,(Chg.of f).set _ _⟩
theorem eB (j:PsAt 77 P A c L w0 w s) (m:TkL L) (t:BA):
  Cl 45 #[.pointer (some ⟨P,0,none⟩),.string t] w fun e w'=>e= .returned (.tuple #[])∧PsAt 77 P A c L w0 w' (needP t s)∧Chg P w w':=by
 have k:=hid (fx j m t)
 have g:Hid (needP t s=if isS t s=true then s.next else s.fail):=rfl
 have l:Hid ((ir t s).2=if isS t s=true then s.next else s):=rfl
 clear j
 go_enter func45,ntmps45
 go_wp2_with fail
 refine k.mono ?_
 rintro e w1 ⟨rfl,a,b⟩
 rw[l.out]at a
 cases hs:isS t s
 ·rw[hs]at a g
  have f:=hid a.fail
  have n:=a.blk.frozen 2
  have o:=a.blk.cell_some (i:=2) rfl
  have h:=hid (b.set 2 (.bool true))
  clear a b
  go_wp2_with fail
  exact bodyPost_end (v:= .tuple #[]) (by simp[results,results45,go_sem]) rfl ⟨rfl,by rw[g.out];exact f,h⟩
 ·rw[hs]at a g
  have f:=hid a
  have h:=hid b
  clear a b
  go_wp2_with fail
  exact bodyPost_end (v:= .tuple #[]) (by simp[results,results45,go_sem]) rfl ⟨rfl,by rw[g.out];exact f,h⟩
theorem nW (m:PsAt 77 P A c L w0 w s) (J:TkL L) (k:Nat) (hk:k≠0):
  Cl 135 #[.pointer (some ⟨P,0,none⟩),i4 (k:Nat)] w fun e w'=>e= .returned (.string (takP k s).1)∧PsAt 77 P A c L w0 w' (takP k s).2∧Chg P w w':=by
 obtain⟨b,ad,Z,hb,c0,c1,c2⟩:=m.cells
 subst Z
 obtain⟨O,Q,p2,-⟩:=cls m.blk
 have hi:=m.lti
 have hl:=J.len
 have u:Hid (takP k s=if hasK k s=true then (tkB s.hd,s.next)else (⟨#[]⟩,s.fail)):=rfl
 have t:Hid (hasK k s=(!s.bad&&s.hd.kind==k)):=rfl
 have C:=hid m
 generalize takP k s=R at*
 have B:=hid (fun (W:World) (x:Ext w W) (Y:s.hd.kind≠0)=> (m.ext x).next J Y)
 have z:=hid (fun (W:World) (x:Ext w W)=> (m.ext x).fail)
 have y:=hid (fun (W:World) (x:Ext w W)=> (m.ext x).blk)
 generalize L.length-s.r.length=i at*
 generalize ac:s.hd.kind=K at*
 generalize s.hd.pos=j at*
 generalize tkB s.hd=X at*
 generalize s.bad=bd at*
 have i0:(0:Int)≤(i:Int):=by omega
 have i1:(i:Int)<(L.length:Int):=by omega
 have g:=x10 w (.cells #[i4 0,.string ⟨#[]⟩,i4 0] 78)
 have ap0:=g.keep O
 have ap1:=g.keep Q
 have G:=g.keep c0
 have H:=g.keep c1
 have I:=g.keep c2
 clear m J g
 go_enter func135,ntmps135
 go_upto_region 1 with fail
 go_region
 have f:Hid (Ext w (w.alloc (.cells #[i4 (K:Int),.string X,i4 (j:Int)] 78)).drew):=(x10 w _).drew
 have h:Hid (Blk (w.alloc (.cells #[i4 (K:Int),.string X,i4 (j:Int)] 78)).drew w.heap.size 78 [i4 (K:Int),.string X,i4 (j:Int)]):=(Blk.of_new w 78 [i4 (K:Int),.string X,i4 (j:Int)]).drew
 have F:Hid (P<w.heap.size):=C.lt
 clear O Q p2 c0 c1 c2 ap0 ap1 G H I hb hi
 generalize (w.alloc (.cells #[i4 (K:Int),.string X,i4 (j:Int)] 78)).drew=w1 at*
 generalize w.heap.size=U at*
 have a:=hid (y w1 f)
 have n:=hid (z w1 f)
 obtain⟨-,q1,q2,-⟩:=cls a
 have f1:=a.frozen 1
 have f2:=a.frozen 2
 have t0:=h.cell_some (i:=0) rfl
 cases bd
 ·by_cases o:K=k
  ·have E:=hid (B w1 f (by omega))
   have D:=hid (h.far (p:=⟨P,1,none⟩) (by show U≠P;have:=F.out;omega) (i4 ((i:Int)+1)))
   have t1:=D.cell_some (i:=1) rfl
   have hd:((K:Int) !=(k:Int))=false:=by simp[o]
   have l:Hid (R=(X,s.next)):=by unfold Hid;rw[u.out,t.out,o];simp
   clear B z y u t C a n h
   go_wp2_with fail
   go_ret
   exact⟨by rw[l.out];rfl,by rw[l.out];exact E,(Chg.of f).set _ _⟩
  ·have hd:((K:Int) !=(k:Int))=true:=by simp;omega
   have l:Hid (R=(⟨#[]⟩,s.fail)):=by unfold Hid;rw[u.out,t.out];simp[o]
   clear B z y u t C a h
   go_wp2_with fail
   go_ret
   exact⟨by rw[l.out];rfl,by rw[l.out];exact n,(Chg.of f).set _ _⟩
 ·have l:Hid (R=(⟨#[]⟩,s.fail)):=by unfold Hid;rw[u.out,t.out];simp
  clear B z y u t C a h
  go_wp2_with fail
  go_ret
  exact⟨by rw[l.out];rfl,by rw[l.out];exact n,(Chg.of f).set _ _⟩
theorem lN (a:PsAt 77 P A c L w0 w s) (g:TkL L):
  Cl 67 #[.pointer (some ⟨P,0,none⟩)] w fun e w'=>e= .returned (.string (takP 1 s).1)∧PsAt 77 P A c L w0 w' (takP 1 s).2∧Chg P w w':=by
 have H:=hid (nW a g 1 (by omega))
 clear a
 go_enter func67,ntmps67
 go_wp2_with fail
 refine H.mono ?_
 rintro _ w1 ⟨rfl,b,f⟩
 go_wp2_with fail
 go_ret
 exact⟨rfl,b,f⟩
end
end
section
open Lx (Tk)
theorem dvl_snoc (l:List UInt8) (c:UInt8):Lx.digVal (l++ [c])=10*Lx.digVal l+(c.toNat-48):=by
 unfold Lx.digVal
 rw[foldl_append]
 rfl
theorem dvl_take (l:List UInt8) (k:Nat):Lx.digVal (l.take k)≤Lx.digVal l:=by
 have b:∀(r:List UInt8) (v:Nat),v≤r.foldl (fun v c=>10*v+(c.toNat-48)) v:=by
  intro r
  induction r with
  |nil=>intro v;exact Nat.le_refl _
  |cons a r ih=>intro v;rw[foldl_cons];have:=ih (10*v+(a.toNat-48));omega
 conv=>rhs;rw[←take_append_drop k l]
 unfold Lx.digVal
 rw[foldl_append]
 exact b _ _
theorem vD (b:BA) (w:World) (hd:∀c∈b.data.toList,48≤c.toNat∧c.toNat≤57) (hs:b.size≤20000) (g:Lx.digVal b.data.toList≤2147483648):
  Cl 222 #[.string b] w fun e w'=>e= .returned (i4 (digV b))∧Ext w w':=by
 have o:=hid hd
 have r:=hid g
 have h:Hid (b.data.toList.length=b.size):=Array.length_toList
 have p:Hid (digV b=(Lx.digVal b.data.toList:Nat)):=rfl
 generalize digV b=R at*
 clear hd g
 go_enter func222,ntmps222
 go_wp2_with fail
 go_loopw [3,4] (fun v i wr=> ∃(k V:Nat),k≤b.size∧i= i4 k∧v= i4 V∧V=Lx.digVal (b.data.toList.take k)∧V≤2147483648∧Ext w wr) (fun _ i _=>b.size- (intOf i).toNat)
 case atStart=>exact⟨0,0,Nat.zero_le _,rfl,rfl,rfl,Nat.zero_le _,Ext.refl _⟩
 case round=>
  obtain⟨k,V,z,rfl,rfl,g,y,n⟩:=hrel
  have a:=hid g
  have l:=hid n
  clear g n
  by_cases f:k<b.size
  ·have m:b[k]∈b.data.toList:=by
    have:b[k]=b.data.toList[k]'(by rw[h.out];exact f):=rfl
    rw[this]
    exact getElem_mem _
   obtain⟨u,x⟩:=o _ m
   clear m
   have j:Hid (Lx.digVal (b.data.toList.take (k+1))=10*V+(b[k].toNat-48)):=by
    have e:b.data.toList.take (k+1)=b.data.toList.take k++ [b[k]]:=by
     rw[take_succ_eq_append_getElem (by rw[h.out];exact f)]
     rfl
    unfold Hid
    rw[e,dvl_snoc,←a.out]
   have t:10*V+(b[k].toNat-48)≤2147483648:=by
    have:=dvl_take b.data.toList (k+1)
    rw[j.out]at this
    have:=r.out
    omega
   go_wp2_with fail
   go_roundw
   case rel=>exact⟨k+1,10*V+(b[k].toNat-48),by omega,by go_num,by go_num,j.symm,t,l⟩
   case measure=>simp[intOf];omega
  ·obtain rfl:k=b.size:=by omega
   rw[take_of_length_le (Nat.le_of_eq h)]at a
   go_wp2_with fail
   go_ret
   exact⟨by rw[p.out,←a.out];rfl,l⟩
section
variable {P c:Nat} {A:OA} {L:List Tk} {w0 w w1:World} {s s1:Ps}
theorem xk (f:PsAt 77 P A c L w0 w s) (b:TkL L):(∀x∈(takP 3 s).1.data.toList,48≤x.toNat∧x.toNat≤57)∧Lx.digVal (takP 3 s).1.data.toList≤2147483648:=by
 unfold takP
 split
 ·next hk=>
  have a:=b.num _ f.mem (by simp[hasK]at hk;exact hk.2)
  have e:(tkB s.hd).data.toList=s.hd.text:=by simp[tkB]
  simp only
  rw[e]
  refine⟨a.2.1,?_⟩
  have:=a.2.2.1
  unfold digV at this
  rw[e]at this
  omega
 ·exact⟨by simp,by show 0≤2147483648;omega⟩
theorem jm (f:PsAt 77 P A c L w0 w s) (g:TkL L):
  Cl 157 #[.pointer (some ⟨P,0,none⟩)] w fun e w'=>e= .returned (i4 (numP s).1)∧PsAt 77 P A c L w0 w' (numP s).2∧Chg P w w':=by
 have H:=hid (nW f g 3 (by omega))
 obtain⟨a,b⟩:=xk f g
 have j:=hid (fun W=>vD (takP 3 s).1 W a (f.tak_size g 3) b)
 have h:Hid (numP s=(digV (takP 3 s).1,(takP 3 s).2)):=rfl
 clear f a b
 generalize takP 3 s=R at*
 go_enter func157,ntmps157
 go_wp2_with fail
 refine H.mono ?_
 rintro _ w1 ⟨rfl,a,b⟩
 go_wp2_with fail
 refine(j w1).mono ?_
 rintro _ k ⟨rfl,i⟩
 go_wp2_with fail
 go_ret
 exact⟨by rw[h.out];rfl,by rw[h.out];exact a.ext i,b.ext i⟩
theorem PsAt.back {T:Nat} (g:PsAt T P A c L w0 w s) (b:PsAt T P A c L w0 w1 s1):PsAt T P A c L w0 ((w1.setCell ⟨P,1,none⟩ (i4 ((L.length-s.r.length:Nat):Int))).setCell ⟨P,2,none⟩ (.bool true)) s.fail:=by
 have f:Chg P w1 ((w1.setCell ⟨P,1,none⟩ (i4 ((L.length-s.r.length:Nat):Int))).setCell ⟨P,2,none⟩ (.bool true)):=((Chg.refl P w1).set _ _).set _ _
 refine⟨(b.base.setCell b.low _).setCell b.low _,g.low,(b.blk.set 1 _).set 2 _,g.suf,g.ne,fun i a o=>?_⟩
 obtain⟨e,h,j,k,l,m,n⟩:=b.tks i a o
 exact⟨e,h,j,k,f.keep l (by show e≠P;omega),f.keep m (by show e≠P;omega),f.keep n (by show e≠P;omega)⟩
theorem ld (g:PsAt 77 P A c L w0 w s) (k:TkL L):
  Cl 143 #[.pointer (some ⟨P,0,none⟩)] w fun e w'=>e= .returned (i4 (cg s).1)∧PsAt 77 P A c L w0 w' (cg s).2∧Chg P w w':=by
 have H:=hid (jm g k)
 have z:=hid g
 have F:=g.blk.cell_some (i:=1) rfl
 have a:Hid (cg s=if (numP s).2.bad=false∧(numP s).1=0 then ((numP s).1,s.fail)else numP s):=rfl
 have t:=g.num_le k
 clear g k
 obtain⟨⟨n,s1⟩,p⟩:∃x,numP s=x:=⟨_,rfl⟩
 rw[p]at H a t
 simp only at t a H
 clear p
 go_enter func143,ntmps143
 go_wp2_with fail
 refine H.mono ?_
 rintro _ w1 ⟨rfl,f,j⟩
 have m:=hid f
 have o:=hid j
 have u:=hid (z.back f)
 have C:=f.blk.cell_some (i:=2) rfl
 have D:=f.blk.frozen 1
 have G:=f.blk.cell_some (i:=1) rfl
 have E:=(f.blk.set 1 (i4 ((L.length-s.r.length:Nat):Int))).frozen 2
 have l:=(f.blk.set 1 (i4 ((L.length-s.r.length:Nat):Int))).cell_some (i:=2) rfl
 have y:=hid ((j.set 1 (i4 ((L.length-s.r.length:Nat):Int))).set 2 (.bool true))
 clear f j H
 generalize L.length-s.r.length=i at*
 obtain⟨b,B⟩:∃b,s1.bad=b:=⟨_,rfl⟩
 rw[B]at C a l
 cases b
 ·by_cases h:n=0
  ·subst h
   rw[if_pos ⟨rfl,rfl⟩]at a
   go_wp2_with fail
   go_ret
   exact⟨by rw[a.out];rfl,by rw[a.out];exact u,y⟩
  ·have hd:(n==0)=false:=by simpa using h
   rw[if_neg (fun e=>h e.2)]at a
   go_wp2_with fail
   go_ret
   exact⟨by rw[a.out];rfl,by rw[a.out];exact m,o⟩
 ·rw[if_neg (fun e=>by cases e.1)]at a
  go_wp2_with fail
  go_ret
  exact⟨by rw[a.out];rfl,by rw[a.out];exact m,o⟩
end
end
section
open Lx (Tk)
abbrev opC (o:Int) (B:OA) (k c:Nat):LV:=(eC o ⟨#[]⟩ ⟨#[]⟩ 0 0 0 ⟨#[]⟩ B k c)
abbrev zC:LV:=opC 0 none 0 0
theorem bI (o:Int) (B:OA) (k c':Nat) (W:World):
  Cl 80 #[i4 o,.slice B k c'] W fun e w'=>e= .returned (.agg (opC o B k c').toArray)∧Ext W w':=by
 have a:=hid (Blk.of_new W 37 (opC o B k c'))
 go_enter func80,ntmps80
 go_wp2_with fail
 obtain⟨b,f,g,h,i,j,l,m,-⟩:=cls a
 exact bodyPost_ret (by simp[results,results80,go_sem,b,f,g,h,i,j,l,m]) rfl ⟨rfl,x10 W _⟩
theorem tE {S:Nat→Prop} {g:Nat} {w:World} {ds:Array Value} {Ψ:World→Prop} (h:Stb (fun q=>S q∧q≠g) w Ψ):Stb S (w.setRow g ds) Ψ:=
 (h.grown (gQ w g ds) fun q a e=>a.2 (Option.some.inj e).symm).weak fun q _ a=>a.1
theorem tF {S:Nat→Prop} {g:Nat} {w:World} {Ψ:World→Prop} (h:Stb S w Ψ) (b:w.heap.size≤g):Stb (fun q=>S q∧q≠g) w Ψ:=h.weak fun q e a=>⟨a,by omega⟩
theorem mD {W w:World} {g:Nat} {ds:Array Value} (h:Ext W w) (b:W.heap.size≤g):Ext W (w.setRow g ds):=h.grown (gQ w g ds) fun k a=>by have:=Option.some.inj a;omega
theorem mE {S:Nat→Prop} {q:Bool} {op ix vk vi:Int} {tb nm vt:BA} {ks:List Ex} {B:OA} {k c':Nat} {W:World} (R:∀q,W.heap.size≤q→S q) (U:Stb S W fun u=>ExV u (.mk ⟨op,tb,nm,ix,vk,vi,vt⟩ ks) B k c'):
  Cl 156 #[.bool q,.agg #[i4 op,.string tb,.string nm,i4 ix,i4 vk,i4 vi,.string vt,.slice B k c']] W fun r w'=> ∃(l i t n:Int) (m j x:BA) (E:List Ex) (I:OA) (X O:Nat),fK q (.mk ⟨op,tb,nm,ix,vk,vi,vt⟩ ks)= .mk ⟨l,m,j,i,t,n,x⟩ E∧
   r= .returned (.agg #[i4 l,.string m,.string j,i4 i,i4 t,i4 n,.string x,.slice I X O])∧Ext W w'∧Stb S w' (fun u=>ExV u (.mk ⟨l,m,j,i,t,n,x⟩ E) I X O):=by
 have C:=x10 W (.cells #[i4 op,.string tb,.string nm,i4 ix,i4 vk,i4 vi,.string vt,.slice B k c'] 37)
 have y:=hid (Blk.of_new W 37 (eC op tb nm ix vk vi vt B k c'))
 have H:=hid C
 have G:=hid (tF (g:=W.heap.size+1) U (by omega))
 have K:=hid R
 clear U C R
 go_enter func156,ntmps156
 go_upto_region 1 with fail
 have z:(W.alloc (.cells #[i4 op,.string tb,.string nm,i4 ix,i4 vk,i4 vi,.string vt,.slice B k c'] 37)).heap.size=W.heap.size+1:=by simp
 generalize W.alloc (.cells #[i4 op,.string tb,.string nm,i4 ix,i4 vk,i4 vi,.string vt,.slice B k c'] 37)=w1 at*
 have b:=hid (Blk.of_new w1 37 zC)
 have a:=hid (H.alloc (.cells zC.toArray 37))
 have e:=hid (y.ext (x10 w1 (.cells zC.toArray 37)))
 rw[z]at b
 generalize w1.alloc (.cells _ 37)=F at*
 obtain⟨Q,h⟩:∃g,W.heap.size=g:=⟨_,rfl⟩
 have J:=hid h
 rw[h]at b y e G K ⊢
 clear h z
 cases q
 ·go_wp2_with (first|(refine ldE rfl rfl _ rfl e rfl ?_)|(refine stE rfl rfl rfl _ (eC op tb nm ix vk vi vt B k c') rfl rfl b rfl rfl (by kernel_rfl) ?_))
  refine bodyPost_ret (v:= .agg #[i4 op,.string tb,.string nm,i4 ix,i4 vk,i4 vi,.string vt,.slice B k c']) (results_cell_row (p:=4) (ty:=37) rfl _ _ (Q+1) 37 _ _ _ (by rfl) (dN b (eC op tb nm ix vk vi vt B k c')) underlying37 rfl (by kernel_rfl)) rfl ?_
  exact⟨_,_,_,_,_,_,_,_,B,k,c',rfl,rfl,mD a (by rw[J.out];omega),tE (Stb.ext G a)⟩
 ·go_wp2_with (first|(refine ldE rfl rfl _ rfl e rfl ?_)|(go_at_call 80;(with_reducible refine(bI _ _ _ _ _).mono ?_);rintro _ Y ⟨rfl,D⟩;have f:=hid ((x10 F (.cells #[i4 op,.string tb,.string nm,i4 ix,i4 vk,i4 vi,.string vt,.slice B k c'] 37)).trans D))|(refine stE rfl rfl rfl _ (opC 20 (some ⟨F.heap.size,0,none⟩) 1 1) rfl rfl (b.ext f) rfl rfl (by kernel_rfl) ?_))
  refine bodyPost_ret (v:= .agg (opC 20 (some ⟨F.heap.size,0,none⟩) 1 1).toArray) (results_cell_row (p:=4) (ty:=37) rfl _ _ (Q+1) 37 _ _ _ (by rfl) (dN (b.ext f) (opC 20 (some ⟨F.heap.size,0,none⟩) 1 1)) underlying37 rfl (by kernel_rfl)) rfl ?_
  exact⟨_,_,_,_,_,_,_,_,some ⟨F.heap.size,0,none⟩,1,1,rfl,rfl,mD (a.trans f) (by rw[J.out];omega),tE (Stb.ext (exS_op1 (T:=37) (o:=20) (by unfold I64;omega) ⟨K _ (by have:=b.lt;omega),by have:=b.lt;omega⟩ (Stb.ext G a)) D)⟩
end
section
open Lx (Tk)
theorem rand_any {S:Nat→Prop} {op ix vk vi op2 a h f:Int} {tb nm vt e b j:BA} {ks m:List Ex} {z t:OA} {G c1 y c2:Nat} {W:World} (hS:∀q,W.heap.size≤q→S q) (hv:Stb S W fun u=>ExV u (.mk ⟨op,tb,nm,ix,vk,vi,vt⟩ ks) z G c1) (O:Stb S W fun u=>ExV u (.mk ⟨op2,e,b,a,h,f,j⟩ m) t y c2):
  Cl 140 #[.agg #[i4 op,.string tb,.string nm,i4 ix,i4 vk,i4 vi,.string vt,.slice z G c1],.agg #[i4 op2,.string e,.string b,i4 a,i4 h,i4 f,.string j,.slice t y c2]] W fun r w'=> ∃A3 k3 c3,r= .returned ((andR (.mk ⟨op,tb,nm,ix,vk,vi,vt⟩ ks) (.mk ⟨op2,e,b,a,h,f,j⟩ m)).d.val A3 k3 c3)∧Ext W w'∧Stb S w' (fun u=>ExV u (andR (.mk ⟨op,tb,nm,ix,vk,vi,vt⟩ ks) (.mk ⟨op2,e,b,a,h,f,j⟩ m)) A3 k3 c3):=by
 have HV:=hid (tF (g:=W.heap.size+1+1) hv (by omega))
 have B:=hid (tF (g:=W.heap.size+1+1) O (by omega))
 have I:Hid (andR (.mk ⟨op,tb,nm,ix,vk,vi,vt⟩ ks) (.mk ⟨op2,e,b,a,h,f,j⟩ m)=if op=0 then (.mk ⟨op2,e,b,a,h,f,j⟩ m)else opE 18 [(.mk ⟨op,tb,nm,ix,vk,vi,vt⟩ ks),(.mk ⟨op2,e,b,a,h,f,j⟩ m)]):=rfl
 generalize andR (.mk ⟨op,tb,nm,ix,vk,vi,vt⟩ ks) (.mk ⟨op2,e,b,a,h,f,j⟩ m)=R at*
 have HS:=hid hS
 clear hv O hS
 have n:=x10 W (.cells #[i4 op,.string tb,.string nm,i4 ix,i4 vk,i4 vi,.string vt,.slice z G c1] 37)
 have k:=Blk.of_new W 37 (eC op tb nm ix vk vi vt z G c1)
 have F:(W.alloc (.cells #[i4 op,.string tb,.string nm,i4 ix,i4 vk,i4 vi,.string vt,.slice z G c1] 37)).heap.size=W.heap.size+1:=by simp
 have hl:=k.lt
 go_enter func140,ntmps140
 go_upto_region 1 with fail
 generalize W.alloc (.cells #[i4 op,.string tb,.string nm,i4 ix,i4 vk,i4 vi,.string vt,.slice z G c1] 37)=w1 at*
 have l:=x10 w1 (.cells #[i4 op2,.string e,.string b,i4 a,i4 h,i4 f,.string j,.slice t y c2] 37)
 have x:=Blk.of_new w1 37 (eC op2 e b a h f j t y c2)
 replace k:=k.ext l
 have K:(w1.alloc (.cells #[i4 op2,.string e,.string b,i4 a,i4 h,i4 f,.string j,.slice t y c2] 37)).heap.size=W.heap.size+1+1:=by simp[F]
 rw[F]at x
 replace n:=n.trans l
 clear l
 generalize w1.alloc (.cells #[i4 op2,.string e,.string b,i4 a,i4 h,i4 f,.string j,.slice t y c2] 37)=w2 at*
 have l:=x10 w2 (.cells zC.toArray 37)
 have D:=Blk.of_new w2 37 zC
 rw[K]at D
 replace k:=k.ext l
 replace x:=x.ext l
 replace n:=n.trans l
 clear l F K hl
 generalize w2.alloc (.cells _ 37)=U at*
 have X:=hid k
 have Y:=hid x
 have H:=hid D
 have J:=hid n
 clear x D n
 obtain⟨g0,E⟩:∃g,W.heap.size=g:=⟨_,rfl⟩
 have HG:=hid E
 rw[E]at k X Y H HV B HS ⊢
 clear E
 have a0:=k.cell_some (i:=0) rfl
 clear k
 by_cases Z:op=0
 ·subst Z
  rw[if_pos rfl]at I
  go_wp2_with (first|(refine ldE rfl rfl _ rfl Y rfl ?_)|(refine stE rfl rfl rfl _ (eC op2 e b a h f j t y c2) rfl rfl H rfl rfl (by kernel_rfl) ?_))
  refine bodyPost_ret (v:= .agg ((eC op2 e b a h f j t y c2)).toArray) (results_cell_row (p:=4) (ty:=37) rfl _ _ (g0+1+1) 37 _ _ _ (by rfl) (dN H (eC op2 e b a h f j t y c2)) underlying37 rfl (by kernel_rfl)) rfl ?_
  exact⟨t,y,c2,by rw[I.out];rfl,mD J (by rw[HG.out];omega),by rw[I.out];exact tE (Stb.ext B J)⟩
 ·have hd:(op==0)=false:=by simpa using Z
  rw[if_neg Z]at I
  go_wp2_with (first|(refine ldE rfl rfl _ rfl X rfl ?_)|(refine ldE rfl rfl _ rfl Y rfl ?_)|(go_at_call 80;(with_reducible refine(bI _ _ _ _ _).mono ?_);rintro _ w5 ⟨rfl,Q⟩;have C:=hid ((x10 U (.cells #[i4 op,.string tb,.string nm,i4 ix,i4 vk,i4 vi,.string vt,.slice z G c1,i4 op2,.string e,.string b,i4 a,i4 h,i4 f,.string j,.slice t y c2] 37)).trans Q))|(refine stE rfl rfl rfl _ (opC 18 (some ⟨U.heap.size,0,none⟩) 2 2) rfl rfl (H.ext C) rfl rfl (by kernel_rfl) ?_))
  refine bodyPost_ret (v:= .agg (opC 18 (some ⟨U.heap.size,0,none⟩) 2 2).toArray) (results_cell_row (p:=4) (ty:=37) rfl _ _ (g0+1+1) 37 _ _ _ (by rfl) (dN (H.ext C) (opC 18 (some ⟨U.heap.size,0,none⟩) 2 2)) underlying37 rfl (by kernel_rfl)) rfl ?_
  exact⟨some ⟨U.heap.size,0,none⟩,2,2,by rw[I.out];rfl,mD (J.trans C) (by rw[HG.out];omega),by rw[I.out];exact tE (Stb.ext (ta (T:=37) (o:=18) (by unfold I64;omega) ⟨HS _ (by have:=X.lt;omega),by have:=H.lt;omega⟩ (Stb.ext HV J) (Stb.ext B J)) Q)⟩
section
variable {P c:Nat} {A:OA} {L:List Tk} {w0 w:World} {s:Ps}
def lvO (l:Nat):List (BA×Int):=if l=1 then opsOr else if l=2 then opsAnd else if l=5 then opsSum else if l=6 then opsPro else []
theorem jn (i:PsAt 77 P A c L w0 w s) (h:TkL L) {t:BA} (b:isS t s=true):
  Cl 66 #[.pointer (some ⟨P,0,none⟩),.string t] w fun e w'=>e= .returned (.bool true)∧PsAt 77 P A c L w0 w' s.next∧Chg P w w':=
 (fx i h t).mono fun e w' ⟨f,a,g⟩=>⟨by rw[f,b],by rw[ir,b]at a;exact a,g⟩
theorem gZ (i:PsAt 77 P A c L w0 w s) (h:TkL L) {t:BA} (b:isS t s=false):
  Cl 66 #[.pointer (some ⟨P,0,none⟩),.string t] w fun e w'=>e= .returned (.bool false)∧PsAt 77 P A c L w0 w' s∧Chg P w w':=
 (fx i h t).mono fun e w' ⟨f,a,g⟩=>⟨by rw[f,b],by rw[ir,b]at a;exact a,g⟩
theorem rbin1_any (n:PsAt 77 P A c L w0 w s) (m:TkL L):
  Cl 83 #[.pointer (some ⟨P,0,none⟩),i4 1] w fun e w'=>e= .returned (i4 ((firstP (lvO 1) s).1.getD 0))∧PsAt 77 P A c L w0 w' (firstP (lvO 1) s).2∧Chg P w w':=by
 have l:Hid (firstP (lvO 1) s=firstP [(⟨#[79,82]⟩,19)] s):=rfl
 generalize firstP (lvO 1) s=R at*
 have k:=hid n
 have j:=hid (Chg.refl P w)
 clear n
 cases g:isS ⟨#[79,82]⟩ s
 rotate_left
 ·have a:Hid (R=(some 19,s.next)):=by unfold Hid;rw[l.out,firstP,if_pos g]
  go_enter func83,ntmps83
  go_wp2_with (first|(go_at_call 66;(with_reducible refine(jn k.out m g).mono ?_);rintro _ w1 ⟨rfl,b,f⟩;have i:=hid b;have h:=hid (j.trans f);clear b f))
  go_ret
  exact⟨by rw[a.out];rfl,by rw[a.out];exact i,h⟩
 have a:Hid (R=(none,s)):=by unfold Hid;rw[l.out,firstP,if_neg (by rw[g];simp),firstP]
 go_enter func83,ntmps83
 go_wp2_with (first|(go_at_call 66;(with_reducible refine(gZ k.out m g).mono ?_);rintro _ w1 ⟨rfl,b,f⟩;have i:=hid b;have h:=hid (j.trans f);clear b f))
 go_ret
 exact⟨by rw[a.out];rfl,by rw[a.out];exact i,h⟩
theorem rbin2_any (n:PsAt 77 P A c L w0 w s) (m:TkL L):
  Cl 83 #[.pointer (some ⟨P,0,none⟩),i4 2] w fun e w'=>e= .returned (i4 ((firstP (lvO 2) s).1.getD 0))∧PsAt 77 P A c L w0 w' (firstP (lvO 2) s).2∧Chg P w w':=by
 have l:Hid (firstP (lvO 2) s=firstP [(⟨#[65,78,68]⟩,18)] s):=rfl
 generalize firstP (lvO 2) s=R at*
 have k:=hid n
 have j:=hid (Chg.refl P w)
 clear n
 cases g:isS ⟨#[65,78,68]⟩ s
 rotate_left
 ·have a:Hid (R=(some 18,s.next)):=by unfold Hid;rw[l.out,firstP,if_pos g]
  go_enter func83,ntmps83
  go_wp2_with (first|(go_at_call 66;(with_reducible refine(jn k.out m g).mono ?_);rintro _ w1 ⟨rfl,b,f⟩;have i:=hid b;have h:=hid (j.trans f);clear b f))
  go_ret
  exact⟨by rw[a.out];rfl,by rw[a.out];exact i,h⟩
 have a:Hid (R=(none,s)):=by unfold Hid;rw[l.out,firstP,if_neg (by rw[g];simp),firstP]
 go_enter func83,ntmps83
 go_wp2_with (first|(go_at_call 66;(with_reducible refine(gZ k.out m g).mono ?_);rintro _ w1 ⟨rfl,b,f⟩;have i:=hid b;have h:=hid (j.trans f);clear b f))
 go_ret
 exact⟨by rw[a.out];rfl,by rw[a.out];exact i,h⟩
theorem rbin5_any (r:PsAt 77 P A c L w0 w s) (j:TkL L):
  Cl 83 #[.pointer (some ⟨P,0,none⟩),i4 5] w fun e w'=>e= .returned (i4 ((firstP (lvO 5) s).1.getD 0))∧PsAt 77 P A c L w0 w' (firstP (lvO 5) s).2∧Chg P w w':=by
 have p:Hid (firstP (lvO 5) s=firstP [(⟨#[43]⟩,4),(⟨#[45]⟩,5)] s):=rfl
 generalize firstP (lvO 5) s=R at*
 have n:=hid r
 have l:=hid (Chg.refl P w)
 clear r
 cases g:isS ⟨#[43]⟩ s
 rotate_left
 ·have f:Hid (R=(some 4,s.next)):=by unfold Hid;rw[p.out,firstP,if_pos g]
  go_enter func83,ntmps83
  go_wp2_with (first|(go_at_call 66;(with_reducible refine(jn n.out j g).mono ?_);rintro _ w1 ⟨rfl,a,b⟩;have i:=hid a;have h:=hid (l.trans b);clear a b))
  go_ret
  exact⟨by rw[f.out];rfl,by rw[f.out];exact i,h⟩
 cases k:isS ⟨#[45]⟩ s
 rotate_left
 ·have f:Hid (R=(some 5,s.next)):=by unfold Hid;rw[p.out,firstP,if_neg (by rw[g];simp),firstP,if_pos k]
  go_enter func83,ntmps83
  go_wp2_with (first|(go_at_call 66;(with_reducible refine(jn i.out j k).mono ?_);rintro _ t ⟨rfl,a,b⟩;have o:=hid a;have m:=hid (h.trans b);clear a b)|(go_at_call 66;(with_reducible refine(gZ n.out j g).mono ?_);rintro _ w1 ⟨rfl,a,b⟩;have i:=hid a;have h:=hid (l.trans b);clear a b))
  go_ret
  exact⟨by rw[f.out];rfl,by rw[f.out];exact o,m⟩
 have f:Hid (R=(none,s)):=by unfold Hid;rw[p.out,firstP,if_neg (by rw[g];simp),firstP,if_neg (by rw[k];simp),firstP]
 go_enter func83,ntmps83
 go_wp2_with (first|(go_at_call 66;(with_reducible refine(gZ i.out j k).mono ?_);rintro _ t ⟨rfl,a,b⟩;have o:=hid a;have m:=hid (h.trans b);clear a b)|(go_at_call 66;(with_reducible refine(gZ n.out j g).mono ?_);rintro _ w1 ⟨rfl,a,b⟩;have i:=hid a;have h:=hid (l.trans b);clear a b))
 go_ret
 exact⟨by rw[f.out];rfl,by rw[f.out];exact o,m⟩
theorem rbin6_any (x:PsAt 77 P A c L w0 w s) (g:TkL L):
  Cl 83 #[.pointer (some ⟨P,0,none⟩),i4 6] w fun e w'=>e= .returned (i4 ((firstP (lvO 6) s).1.getD 0))∧PsAt 77 P A c L w0 w' (firstP (lvO 6) s).2∧Chg P w w':=by
 have p:Hid (firstP (lvO 6) s=firstP [(⟨#[42]⟩,6),(⟨#[47]⟩,7),(⟨#[37]⟩,8)] s):=rfl
 generalize firstP (lvO 6) s=R at*
 have o:=hid x
 have n:=hid (Chg.refl P w)
 clear x
 cases h:isS ⟨#[42]⟩ s
 rotate_left
 ·have f:Hid (R=(some 6,s.next)):=by unfold Hid;rw[p.out,firstP,if_pos h]
  go_enter func83,ntmps83
  go_wp2_with (first|(go_at_call 66;(with_reducible refine(jn o.out g h).mono ?_);rintro _ w1 ⟨rfl,a,b⟩;have j:=hid a;have i:=hid (n.trans b);clear a b))
  go_ret
  exact⟨by rw[f.out];rfl,by rw[f.out];exact j,i⟩
 cases k:isS ⟨#[47]⟩ s
 rotate_left
 ·have f:Hid (R=(some 7,s.next)):=by unfold Hid;rw[p.out,firstP,if_neg (by rw[h];simp),firstP,if_pos k]
  go_enter func83,ntmps83
  go_wp2_with (first|(go_at_call 66;(with_reducible refine(jn j.out g k).mono ?_);rintro _ y ⟨rfl,a,b⟩;have m:=hid a;have l:=hid (i.trans b);clear a b)|(go_at_call 66;(with_reducible refine(gZ o.out g h).mono ?_);rintro _ w1 ⟨rfl,a,b⟩;have j:=hid a;have i:=hid (n.trans b);clear a b))
  go_ret
  exact⟨by rw[f.out];rfl,by rw[f.out];exact m,l⟩
 cases r:isS ⟨#[37]⟩ s
 rotate_left
 ·have f:Hid (R=(some 8,s.next)):=by unfold Hid;rw[p.out,firstP,if_neg (by rw[h];simp),firstP,if_neg (by rw[k];simp),firstP,if_pos r]
  go_enter func83,ntmps83
  go_wp2_with (first|(go_at_call 66;(with_reducible refine(jn m.out g r).mono ?_);rintro _ z ⟨rfl,a,b⟩;have u:=hid a;have t:=hid (l.trans b);clear a b)|(go_at_call 66;(with_reducible refine(gZ j.out g k).mono ?_);rintro _ y ⟨rfl,a,b⟩;have m:=hid a;have l:=hid (i.trans b);clear a b)|(go_at_call 66;(with_reducible refine(gZ o.out g h).mono ?_);rintro _ w1 ⟨rfl,a,b⟩;have j:=hid a;have i:=hid (n.trans b);clear a b))
  go_ret
  exact⟨by rw[f.out];rfl,by rw[f.out];exact u,t⟩
 have f:Hid (R=(none,s)):=by unfold Hid;rw[p.out,firstP,if_neg (by rw[h];simp),firstP,if_neg (by rw[k];simp),firstP,if_neg (by rw[r];simp),firstP]
 go_enter func83,ntmps83
 go_wp2_with (first|(go_at_call 66;(with_reducible refine(gZ m.out g r).mono ?_);rintro _ z ⟨rfl,a,b⟩;have u:=hid a;have t:=hid (l.trans b);clear a b)|(go_at_call 66;(with_reducible refine(gZ j.out g k).mono ?_);rintro _ y ⟨rfl,a,b⟩;have m:=hid a;have l:=hid (i.trans b);clear a b)|(go_at_call 66;(with_reducible refine(gZ o.out g h).mono ?_);rintro _ w1 ⟨rfl,a,b⟩;have j:=hid a;have i:=hid (n.trans b);clear a b))
 go_ret
 exact⟨by rw[f.out];rfl,by rw[f.out];exact u,t⟩
end
end
section
open Lx (Tk)
section
variable {P c:Nat} {A:OA} {L:List Tk} {w0:World}
theorem jo (e:TkL L) (K:Nat):RX P A c L w0 141 #[.pointer (some ⟨P,0,none⟩)] K colP:=fun w s n I=>by
 have t:Hid (colP s=if isS nq (takP 1 s).2=true then (colE (takP 1 s).1 (takP 1 (takP 1 s).2.next).1,(takP 1 (takP 1 s).2.next).2)else (colE ⟨#[]⟩ (takP 1 s).1,(takP 1 s).2)):=rfl
 generalize colP s=R at*
 have J:=n.tak_size e 1
 go_enter func141,ntmps141
 go_upto_region 1 with fail
 generalize k:World.alloc _ _=w1
 have E:=hid (rK n k)
 obtain⟨u,f⟩:∃g,w.heap.size=g:=⟨_,rfl⟩
 rw[f]at E ⊢
 clear k n f
 generalize B:(takP 1 s).1=X at*
 generalize o:(takP 1 s).2=s1 at*
 go_upto_region 2 with (go_at_call 67;(with_reducible refine(lN E.out.ps e).mono ?_);rintro _ D ⟨rfl,a,b⟩;rw[B];rw[o]at a;replace E:=hid (E.call a b);clear a b)
 generalize k:World.alloc _ _=Z
 replace E:=hid (dq E k)
 obtain⟨H,h⟩:∃g,D.heap.size=g:=⟨_,rfl⟩
 rw[h]at E ⊢
 clear k h
 cases m:isS nq s1
 ·obtain rfl:R=(colE ⟨#[]⟩ X,s1):=by rw[t.out,if_neg (by rw[m];simp)]
  go_wp2_with (first|(go_at_call 66;(with_reducible refine(gZ E.out.ps e m).mono ?_);rintro _ x ⟨rfl,a,b⟩;replace E:=hid (E.call a b);clear a b)|(refine ldE rfl rfl _ rfl (E.get (j:=0) rfl) rfl ?_)|(refine stE rfl rfl rfl _ (eC 2 ⟨#[]⟩ X 0 0 0 ⟨#[]⟩ none 0 0) rfl rfl (E.get (j:=1) rfl) rfl rfl (by kernel_rfl) ?_))
  refine bodyPost_ret (v:= .agg ((eC 2 ⟨#[]⟩ X 0 0 0 ⟨#[]⟩ none 0 0)).toArray) (results_cell_row (p:=2) (ty:=37) rfl _ _ u 37 _ _ _ (by rfl) ((E.row (j:=1) rfl (eC 2 ⟨#[]⟩ X 0 0 0 ⟨#[]⟩ none 0 0)).get (j:=1) rfl) underlying37 rfl (by kernel_rfl)) rfl ?_
  have F:=E.row (j:=1) rfl (eC 2 ⟨#[]⟩ X 0 0 0 ⟨#[]⟩ none 0 0)
  exact⟨none,0,0,rfl,F.ps,F.chg,pR _ _ (d:=⟨2,⟨#[]⟩,X,0,0,0,⟨#[]⟩⟩) ⟨lb,cy,cy,cy,by show 0≤9223372036854775807;omega,by show X.size≤_;omega,by show 0≤9223372036854775807;omega⟩⟩
 ·have l:=fun W (z:PsAt 77 P A c L w0 W s1.next)=>z.tak_size e 1
  obtain rfl:R=(colE X (takP 1 s1.next).1,(takP 1 s1.next).2):=by rw[t.out,if_pos m]
  generalize C:(takP 1 s1.next).1=Y at*
  generalize r:(takP 1 s1.next).2=U at*
  go_upto_region 3 with (go_at_call 66;(with_reducible refine(jn E.out.ps e m).mono ?_);rintro _ x ⟨rfl,a,b⟩;replace l:=l _ a;replace E:=hid (E.call a b);clear a b)
  have y:=(E.get (j:=0) rfl).cell_some (i:=2) rfl
  replace E:=hid (E.ext (Ext.refl x).drew)
  go_region_with (go_at_call 67;(with_reducible refine(lN E.out.ps e).mono ?_);rintro _ w5 ⟨rfl,a,b⟩;rw[C];rw[r]at a;replace E:=hid (E.call a b);clear a b;obtain⟨-,G,y,-⟩:=cls (E.get (j:=0) rfl);have O:=(E.get (j:=0) rfl).frozen 1;have Q:=(E.get (j:=0) rfl).frozen 2)
  all_goals
   replace E:=hid ((E.set (j:=0) rfl 1 (.string X)).set (j:=0) rfl 2 (.string Y))
   go_wp2_with (first|(refine ldE rfl rfl _ rfl (E.get (j:=0) rfl) rfl ?_)|(refine stE rfl rfl rfl _ (eC 2 X Y 0 0 0 ⟨#[]⟩ none 0 0) rfl rfl (E.get (j:=1) rfl) rfl rfl (by kernel_rfl) ?_))
   refine bodyPost_ret (v:= .agg ((eC 2 X Y 0 0 0 ⟨#[]⟩ none 0 0)).toArray) (results_cell_row (p:=2) (ty:=37) rfl _ _ u 37 _ _ _ (by rfl) ((E.row (j:=1) rfl (eC 2 X Y 0 0 0 ⟨#[]⟩ none 0 0)).get (j:=1) rfl) underlying37 rfl (by kernel_rfl)) rfl ?_
   have F:=E.row (j:=1) rfl (eC 2 X Y 0 0 0 ⟨#[]⟩ none 0 0)
   exact⟨none,0,0,rfl,F.ps,F.chg,pR _ _ (d:=⟨2,X,Y,0,0,0,⟨#[]⟩⟩) ⟨lb,cy,cy,cy,by show X.size≤_;omega,by show Y.size≤_;omega,by show 0≤9223372036854775807;omega⟩⟩
end
end
section
open Lx (Tk)
section
variable {P c:Nat} {A:OA} {L:List Tk} {w0:World}
theorem qr {w:World} {s:Ps} (b:PsAt 77 P A c L w0 w s) (a:TkL L):
  Cl 135 #[.pointer (some ⟨P,0,none⟩),i4 4] w fun e w'=>e= .returned (.string (takP 4 s).1)∧PsAt 77 P A c L w0 w' (takP 4 s).2∧Chg P w w':=nW b a 4 (by omega)
theorem rprim_any (y:TkL L) {n:Nat} {x:M Ex} (hr:RX P A c L w0 41 #[.pointer (some ⟨P,0,none⟩),i4 1] n x):RX P A c L w0 82 #[.pointer (some ⟨P,0,none⟩)] (n+1) (primR x):=fun w s hp hn=>by
 have HM:Hid (primR x s=if isS kNULL s then (dF 0 0 ⟨#[]⟩,s.next)
  else if isS iZ s then (opE 9 [(x (needP yLp s.next)).1],needP yRp (x (needP yLp s.next)).2)
  else if isS yLp s then ((x s.next).1,needP yRp (x s.next).2)
  else if s.hd.kind=3 then (dF 1 (numP s).1 ⟨#[]⟩,(numP s).2)
  else if s.hd.kind=4 then (dF 2 0 (takP 4 s).1,(takP 4 s).2)
  else colP s):=rfl
 generalize primR x s=R at*
 have ax:=hp.tak_size y 4
 have an:=hp.num_le y
 go_enter func82,ntmps82
 go_upto_region 1 with fail
 generalize W:World.alloc _ _=w1
 have E:=hid (rK hp W)
 obtain⟨Y,ac⟩:∃g,w.heap.size=g:=⟨_,rfl⟩
 rw[ac]at E ⊢
 clear W hp ac
 go_wp2_with fail
 cases z:isS kNULL s
 rotate_left
 ·refine(jn E.ps y z).mono ?_
  rintro _ w2 ⟨rfl,a,e⟩
  replace E:=hid (E.call a e)
  clear a e
  obtain rfl:R=(dF 0 0 ⟨#[]⟩,s.next):=by rw[HM.out,if_pos z]
  go_wp2_with (first|(refine stE rfl rfl rfl _ (eC 1 ⟨#[]⟩ ⟨#[]⟩ 0 0 0 ⟨#[]⟩ none 0 0) rfl rfl (E.get (j:=0) rfl) rfl rfl (by kernel_rfl) ?_))
  refine bodyPost_ret (v:= .agg ((eC 1 ⟨#[]⟩ ⟨#[]⟩ 0 0 0 ⟨#[]⟩ none 0 0)).toArray) (results_cell_row (p:=2) (ty:=37) rfl _ _ Y 37 _ _ _ (by rfl) ((E.row (j:=0) rfl (eC 1 ⟨#[]⟩ ⟨#[]⟩ 0 0 0 ⟨#[]⟩ none 0 0)).get (j:=0) rfl) underlying37 rfl (by kernel_rfl)) rfl ?_
  have F:=E.row (j:=0) rfl (eC 1 ⟨#[]⟩ ⟨#[]⟩ 0 0 0 ⟨#[]⟩ none 0 0)
  exact⟨none,0,0,rfl,F.ps,F.chg,oW _ _ cy cy (by show 0≤9223372036854775807;omega)⟩
 refine(gZ E.ps y z).mono ?_
 rintro _ w2 ⟨rfl,a,e⟩
 replace E:=hid (E.call a e)
 clear a e
 go_wp2_with fail
 cases B:isS iZ s
 rotate_left
 ·refine(jn E.ps y B).mono ?_
  rintro _ w3 ⟨rfl,a,e⟩
  replace E:=hid (E.call a e)
  clear a e
  have ad:=au B
  have ag:=aA yLp s.next
  go_wp2_with fail
  refine(eB E.ps y yLp).mono ?_
  rintro _ w4 ⟨rfl,a,e⟩
  replace E:=hid (E.call a e)
  clear a e
  obtain⟨op1,f,vk1,m,l,k,t,O,s1,I,U⟩:=hr.at_ E.ps (by omega)
  go_wp2_with fail
  refine U.mono ?_
  rintro _ Z ⟨C,D,c1,rfl,a,e,Q⟩
  replace E:=hid (E.calls a e Q)
  clear a e Q U
  obtain rfl:R=(opE 9 [.mk ⟨op1,l,k,f,vk1,m,t⟩ O],needP yRp s1):=by rw[HM.out,if_neg (by rw[z];simp),if_pos B,I]
  go_upto_region 6 with fail
  generalize W:World.alloc _ _=w6
  replace E:=hid (dq E W)
  obtain⟨g1,H⟩:∃g,Z.heap.size=g:=⟨_,rfl⟩
  rw[H]at E ⊢
  clear W H
  go_wp2_with fail
  refine(eB E.ps y yRp).mono ?_
  rintro _ w7 ⟨rfl,a,e⟩
  replace E:=hid (E.call a e)
  clear a e
  go_wp2_with (first|(refine ldE rfl rfl _ rfl (E.get (j:=0) rfl) rfl ?_)|(go_at_call 80;(with_reducible refine(bI _ _ _ _ _).mono ?_);rintro _ w8 ⟨rfl,hx⟩;replace E:=hid (E.op1 (o:=9) (fun u h=>h.2) (by unfold I64;omega) hx))|(refine stE rfl rfl rfl _ (opC 9 (some ⟨w7.heap.size,0,none⟩) 1 1) rfl rfl (E.get (j:=1) rfl) rfl rfl (by kernel_rfl) ?_))
  refine bodyPost_ret (v:= .agg ((opC 9 (some ⟨w7.heap.size,0,none⟩) 1 1)).toArray) (results_cell_row (p:=2) (ty:=37) rfl _ _ Y 37 _ _ _ (by rfl) ((E.row (j:=1) rfl (opC 9 (some ⟨w7.heap.size,0,none⟩) 1 1)).get (j:=1) rfl) underlying37 rfl (by kernel_rfl)) rfl ?_
  have F:=E.row (j:=1) rfl (opC 9 (some ⟨w7.heap.size,0,none⟩) 1 1)
  exact⟨some ⟨w7.heap.size,0,none⟩,1,1,rfl,F.ps,F.chg,F.keep⟩
 refine(gZ E.ps y B).mono ?_
 rintro _ w3 ⟨rfl,a,e⟩
 replace E:=hid (E.call a e)
 clear a e
 go_wp2_with fail
 cases G:isS yLp s
 rotate_left
 ·refine(jn E.ps y G).mono ?_
  rintro _ w4 ⟨rfl,a,e⟩
  replace E:=hid (E.call a e)
  clear a e
  have ad:=au G
  obtain⟨op1,f,vk1,m,l,k,t,O,s1,I,U⟩:=hr.at_ E.ps (by omega)
  go_wp2_with fail
  refine U.mono ?_
  rintro _ Z ⟨C,D,c1,rfl,a,e,Q⟩
  replace E:=hid (E.calls a e Q)
  clear a e Q U
  obtain rfl:R=(.mk ⟨op1,l,k,f,vk1,m,t⟩ O,needP yRp s1):=by rw[HM.out,if_neg (by rw[z];simp),if_neg (by rw[B];simp),if_pos G,I]
  go_upto_region 10 with fail
  generalize W:World.alloc _ _=w6
  replace E:=hid (dq E W)
  obtain⟨g1,H⟩:∃g,Z.heap.size=g:=⟨_,rfl⟩
  rw[H]at E ⊢
  clear W H
  go_wp2_with fail
  refine(eB E.ps y yRp).mono ?_
  rintro _ w7 ⟨rfl,a,e⟩
  replace E:=hid (E.call a e)
  clear a e
  go_wp2_with (first|(refine ldE rfl rfl _ rfl (E.get (j:=0) rfl) rfl ?_)|(refine stE rfl rfl rfl _ (eC op1 l k f vk1 m t C D c1) rfl rfl (E.get (j:=1) rfl) rfl rfl (by kernel_rfl) ?_))
  refine bodyPost_ret (v:= .agg ((eC op1 l k f vk1 m t C D c1)).toArray) (results_cell_row (p:=2) (ty:=37) rfl _ _ Y 37 _ _ _ (by rfl) ((E.row (j:=1) rfl (eC op1 l k f vk1 m t C D c1)).get (j:=1) rfl) underlying37 rfl (by kernel_rfl)) rfl ?_
  have F:=E.row (j:=1) rfl (eC op1 l k f vk1 m t C D c1)
  exact⟨C,D,c1,rfl,F.ps,F.chg,F.keep.imp fun u h=>h.2⟩
 refine(gZ E.ps y G).mono ?_
 rintro _ w4 ⟨rfl,a,e⟩
 replace E:=hid (E.call a e)
 clear a e
 have J:=HM.out
 rw[if_neg (by rw[z];simp),if_neg (by rw[B];simp),if_neg (by rw[G];simp)]at J
 clear HM
 obtain⟨b,aS,hA,hb,c0,c1,c2⟩:=E.ps.cells
 subst hA
 obtain⟨p0,p1,p2,-⟩:=cls E.ps.blk
 have hi:=E.ps.lti
 have hl:=y.len
 generalize L.length-s.r.length=i at*
 have i0:(0:Int)≤(i:Int):=by omega
 have i1:(i:Int)<(L.length:Int):=by omega
 generalize s.hd.kind=K at*
 go_upto_region 12 with fail
 go_region
 replace E:=hid (E.ext (Ext.refl w4).drew)
 clear hi hb c0 c1 c2 p0 p1 p2 i0 i1
 by_cases k3:K=3
 ·subst k3
  rw[if_pos rfl]at J
  subst J
  generalize hN:(numP s).1=N at*
  go_wp2_with (first|(go_at_call 157;(with_reducible refine(jm E.out.ps y).mono ?_);rintro _ Z ⟨rfl,a,e⟩;replace E:=hid (E.call a e);clear a e;rw[hN])|(refine stE rfl rfl rfl _ (eC 1 ⟨#[]⟩ ⟨#[]⟩ 0 1 N ⟨#[]⟩ none 0 0) rfl rfl (E.get (j:=0) rfl) rfl rfl (by kernel_rfl) ?_))
  refine bodyPost_ret (v:= .agg ((eC 1 ⟨#[]⟩ ⟨#[]⟩ 0 1 N ⟨#[]⟩ none 0 0)).toArray) (results_cell_row (p:=2) (ty:=37) rfl _ _ Y 37 _ _ _ (by rfl) ((E.row (j:=0) rfl (eC 1 ⟨#[]⟩ ⟨#[]⟩ 0 1 N ⟨#[]⟩ none 0 0)).get (j:=0) rfl) underlying37 rfl (by kernel_rfl)) rfl ?_
  have F:=E.row (j:=0) rfl (eC 1 ⟨#[]⟩ ⟨#[]⟩ 0 1 N ⟨#[]⟩ none 0 0)
  exact⟨none,0,0,rfl,F.ps,F.chg,oW _ _ rv (by unfold I64;omega) (by show 0≤9223372036854775807;omega)⟩
 rw[if_neg k3]at J
 have d3:((K:Int)==3)=false:=by simp;omega
 by_cases k4:K=4
 ·subst k4
  rw[if_pos rfl]at J
  subst J
  generalize hX:(takP 4 s).1=X at*
  go_wp2_with (first|(go_at_call 135;(with_reducible refine(qr E.out.ps y).mono ?_);rintro _ Z ⟨rfl,a,e⟩;replace E:=hid (E.call a e);clear a e;rw[hX])|(refine stE rfl rfl rfl _ (eC 1 ⟨#[]⟩ ⟨#[]⟩ 0 2 0 X none 0 0) rfl rfl (E.get (j:=0) rfl) rfl rfl (by kernel_rfl) ?_))
  refine bodyPost_ret (v:= .agg ((eC 1 ⟨#[]⟩ ⟨#[]⟩ 0 2 0 X none 0 0)).toArray) (results_cell_row (p:=2) (ty:=37) rfl _ _ Y 37 _ _ _ (by rfl) ((E.row (j:=0) rfl (eC 1 ⟨#[]⟩ ⟨#[]⟩ 0 2 0 X none 0 0)).get (j:=0) rfl) underlying37 rfl (by kernel_rfl)) rfl ?_
  have F:=E.row (j:=0) rfl (eC 1 ⟨#[]⟩ ⟨#[]⟩ 0 2 0 X none 0 0)
  exact⟨none,0,0,rfl,F.ps,F.chg,oW _ _ lb cy (by omega)⟩
 rw[if_neg k4]at J
 have d4:((K:Int)==4)=false:=by simp;omega
 obtain⟨op1,f,vk1,m,l,k,t,O,s1,I,U⟩:=(jo y (s.r.length+1)).at_ E.ps (Nat.lt_succ_self _)
 rw[I]at J
 subst J
 go_wp2_with (first|(go_at_call 141;(with_reducible refine U.mono ?_);rintro _ Z ⟨C,D,c1,rfl,a,e,Q⟩;replace E:=hid (E.calls a e Q);clear a e Q U)|(refine stE rfl rfl rfl _ (eC op1 l k f vk1 m t C D c1) rfl rfl (E.get (j:=0) rfl) rfl rfl (by kernel_rfl) ?_))
 refine bodyPost_ret (v:= .agg ((eC op1 l k f vk1 m t C D c1)).toArray) (results_cell_row (p:=2) (ty:=37) rfl _ _ Y 37 _ _ _ (by rfl) ((E.row (j:=0) rfl (eC op1 l k f vk1 m t C D c1)).get (j:=0) rfl) underlying37 rfl (by kernel_rfl)) rfl ?_
 have F:=E.row (j:=0) rfl (eC op1 l k f vk1 m t C D c1)
 exact⟨C,D,c1,rfl,F.ps,F.chg,F.keep.imp fun u h=>h.2⟩
end
end
section
open Lx (Tk)
def chR (el:M Ex) (ops:List (BA×Int)) (n:Nat) (e:Ex):Option Int→Ps→Ex×Ps
 |none,st=> (e,st)
 |some o,st=>chainGo el ops n (opE o [e,(el st).1]) (el st).2
theorem vE (el:M Ex) (ops:List (BA×Int)) (n:Nat) (e:Ex) (s:Ps):chainGo el ops (n+1) e s=chR el ops n e (firstP ops s).1 (firstP ops s).2:=by
 rw[chainGo]
 cases h:(firstP ops s).1 with
 |none=>rw[lu ops s h];rfl
 |some o=>rfl
def posO (P:Nat) (w:World):Nat:=match w.cell? ⟨P,1,none⟩with
 |some v=> (intOf v).toNat
 |none=>0
theorem PsAt.posO {T P c:Nat} {A:OA} {L:List Tk} {w0 w:World} {s:Ps} (h:PsAt T P A c L w0 w s):posO P w=L.length-s.r.length:=by
 have:=h.blk.cell_some (i:=1) rfl
 unfold Go.Proofs.YtjigcpfjhfoheaaGreatDoor.posO
 rw[this]
 simp[intOf]
section
variable {P c:Nat} {A:OA} {L:List Tk} {w0:World}
theorem jp (hL:TkL L) {K:Nat} {el:M Ex} {l:Int} {ops:List (BA×Int)} (h0:1≤l∧l≤6) (O:l≠3) (an:∀x∈ops,x.2≠0∧I64 x.2) (Y:Fwd el) (hr:RX P A c L w0 41 #[.pointer (some ⟨P,0,none⟩),i4 (l+1)] K el)
  (I:∀(w:World) (s:Ps),PsAt 77 P A c L w0 w s→Cl 83 #[.pointer (some ⟨P,0,none⟩),i4 l] w fun e w'=>e= .returned (i4 ((firstP ops s).1.getD 0))∧PsAt 77 P A c L w0 w' (firstP ops s).2∧Chg P w w'):RX P A c L w0 41 #[.pointer (some ⟨P,0,none⟩),i4 l] K (chainP el ops):=fun w s hp hn=>by
 have HM:Hid (chainP el ops s=chainGo el ops (s.r.length+1) (el s).1 (el s).2):=rfl
 generalize chainP el ops s=R at*
 have y:=Y s
 have d3:(l==3)=false:=by simpa using O
 have d7:(l==7)=false:=by simp;omega
 obtain⟨be,bf⟩:=h0
 go_enter func41,ntmps41
 go_upto_region 1 with fail
 generalize hw:World.alloc _ _=w1
 have E:=hid (rK hp hw)
 obtain⟨g0,Z⟩:∃g,w.heap.size=g:=⟨_,rfl⟩
 rw[Z]at E ⊢
 clear hw hp Z
 obtain⟨op1,a,vk1,i,f,b,k,z,s1,ad,hc⟩:=hr.at_ E.ps (hn)
 go_wp2_with fail
 refine hc.mono ?_
 rintro _ w2 ⟨D,H,c1,rfl,B,C,O⟩
 replace E:=hid (E.calls B C O)
 clear B C O hc
 rw[ad,vE]at HM
 rw[ad]at y
 go_upto_region 12 with fail
 generalize hw:World.alloc _ _=w3
 replace E:=hid (dq E hw)
 obtain⟨g1,ac⟩:∃g,w2.heap.size=g:=⟨_,rfl⟩
 rw[ac]at E ⊢
 clear hw ac
 go_wp2_with fail
 refine(I _ _ E.ps).mono ?_
 rintro _ w4 ⟨rfl,B,C⟩
 replace E:=hid (E.call B C)
 clear B C
 go_wp2_with fail
 have m:=gj ops s1
 have G:=co ops s1
 try simp only at y
 generalize (firstP ops s1).1=r1 at*
 generalize (firstP ops s1).2=t1 at*
 go_loopw [7] (fun ov wr=> ∃(n:Nat) (r:Option Int) (st:Ps) (op1 a vk1 i:Int) (f b k:BA) (z:List Ex) (D:OA) (H c1:Nat),ov= i4 (r.getD 0)∧(∀o,r=some o→∃t,(t,o)∈ops)∧R=chR el ops n (.mk ⟨op1,f,b,a,vk1,i,k⟩ z) r st∧(r≠none→st.r.length<n)∧st.r.length≤s.r.length∧En 77 P A c L w0 w wr st [bk g1 37 (eC op1 f b a vk1 i k D H c1),bk g0 37 zC] (fun u=>ExV u (.mk ⟨op1,f,b,a,vk1,i,k⟩ z) D H c1)) (fun ov wr=>2* (20001-posO P wr)+(if intOf ov=0 then 0 else 1))
 case atStart=>exact⟨_,r1,t1,_,_,_,_,_,_,_,_,_,_,_,rfl,fun o U=>G o U,HM,fun Q=>by have:=m.2 (by cases r1<;>simp at Q ⊢);omega,by have:=m.1;omega,E.imp fun u h=>h.2⟩
 case round=>
  clear E HM m G y
  obtain⟨n,r,st,op1,a,vk1,i,f,b,k,z,D,H,c1,rfl,a2,hR,a1,bv,E⟩:=hrel
  replace E:=hid E
  replace hR:=hid hR
  generalize wr=ax at*
  cases r with
  |none=>
   obtain rfl:R=(.mk ⟨op1,f,b,a,vk1,i,k⟩ z,st):=hR.out
   go_wp2_with (first|(refine ldE rfl rfl _ rfl (E.get (j:=0) rfl) rfl ?_)|(refine stE rfl rfl rfl _ (eC op1 f b a vk1 i k D H c1) rfl rfl (E.get (j:=1) rfl) rfl rfl (by kernel_rfl) ?_))
   refine bodyPost_ret (v:= .agg ((eC op1 f b a vk1 i k D H c1)).toArray) (results_cell_row (p:=4) (ty:=37) rfl _ _ g0 37 _ _ _ (by rfl) ((E.row (j:=1) rfl (eC op1 f b a vk1 i k D H c1)).get (j:=1) rfl) underlying37 rfl (by kernel_rfl)) rfl ?_
   have F:=E.row (j:=1) rfl (eC op1 f b a vk1 i k D H c1)
   exact⟨D,H,c1,rfl,F.ps,F.chg,F.keep⟩
  |some o=>
   obtain⟨t,ht⟩:=a2 o rfl
   obtain⟨U,J⟩:=an _ ht
   simp only at U J
   have hd:(o !=0)=true:=by simpa using U
   have bw:=a1 (by simp)
   simp only[Option.getD_some]
   have bm:=E.ps.le
   have X:Hid (posO P ax=L.length-st.r.length):=E.ps.posO
   go_upto_region 15 with fail
   obtain⟨b0,b1,b2,b3,b4,b5,b6,b7⟩:=aL (E.get (j:=0) rfl)
   replace E:=hid (E.ext (Ext.refl ax).drew)
   obtain⟨op2,a3,a8,a7,a6,a5,a9,a4,W,ag,hc⟩:=hr.at_ E.ps (by omega)
   have y:=Y st
   rw[ag]at y
   try simp only at y
   go_region_law (first
    |(go_simp;go_at_call 80;(with_reducible refine(bI _ _ _ _ _).mono ?_);rintro _ bx ⟨rfl,hx⟩;replace E:=hid (E.op2 (fun u h=>h.1) (fun u h=>h.2) J hx);obtain⟨z0,z1,z2,z3,z4,z5,z6,z7⟩:=aL (E.get (j:=0) rfl);obtain⟨y0,y1,y2,y3,y4,y5,y6,y7⟩:=jU (E.get (j:=0) rfl))
    |(go_simp;go_at_call 41;(with_reducible refine hc.mono ?_);rintro _ ba ⟨A2,k2,c2,rfl,B,C,O⟩;replace E:=hid (E.calls B C O);clear B C O;obtain⟨d0,d1,d2,d3,d4,d5,d6,d7⟩:=aL (E.get (j:=0) rfl)))
   all_goals
    replace E:=hid (E.stc (j:=0) rfl (opC o (some ⟨ba.heap.size,0,none⟩) 2 2) rfl)
    simp only[opC,sts]at E
    go_wp2_with fail
    refine(I _ _ E.ps).mono ?_
    rintro _ bd ⟨rfl,B,C⟩
    replace E:=hid (E.call B C)
    clear B C
    have aS:Hid (posO P bd=L.length- (firstP ops W).2.r.length):=E.ps.posO
    obtain⟨n,rfl⟩:∃x,n=x+1:=⟨n-1,by omega⟩
    have a0:R=chR el ops n (opE o [.mk ⟨op1,f,b,a,vk1,i,k⟩ z,.mk ⟨op2,a6,a5,a3,a8,a7,a9⟩ a4]) (firstP ops W).1 (firstP ops W).2:=by rw[hR.out,chR,ag,vE]
    have m:=gj ops W
    have G:=co ops W
    have bn:=E.ps.le
    have bo:=hL.len
    generalize (firstP ops W).1=r at*
    generalize (firstP ops W).2=t3 at*
    go_wp2_with fail
    refine⟨⟨n,r,t3,o,0,0,0,⟨#[]⟩,⟨#[]⟩,⟨#[]⟩,_,_,2,2,rfl,fun o U=>G o U,a0,fun Q=>by have:=m.2 (by cases r<;>simp at Q ⊢);omega,by have:=m.1;omega,E⟩,?_⟩
    rw[aS.out,X.out]
    rw[if_neg (show¬intOf (i4 o)=0 from U)]
    cases r with
    |none=>
     rw[if_pos (show intOf (i4 ((none:Option Int).getD 0))=0 from rfl)]
     have:=m.1
     omega
    |some q=>
     have:=m.2 rfl
     split<;>omega
theorem runa_any (H:TkL L) {K:Nat} {p:M Ex} (J:RX P A c L w0 82 #[.pointer (some ⟨P,0,none⟩)] K p):RX P A c L w0 41 #[.pointer (some ⟨P,0,none⟩),i4 7] K (unaP p):=fun w s I X=>by
 have D:Hid (unaP p s=if isS dJ s then (opE 3 [(p s.next).1],(p s.next).2)else p s):=rfl
 generalize unaP p s=R at*
 go_enter func41,ntmps41
 go_upto_region 1 with fail
 generalize O:World.alloc _ _=w1
 have E:=hid (rK I O)
 obtain⟨G,B⟩:∃g,w.heap.size=g:=⟨_,rfl⟩
 rw[B]at E ⊢
 clear O I B
 go_wp2_with fail
 cases l:isS dJ s
 rotate_left
 ·refine(jn E.ps H l).mono ?_
  rintro _ W ⟨rfl,k,m⟩
  replace E:=hid (E.call k m)
  clear k m
  have Q:=au l
  obtain⟨op1,a,vk1,f,e,b,i,r,s1,n,C⟩:=J.at_ E.ps (by omega)
  obtain rfl:R=(opE 3 [.mk ⟨op1,e,b,a,vk1,f,i⟩ r],s1):=by rw[D.out,if_pos l,n]
  go_wp2_with (first|(go_at_call 82;(with_reducible refine C.mono ?_);rintro _ y ⟨t,x,c1,rfl,k,m,z⟩;replace E:=hid (E.calls k m z);clear k m z)|(go_at_call 80;(with_reducible refine(bI _ _ _ _ _).mono ?_);rintro _ Y ⟨rfl,U⟩;replace E:=hid (E.op1 (o:=3) (fun u h=>h.2) (by unfold I64;omega) U))|(refine stE rfl rfl rfl _ (opC 3 (some ⟨y.heap.size,0,none⟩) 1 1) rfl rfl (E.get (j:=0) rfl) rfl rfl (by kernel_rfl) ?_))
  refine bodyPost_ret (v:= .agg ((opC 3 (some ⟨y.heap.size,0,none⟩) 1 1)).toArray) (results_cell_row (p:=4) (ty:=37) rfl _ _ G 37 _ _ _ (by rfl) ((E.row (j:=0) rfl (opC 3 (some ⟨y.heap.size,0,none⟩) 1 1)).get (j:=0) rfl) underlying37 rfl (by kernel_rfl)) rfl ?_
  have F:=E.row (j:=0) rfl (opC 3 (some ⟨y.heap.size,0,none⟩) 1 1)
  exact⟨some ⟨y.heap.size,0,none⟩,1,1,rfl,F.ps,F.chg,F.keep⟩
 refine(gZ E.ps H l).mono ?_
 rintro _ W ⟨rfl,k,m⟩
 replace E:=hid (E.call k m)
 clear k m
 obtain⟨op1,a,vk1,f,e,b,i,r,s1,n,C⟩:=J.at_ E.ps (by omega)
 obtain rfl:R=(.mk ⟨op1,e,b,a,vk1,f,i⟩ r,s1):=by rw[D.out,if_neg (by rw[l];simp),n]
 go_wp2_with (first|(go_at_call 82;(with_reducible refine C.mono ?_);rintro _ y ⟨t,x,c1,rfl,k,m,z⟩;replace E:=hid (E.calls k m z);clear k m z)|(refine stE rfl rfl rfl _ (eC op1 e b a vk1 f i t x c1) rfl rfl (E.get (j:=0) rfl) rfl rfl (by kernel_rfl) ?_))
 refine bodyPost_ret (v:= .agg ((eC op1 e b a vk1 f i t x c1)).toArray) (results_cell_row (p:=4) (ty:=37) rfl _ _ G 37 _ _ _ (by rfl) ((E.row (j:=0) rfl (eC op1 e b a vk1 f i t x c1)).get (j:=0) rfl) underlying37 rfl (by kernel_rfl)) rfl ?_
 have F:=E.row (j:=0) rfl (eC op1 e b a vk1 f i t x c1)
 exact⟨t,x,c1,rfl,F.ps,F.chg,F.keep.imp fun u h=>h.2⟩
theorem notP_eq (p:M Ex) (b:Fwd p) (s:Ps):notP p s=if isS kNOT s then (opE 20 [(notP p s.next).1],(notP p s.next).2)else testP p s:=by
 unfold notP
 by_cases hi:isS kNOT s=true
 ·have a:=au hi
  rw[←a,notGo,if_pos hi]
 ·rw[if_neg hi]
  cases s.r.length with
  |zero=>rfl
  |succ n=>rw[notGo,if_neg hi]
theorem vF (D:TkL L) {K:Nat} {p:M Ex} (J:Fwd p) (Q:RX P A c L w0 81 #[.pointer (some ⟨P,0,none⟩)] K (testP p)):∀k,k≤K→RX P A c L w0 41 #[.pointer (some ⟨P,0,none⟩),i4 3] k (notP p)
 |0,_=>fun _ _ _ h=>absurd h (Nat.not_lt_zero _)
 |k+1,hk=>fun w s O hn=>by
  have X:=vF D J Q k (by omega)
  have H:=hid (notP_eq p J s)
  generalize notP p s=R at*
  go_enter func41,ntmps41
  go_upto_region 1 with fail
  generalize U:World.alloc _ _=w1
  have E:=hid (rK O U)
  obtain⟨I,C⟩:∃g,w.heap.size=g:=⟨_,rfl⟩
  rw[C]at E ⊢
  clear U O C
  go_wp2_with fail
  cases m:isS kNOT s
  rotate_left
  ·refine(jn E.ps D m).mono ?_
   rintro _ Z ⟨rfl,l,n⟩
   replace E:=hid (E.call l n)
   clear l n
   have W:=au m
   obtain⟨op1,a,vk1,f,e,b,i,t,s1,r,G⟩:=X.at_ E.ps (by omega)
   obtain rfl:R=(opE 20 [.mk ⟨op1,e,b,a,vk1,f,i⟩ t],s1):=by rw[H.out,if_pos m,r]
   go_wp2_with (first|(go_at_call 41;(with_reducible refine G.mono ?_);rintro _ z ⟨x,y,c1,rfl,l,n,B⟩;replace E:=hid (E.calls l n B);clear l n B)|(go_at_call 80;(with_reducible refine(bI _ _ _ _ _).mono ?_);rintro _ w4 ⟨rfl,Y⟩;replace E:=hid (E.op1 (o:=20) (fun u h=>h.2) (by unfold I64;omega) Y))|(refine stE rfl rfl rfl _ (opC 20 (some ⟨z.heap.size,0,none⟩) 1 1) rfl rfl (E.get (j:=0) rfl) rfl rfl (by kernel_rfl) ?_))
   refine bodyPost_ret (v:= .agg ((opC 20 (some ⟨z.heap.size,0,none⟩) 1 1)).toArray) (results_cell_row (p:=4) (ty:=37) rfl _ _ I 37 _ _ _ (by rfl) ((E.row (j:=0) rfl (opC 20 (some ⟨z.heap.size,0,none⟩) 1 1)).get (j:=0) rfl) underlying37 rfl (by kernel_rfl)) rfl ?_
   have F:=E.row (j:=0) rfl (opC 20 (some ⟨z.heap.size,0,none⟩) 1 1)
   exact⟨some ⟨z.heap.size,0,none⟩,1,1,rfl,F.ps,F.chg,F.keep⟩
  refine(gZ E.ps D m).mono ?_
  rintro _ Z ⟨rfl,l,n⟩
  replace E:=hid (E.call l n)
  clear l n
  obtain⟨op1,a,vk1,f,e,b,i,t,s1,r,G⟩:=Q.at_ E.ps (by omega)
  obtain rfl:R=(.mk ⟨op1,e,b,a,vk1,f,i⟩ t,s1):=by rw[H.out,if_neg (by rw[m];simp),r]
  go_wp2_with (first|(go_at_call 81;(with_reducible refine G.mono ?_);rintro _ z ⟨x,y,c1,rfl,l,n,B⟩;replace E:=hid (E.calls l n B);clear l n B)|(refine stE rfl rfl rfl _ (eC op1 e b a vk1 f i x y c1) rfl rfl (E.get (j:=0) rfl) rfl rfl (by kernel_rfl) ?_))
  refine bodyPost_ret (v:= .agg ((eC op1 e b a vk1 f i x y c1)).toArray) (results_cell_row (p:=4) (ty:=37) rfl _ _ I 37 _ _ _ (by rfl) ((E.row (j:=0) rfl (eC op1 e b a vk1 f i x y c1)).get (j:=0) rfl) underlying37 rfl (by kernel_rfl)) rfl ?_
  have F:=E.row (j:=0) rfl (eC op1 e b a vk1 f i x y c1)
  exact⟨x,y,c1,rfl,F.ps,F.chg,F.keep.imp fun u h=>h.2⟩
end
end
section
open Lx (Tk)
theorem cmp_at:∀k:Nat,k<6→∀x:BA×Int,opsCmp[k]? =some x→x.2=10+(k:Int):=by
 intro k b x a
 have:k=0∨k=1∨k=2∨k=3∨k=4∨k=5:=by omega
 rcases this with rfl|rfl|rfl|rfl|rfl|rfl<;> (cases a;rfl)
theorem sgn_at {k:Nat} {x:BA×Int} (h:opsCmp[k]? =some x):([.string ⟨#[61]⟩,.string ⟨#[60,62]⟩,.string ⟨#[60]⟩,.string ⟨#[60,61]⟩,.string ⟨#[62]⟩,.string ⟨#[62,61]⟩]:LV)[k]? =some (.string x.1):=by
 have e:([.string ⟨#[61]⟩,.string ⟨#[60,62]⟩,.string ⟨#[60]⟩,.string ⟨#[60,61]⟩,.string ⟨#[62]⟩,.string ⟨#[62,61]⟩]:LV)=opsCmp.map fun x=> .string x.1:=rfl
 rw[e,getElem?_map,h]
 rfl
theorem i64_cmp {k:Nat} (h:k<6):I64 (10+(k:Int)):=by unfold I64;omega
theorem RX.all {P:Nat} {A:OA} {c:Nat} {L:List Tk} {w0:World} {F:Nat} {x:Array Value} {K:Nat} {m:M Ex} {s:Ps} (h:RX P A c L w0 F x K m) (f:s.r.length<K):
  ∃(op ix vk vi:Int) (tb nm vt:BA) (ks:List Ex) (s1:Ps),m s=(.mk ⟨op,tb,nm,ix,vk,vi,vt⟩ ks,s1)∧∀w,PsAt 77 P A c L w0 w s→Cl F x w fun e w'=> ∃a b c1,e= .returned (.agg #[i4 op,.string tb,.string nm,i4 ix,i4 vk,i4 vi,.string vt,.slice a b c1])∧PsAt 77 P A c L w0 w' s1∧Chg P w w'∧
   Stb (w.heap.size≤·) w' (fun u=>ExV u (.mk ⟨op,tb,nm,ix,vk,vi,vt⟩ ks) a b c1):=by
 have H:=fun w g=>h w s g f
 generalize m s=R at*
 obtain⟨⟨⟨op,tb,nm,ix,vk,vi,vt⟩,ks⟩,s1⟩:=R
 exact⟨op,ix,vk,vi,tb,nm,vt,ks,s1,rfl,H⟩
theorem En.op2a {T P c:Nat} {A:OA} {L:List Tk} {w0 wi w w':World} {s:Ps} {V:List Vb} {Φ:World→Prop} {a b:Ex} {B C:OA} {k c' e c2 f t:Nat} {cs:LV} {o:Int} (h:En T P A c L w0 wi w s V Φ) (g:∀u,Φ u→ExV u a B k c') (i:∀u,Φ u→ExV u b C e c2) (l:I64 o) (m:Ext ((w.alloc (.cells (a.d.cells B k c'++b.d.cells C e c2).toArray f)).alloc (.cells cs.toArray t)) w'):
  En T P A c L w0 wi w' s (bk (w.heap.size+1) t cs::V) (fun u=>Φ u∧ExV u (opE o [a,b]) (some ⟨w.heap.size,0,none⟩) 2 2):=by
 have j:=((h.op2' g i l (Ext.refl _)).alloc t cs).ext m
 rwa [show(w.alloc (.cells (a.d.cells B k c'++b.d.cells C e c2).toArray f)).heap.size=w.heap.size+1 by simp]at j
theorem En.op2b {T P c:Nat} {A:OA} {L:List Tk} {w0 wi w w':World} {s:Ps} {V:List Vb} {Φ:World→Prop} {a b:Ex} {B C:OA} {k c' e c2 f t:Nat} {cs:LV} {o:Int} (h:En T P A c L w0 wi w s V Φ) (g:∀u,Φ u→ExV u a B k c') (i:∀u,Φ u→ExV u b C e c2) (l:I64 o) (m:Ext ((w.alloc (.cells cs.toArray t)).alloc (.cells (a.d.cells B k c'++b.d.cells C e c2).toArray f)) w'):
  En T P A c L w0 wi w' s (bk w.heap.size t cs::V) (fun u=>Φ u∧ExV u (opE o [a,b]) (some ⟨w.heap.size+1,0,none⟩) 2 2):=by
 have j:=(h.alloc t cs).op2' g i l m
 rwa [show(w.alloc (.cells cs.toArray t)).heap.size=w.heap.size+1 by simp]at j
section
variable {P c:Nat} {A:OA} {L:List Tk} {w0:World}
theorem rtest_any (hL:TkL L) {K:Nat} {C:M Ex} (hf:Fwd C) (hr:RX P A c L w0 41 #[.pointer (some ⟨P,0,none⟩),i4 5] K C):RX P A c L w0 81 #[.pointer (some ⟨P,0,none⟩)] K (fun s=>tailP C (C s).1 (C s).2):=fun w s hp hn=>by
 show Cl 81 #[.pointer (some ⟨P,0,none⟩)] w fun e w'=> ∃A1 k1 c1,e= .returned ((tailP C (C s).1 (C s).2).1.d.val A1 k1 c1)∧PsAt 77 P A c L w0 w' (tailP C (C s).1 (C s).2).2∧Chg P w w'∧Stb (w.heap.size≤·) w' (fun u=>ExV u (tailP C (C s).1 (C s).2).1 A1 k1 c1)
 obtain⟨R,HM⟩:∃R,R=tailP C (C s).1 (C s).2:=⟨_,rfl⟩
 rw[←HM]
 replace HM:=hid HM
 have el:=hf s
 go_enter func81,ntmps81
 go_upto_region 1 with fail
 generalize hw:World.alloc _ _=w1
 have E:=hid (rK hp hw)
 obtain⟨g0,es⟩:∃g,w.heap.size=g:=⟨_,rfl⟩
 rw[es]at E ⊢
 clear hw hp es
 obtain⟨op1,f,vk1,y,n,l,z,W,s1,et,hc⟩:=hr.at_ E.ps (hn)
 go_wp2_with fail
 refine hc.mono ?_
 rintro _ w2 ⟨A1,k1,c1,rfl,a,b,h3⟩
 replace E:=hid (E.calls a b h3)
 clear a b h3 hc
 rw[et]at HM
 rw[et]at el
 try simp only at el
 go_upto_region 2 with fail
 generalize hw:World.alloc _ _=w3
 replace E:=hid (dq E hw)
 obtain⟨g1,an⟩:∃g,w2.heap.size=g:=⟨_,rfl⟩
 rw[an]at E ⊢
 clear hw an
 go_upto_region 3 with fail
 generalize hw:World.alloc _ _=w4
 replace E:=hid (dq E hw)
 obtain⟨g2,an⟩:∃g,w3.heap.size=g:=⟨_,rfl⟩
 rw[an]at E ⊢
 clear hw an
 replace E:=hid (E.imp (fun u h=>h.2))
 go_wp2_with fail
 go_loopw [5] (fun iv wr=> ∃(k:Nat),k≤6∧iv= i4 k∧firstP opsCmp s1=firstP (opsCmp.drop k) s1∧En 77 P A c L w0 w wr s1 [bk g2 9 [.string ⟨#[61]⟩,.string ⟨#[60,62]⟩,.string ⟨#[60]⟩,.string ⟨#[60,61]⟩,.string ⟨#[62]⟩,.string ⟨#[62,61]⟩],bk g1 37 (eC op1 n l f vk1 y z A1 k1 c1),bk g0 37 zC] (fun u=>ExV u (.mk ⟨op1,n,l,f,vk1,y,z⟩ W) A1 k1 c1)) (fun iv _=>6- (intOf iv).toNat)
 case atStart=>exact⟨0,by omega,rfl,rfl,E⟩
 case round=>
  clear E
  obtain⟨k,hk,rfl,ag,E⟩:=hrel
  replace E:=hid E
  generalize wr=hF at*
  by_cases cc:k<6
  ·obtain⟨⟨t,o⟩,X⟩:∃x,opsCmp[k]? =some x:=⟨_,getElem?_eq_getElem (by show k<6;exact cc)⟩
   obtain rfl:=cmp_at k cc _ X
   have d9:opsCmp.drop k=(t,10+(k:Int))::opsCmp.drop (k+1):=by
    obtain⟨a,b⟩:=List.getElem?_eq_some_iff.1 X
    rw[drop_eq_getElem_cons a,b]
   rw[d9,firstP]at ag
   have sk:=(E.get (j:=0) rfl).cell_some (sgn_at X)
   have i0:(0:Int)≤(k:Int):=by omega
   have i1:(k:Int)<6:=by omega
   clear d9
   replace ag:=hid ag
   go_wp2_with fail
   cases hb:isS t s1
   rotate_left
   ·refine(jn E.ps hL hb).mono ?_
    rintro _ cv ⟨rfl,a,b⟩
    replace E:=hid (E.call a b)
    clear a b
    have fr:firstP opsCmp s1=(some (10+(k:Int)),s1.next):=by rw[ag.out,if_pos hb]
    have cH:=au hb
    clear sk
    have hv:IntKind.i64.wrap (10+(k:Int))=10+(k:Int):=IntWalk.i64_in _ (by omega)
    go_upto_region 7 with fail
    obtain⟨b0,b1,b2,b3,b4,b5,b6,b7⟩:=aL (E.get (j:=1) rfl)
    replace E:=hid (E.ext (Ext.refl cv).drew)
    obtain⟨op2,cd,cp,cl,ck,cj,ct,ci,gv,ad,hc⟩:=hr.at_ E.ps (by omega)
    obtain rfl:R=(opE (10+(k:Int)) [.mk ⟨op1,n,l,f,vk1,y,z⟩ W,.mk ⟨op2,ck,cj,cd,cp,cl,ct⟩ ci],gv):=by
     rw[HM.out,tailP,fr]
     simp only
     rw[ad]
    go_region_law (first
     |(go_simp;go_at_call 80;(with_reducible refine(bI _ _ _ _ _).mono ?_);rintro _ cz ⟨rfl,X⟩;replace E:=hid (E.op2 (fun u h=>h.1) (fun u h=>h.2) (i64_cmp cc) X);obtain⟨z0,z1,z2,z3,z4,z5,z6,z7⟩:=aL (E.get (j:=2) rfl);obtain⟨y0,y1,y2,y3,y4,y5,y6,y7⟩:=jU (E.get (j:=2) rfl))
     |(go_simp;go_at_call 41;(with_reducible refine hc.mono ?_);rintro _ Z ⟨A2,k2,c2,rfl,a,b,h3⟩;replace E:=hid (E.calls a b h3);clear a b h3;obtain⟨d0,d1,d2,d3,d4,d5,d6,d7⟩:=aL (E.get (j:=1) rfl)))
    all_goals
     replace E:=hid (E.stc (j:=2) rfl (opC (10+(k:Int)) (some ⟨Z.heap.size,0,none⟩) 2 2) rfl)
     simp only[opC,sts]at E
     go_wp2_with fail
     refine bodyPost_ret (v:= .agg ((opC (10+(k:Int)) (some ⟨Z.heap.size,0,none⟩) 2 2)).toArray) (results_cell_row (p:=2) (ty:=37) rfl _ _ g0 37 _ _ _ (by rfl) (E.get (j:=2) rfl) underlying37 rfl (by kernel_rfl)) rfl ?_
     exact⟨some ⟨Z.heap.size,0,none⟩,2,2,rfl,E.ps,E.chg,E.keep⟩
   refine(gZ E.ps hL hb).mono ?_
   rintro _ cv ⟨rfl,a,b⟩
   replace E:=hid (E.call a b)
   clear a b
   have aS:firstP opsCmp s1=firstP (opsCmp.drop (k+1)) s1:=by rw[ag.out,if_neg (by rw[hb];simp)]
   clear sk ag
   go_wp2_with fail
   exact⟨⟨k+1,by omega,by go_num,aS,E⟩,by simp[intOf];omega⟩
  ·obtain rfl:k=6:=by omega
   have ee:firstP opsCmp s1=(none,s1):=ag
   have hm:R=if isS kIS s1 then (fK (isS kNOT s1.next) (opE 17 [.mk ⟨op1,n,l,f,vk1,y,z⟩ W]),needP kNULL (optP kNOT s1.next))
  else if isS oo (optP kNOT s1)then (fK (isS kNOT s1) (opE 16 [.mk ⟨op1,n,l,f,vk1,y,z⟩ W,dF 2 0 (takP 4 (optP kNOT s1).next).1]),(takP 4 (optP kNOT s1).next).2)
  else if isS gB (optP kNOT s1)then
   (fK (isS kNOT s1) (opE 18 [opE 15 [.mk ⟨op1,n,l,f,vk1,y,z⟩ W,(C (optP kNOT s1).next).1],opE 13 [.mk ⟨op1,n,l,f,vk1,y,z⟩ W,(C (needP kAND (C (optP kNOT s1).next).2)).1]]),(C (needP kAND (C (optP kNOT s1).next).2)).2)
  else if isS kIN (optP kNOT s1)then
   (fK (isS kNOT s1) (inP C (.mk ⟨op1,n,l,f,vk1,y,z⟩ W) (needP yLp (optP kNOT s1).next)).1,needP yRp (inP C (.mk ⟨op1,n,l,f,vk1,y,z⟩ W) (needP yLp (optP kNOT s1).next)).2)
  else (.mk ⟨op1,n,l,f,vk1,y,z⟩ W,if isS kNOT s1 then (optP kNOT s1).fail else s1):=by
    rw[HM.out,tailP,ee]
   clear HM ag ee cc hk
   replace hm:=hid hm
   go_wp2_with fail
   cases cb:isS kIS s1
   rotate_left
   ·refine(jn E.ps hL cb).mono ?_
    rintro _ cv ⟨rfl,a,b⟩
    replace E:=hid (E.call a b)
    clear a b
    obtain⟨N,hN⟩:∃x,isS kNOT s1.next=x:=⟨_,rfl⟩
    go_wp2_with fail
    refine(fx E.ps hL kNOT).mono ?_
    rintro _ ho ⟨rfl,a,b⟩
    replace E:=hid (E.call a b)
    clear a b
    rw[hN]
    go_wp2_with fail
    refine(eB E.ps hL kNULL).mono ?_
    rintro _ cw ⟨rfl,a,b⟩
    replace E:=hid (E.call a b)
    clear a b
    go_wp2_with (first|(refine ldE rfl rfl _ rfl (E.get (j:=1) rfl) rfl ?_)|(go_at_call 80;(with_reducible refine(bI _ _ _ _ _).mono ?_);rintro _ e9 ⟨rfl,X⟩;replace E:=hid (E.op1 (o:=17) (fun u h=>h) (by unfold I64;omega) X))|(go_at_call 156;have H:=mE (q:=N) E.far E.stb;(with_reducible refine H.mono ?_);rintro _ cx ⟨I,D,Q,O,J,G,U,ac,A9,k9,c9,Y,rfl,X,hs⟩;replace E:=hid (E.stay X hs))|(refine stE rfl rfl rfl _ (eC I J G D Q O U A9 k9 c9) rfl rfl (E.get (j:=2) rfl) rfl rfl (by kernel_rfl) ?_))
    obtain rfl:R=(.mk ⟨I,J,G,D,Q,O,U⟩ ac,needP kNULL (optP kNOT s1.next)):=by rw[hm.out,if_pos cb,hN,←Y];rfl
    refine bodyPost_ret (v:= .agg ((eC I J G D Q O U A9 k9 c9)).toArray) (results_cell_row (p:=2) (ty:=37) rfl _ _ g0 37 _ _ _ (by rfl) ((E.row (j:=2) rfl (eC I J G D Q O U A9 k9 c9)).get (j:=2) rfl) underlying37 rfl (by kernel_rfl)) rfl ?_
    have F:=E.row (j:=2) rfl (eC I J G D Q O U A9 k9 c9)
    exact⟨A9,k9,c9,rfl,F.ps,F.chg,F.keep⟩
   refine(gZ E.ps hL cb).mono ?_
   rintro _ cv ⟨rfl,a,b⟩
   replace E:=hid (E.call a b)
   clear a b
   have ad:=hm.out
   rw[if_neg (by rw[cb];simp)]at ad
   clear hm
   obtain⟨N,hN⟩:∃x,isS kNOT s1=x:=⟨_,rfl⟩
   go_wp2_with fail
   refine(fx E.ps hL kNOT).mono ?_
   rintro _ ho ⟨rfl,a,b⟩
   replace E:=hid (E.call a b)
   clear a b
   rw[hN]
   rw[hN]at ad
   replace E:Hid (En _ _ _ _ _ _ _ _ (optP kNOT s1) _ _):=E
   have fA:=opt_len kNOT s1
   have c0:optP kNOT s1=if N then s1.next else s1:=by rw[←hN];rfl
   obtain⟨s2,eX⟩:∃x,optP kNOT s1=x:=⟨_,rfl⟩
   rw[eX]at ad E fA c0
   replace hm:=hid ad
   clear ad eX
   go_wp2_with fail
   cases bd:isS oo s2
   rotate_left
   ·refine(jn E.ps hL bd).mono ?_
    rintro _ cw ⟨rfl,a,b⟩
    replace E:=hid (E.call a b)
    clear a b
    go_upto_region 14 with fail
    have hz:=(E.ext (Ext.refl cw).drew).ps.tak_size hL 4
    generalize hX:(takP 4 s2.next).1=T at*
    generalize f9:(takP 4 s2.next).2=s3 at*
    obtain⟨b0,b1,b2,b3,b4,b5,b6,b7⟩:=aL (E.get (j:=1) rfl)
    replace E:=hid (E.ext (Ext.refl cw).drew)
    go_region_law (first
     |(go_simp;go_at_call 156;have H:=mE (q:=N) E.far E.stb;(with_reducible refine H.mono ?_);rintro _ fe ⟨I,D,Q,O,J,G,U,ac,A9,k9,c9,Y,rfl,X,hs⟩;replace E:=hid (E.stay X hs);obtain⟨z0,z1,z2,z3,z4,z5,z6,z7⟩:=aL (E.get (j:=2) rfl);obtain⟨y0,y1,y2,y3,y4,y5,y6,y7⟩:=jU (E.get (j:=2) rfl))
     |(go_simp;go_at_call 80;(with_reducible refine(bI _ _ _ _ _).mono ?_);rintro _ cz ⟨rfl,X⟩;replace E:=hid (E.op2 (o:=16) (fun u h=>h) (fun u h=>th (k:=2) (i:=0) (t:=T) lb cy (by omega)) (by unfold I64;omega) X))
     |(go_simp;go_at_call 135;(with_reducible refine(qr E.out.ps hL).mono ?_);rintro _ Z ⟨rfl,a,b⟩;rw[hX];rw[f9]at a;replace E:=hid (E.call a b);clear a b;obtain⟨d0,d1,d2,d3,d4,d5,d6,d7⟩:=aL (E.get (j:=1) rfl)))
    all_goals
     obtain rfl:R=(.mk ⟨I,J,G,D,Q,O,U⟩ ac,s3):=by rw[hm.out,if_pos bd,←Y];rfl
     replace E:=hid (E.stc (j:=2) rfl (eC I J G D Q O U A9 k9 c9) rfl)
     simp only[opC,sts]at E
     go_wp2_with fail
     refine bodyPost_ret (v:= .agg ((eC I J G D Q O U A9 k9 c9)).toArray) (results_cell_row (p:=2) (ty:=37) rfl _ _ g0 37 _ _ _ (by rfl) (E.get (j:=2) rfl) underlying37 rfl (by kernel_rfl)) rfl ?_
     exact⟨A9,k9,c9,rfl,E.ps,E.chg,E.keep⟩
   refine(gZ E.ps hL bd).mono ?_
   rintro _ cw ⟨rfl,a,b⟩
   replace E:=hid (E.call a b)
   clear a b
   go_wp2_with fail
   cases ba:isS gB s2
   rotate_left
   ·refine(jn E.ps hL ba).mono ?_
    rintro _ e9 ⟨rfl,a,b⟩
    replace E:=hid (E.call a b)
    clear a b
    have cH:=au ba
    obtain⟨df,c5,dw,ds,dp,c8,dx,ge,s7,eN,hc⟩:=hr.at_ E.ps (by omega)
    go_wp2_with fail
    refine hc.mono ?_
    rintro _ cx ⟨A7,k7,c7,rfl,a,b,h3⟩
    replace E:=hid (E.calls a b h3)
    clear a b h3 hc
    have aS:=hf s2.next
    rw[eN]at aS
    try simp only at aS
    go_upto_region 17 with fail
    generalize hw:World.alloc _ _=a8
    replace E:=hid (dq E hw)
    obtain⟨g3,an⟩:∃g,cx.heap.size=g:=⟨_,rfl⟩
    rw[an]at E ⊢
    clear hw an
    go_wp2_with fail
    refine(eB E.ps hL kAND).mono ?_
    rintro _ fa ⟨rfl,a,b⟩
    replace E:=hid (E.call a b)
    clear a b
    have eU:=aA kAND s7
    go_upto_region 18 with fail
    obtain⟨⟨⟨⟨gs,g8,gp,ga,hh,he,hj⟩,gd⟩,s3⟩,eA⟩:∃x,C (needP kAND s7)=x:=⟨_,rfl⟩
    go_cut [] from 62 to 74 (fun wx=> ∃(I D Q O:Int) (J G U:BA) (ac:List Ex) (A9:OA) (k9 c9:Nat),fK N (opE 18 [opE 15 [.mk ⟨op1,n,l,f,vk1,y,z⟩ W,.mk ⟨df,dp,c8,c5,dw,ds,dx⟩ ge],opE 13 [.mk ⟨op1,n,l,f,vk1,y,z⟩ W,.mk ⟨gs,g8,gp,ga,hh,he,hj⟩ gd]])= .mk ⟨I,J,G,D,Q,O,U⟩ ac∧En 77 P A c L w0 w wx s3 [bk g3 37 (eC df dp c8 c5 dw ds dx A7 k7 c7),bk g2 9 [.string ⟨#[61]⟩,.string ⟨#[60,62]⟩,.string ⟨#[60]⟩,.string ⟨#[60,61]⟩,.string ⟨#[62]⟩,.string ⟨#[62,61]⟩],bk g1 37 (eC op1 n l f vk1 y z A1 k1 c1),bk g0 37 (eC I J G D Q O U A9 k9 c9)] (fun u=>ExV u (.mk ⟨I,J,G,D,Q,O,U⟩ ac) A9 k9 c9))
    case first=>
     obtain⟨b0,b1,b2,b3,b4,b5,b6,b7⟩:=aL (E.get (j:=2) rfl)
     obtain⟨q0,q1,q2,q3,q4,q5,q6,q7⟩:=aL (E.get (j:=0) rfl)
     obtain⟨a0,a1,a2,a3,a4,a5,a6,a7⟩:=aL ((E.ext (x10 fa (.cells #[i4 op1,.string n,.string l,i4 f,i4 vk1,i4 y,.string z,.slice A1 k1 c1,i4 df,.string dp,.string c8,i4 c5,i4 dw,i4 ds,.string dx,.slice A7 k7 c7] 37))).get (j:=2) rfl)
     replace E:=hid (E.ext (Ext.refl fa).drew)
     go_region_law (first
      |(go_simp;go_at_call 156;have H:=mE (q:=N) E.far (E.stb.imp fun u h=>h.2);(with_reducible refine H.mono ?_);rintro _ hI ⟨I,D,Q,O,J,G,U,ac,A9,k9,c9,Y,rfl,X,hs⟩;replace E:=hid (E.stay X hs);obtain⟨z0,z1,z2,z3,z4,z5,z6,z7⟩:=aL (E.get (j:=3) rfl);obtain⟨y0,y1,y2,y3,y4,y5,y6,y7⟩:=jU (E.get (j:=3) rfl))
      |(go_simp;go_at_call 80;(with_reducible refine(bI 15 _ _ _ _).mono ?_);rintro _ Z ⟨rfl,X⟩;replace E:=hid (E.op2' (o:=15) (fun u h=>h.1) (fun u h=>h.2) (by unfold I64;omega) X);obtain⟨d0,d1,d2,d3,d4,d5,d6,d7⟩:=aL (E.get (j:=2) rfl))
      |(go_simp;go_at_call 80;(with_reducible refine(bI 13 _ _ _ _).mono ?_);rintro _ fe ⟨rfl,X⟩;replace E:=hid (E.op2' (o:=13) (fun u h=>h.1.1.1) (fun u h=>h.2) (by unfold I64;omega) X))
      |(go_simp;go_at_call 80;(with_reducible refine(bI 18 _ _ _ _).mono ?_);rintro _ hG ⟨rfl,X⟩;replace E:=hid (E.op2' (o:=18) (fun u h=>h.1.1.2) (fun u h=>h.2) (by unfold I64;omega) X))
      |(go_simp;go_at_call 41;obtain⟨bm,be,bv,bo,bn,bf,bw,b9,s4,fw,hc⟩:=hr.at_ E.ps (by omega);cases eA.symm.trans fw;(with_reducible refine hc.mono ?_);rintro _ cz ⟨A3,k3,c3,rfl,a,b,h3⟩;replace E:=hid (E.calls a b h3);clear a b h3;obtain⟨f0,f1,f2,f3,f4,f5,f6,f7⟩:=aL (E.get (j:=2) rfl)))
     all_goals
      replace E:=hid (E.stc (j:=3) rfl (eC I J G D Q O U A9 k9 c9) rfl)
      simp only[sts]at E
      go_wp2_with fail
      go_meet
      exact⟨_,_,_,_,_,_,_,_,_,_,_,Y,E⟩
    case rest=>
     obtain⟨I,D,Q,O,J,G,U,ac,A9,k9,c9,Y,E⟩:=hcut
     replace E:=hid E
     generalize wc=hK at*
     obtain rfl:R=(.mk ⟨I,J,G,D,Q,O,U⟩ ac,s3):=by rw[hm.out,if_neg (by rw[bd];simp),if_pos ba,eN,eA,←Y]
     go_wp2_with fail
     refine bodyPost_ret (v:= .agg ((eC I J G D Q O U A9 k9 c9)).toArray) (results_cell_row (p:=2) (ty:=37) rfl _ _ g0 37 _ _ _ (by rfl) (E.get (j:=3) rfl) underlying37 rfl (by kernel_rfl)) rfl ?_
     exact⟨A9,k9,c9,rfl,E.ps,E.chg,E.keep⟩
   refine(gZ E.ps hL ba).mono ?_
   rintro _ e9 ⟨rfl,a,b⟩
   replace E:=hid (E.call a b)
   clear a b
   go_wp2_with fail
   cases bN:isS kIN s2
   rotate_left
   ·refine(jn E.ps hL bN).mono ?_
    rintro _ cx ⟨rfl,a,b⟩
    replace E:=hid (E.call a b)
    clear a b
    have cH:=au bN
    go_wp2_with fail
    refine(eB E.ps hL yLp).mono ?_
    rintro _ a8 ⟨rfl,a,b⟩
    replace E:=hid (E.call a b)
    clear a b
    have eU:=aA yLp s2.next
    obtain⟨s4,e8⟩:∃x,needP yLp s2.next=x:=⟨_,rfl⟩
    rw[e8]at eU E
    go_upto_region 21 with fail
    obtain⟨op2,cd,cp,cl,ck,cj,ct,ci,s3,ad,HA⟩:=hr.all (s:=s4) (by omega)
    have aS:=hf s4
    rw[ad]at aS
    try simp only at aS
    replace HA:=hid HA
    go_cut [9] from 79 to 83 (fun pv wx=> ∃(g3:Nat) (B:OA),pv= .pointer (some ⟨g3,0,none⟩)∧En 77 P A c L w0 w wx s3 (bk g3 37 (opC 10 B 2 2):: [bk g2 9 [.string ⟨#[61]⟩,.string ⟨#[60,62]⟩,.string ⟨#[60]⟩,.string ⟨#[60,61]⟩,.string ⟨#[62]⟩,.string ⟨#[62,61]⟩],bk g1 37 (eC op1 n l f vk1 y z A1 k1 c1),bk g0 37 zC]) (fun u=>ExV u (.mk ⟨op1,n,l,f,vk1,y,z⟩ W) A1 k1 c1∧ExV u (opE 10 [.mk ⟨op1,n,l,f,vk1,y,z⟩ W,.mk ⟨op2,ck,cj,cd,cp,cl,ct⟩ ci]) B 2 2))
    case first=>
     obtain⟨b0,b1,b2,b3,b4,b5,b6,b7⟩:=aL (E.get (j:=1) rfl)
     obtain⟨a0,a1,a2,a3,a4,a5,a6,a7⟩:=aL ((E.ext (x10 a8 (.cells #[i4 0,.string ⟨#[]⟩,.string ⟨#[]⟩,i4 0,i4 0,i4 0,.string ⟨#[]⟩,.slice none 0 0] 37))).get (j:=1) rfl)
     replace E:=hid (E.ext (Ext.refl a8).drew)
     go_region_law (first
      |(go_simp;go_at_call 80;(with_reducible refine(bI _ _ _ _ _).mono ?_);rintro _ cz ⟨rfl,X⟩;(first|(replace E:=hid (E.op2' (o:=10) (fun u h=>h.1) (fun u h=>h.2) (by unfold I64;omega) X))|(replace E:=hid (E.op2a (o:=10) (fun u h=>h.1) (fun u h=>h.2) (by unfold I64;omega) (t:=37) (cs:=zC) X))|(replace E:=hid (E.op2b (o:=10) (fun u h=>h.1) (fun u h=>h.2) (by unfold I64;omega) (t:=37) (cs:=zC) X)));(try rw[show a8.drew.heap.size=a8.heap.size from rfl]at E);(try (obtain⟨z0,z1,z2,z3,z4,z5,z6,z7⟩:=aL (E.get (j:=0) rfl);obtain⟨y0,y1,y2,y3,y4,y5,y6,y7⟩:=jU (E.get (j:=0) rfl))))
      |(go_simp;go_at_call 41;(first|((with_reducible refine(HA.out _ E.out.ps).mono ?_))|(replace E:Hid (En _ _ _ _ _ _ _ ((a8.alloc (.cells #[i4 0,.string ⟨#[]⟩,.string ⟨#[]⟩,i4 0,i4 0,i4 0,.string ⟨#[]⟩,.slice none 0 0] 37)).drew) _ _ _):=hid (E.alloc 37 zC);(with_reducible refine(HA.out _ E.out.ps).mono ?_)));rintro _ Z ⟨A2,k2,c2,rfl,a,b,h3⟩;replace E:=hid (E.calls a b h3);clear a b h3;first|(obtain⟨d0,d1,d2,d3,d4,d5,d6,d7⟩:=aL (E.get (j:=1) rfl);obtain⟨e0,e1,e2,e3,e4,e5,e6,e7⟩:=aL ((E.ext (x10 Z (.cells #[i4 0,.string ⟨#[]⟩,.string ⟨#[]⟩,i4 0,i4 0,i4 0,.string ⟨#[]⟩,.slice none 0 0] 37))).get (j:=1) rfl))|(obtain⟨d0,d1,d2,d3,d4,d5,d6,d7⟩:=aL (E.get (j:=2) rfl))))
     all_goals
      first|(replace E:=hid (E.stc (j:=0) (g:=a8.heap.size) rfl (opC 10 (some ⟨Z.heap.size,0,none⟩) 2 2) rfl);simp only[opC,sts]at E;go_wp2_with fail;go_meet;exact⟨_,_,rfl,E.imp fun u h=>⟨h.1.1,h.2⟩⟩)|(replace E:=hid (E.stc (j:=0) (g:=Z.heap.size) rfl (opC 10 (some ⟨Z.heap.size+1,0,none⟩) 2 2) rfl);simp only[opC,sts]at E;go_wp2_with fail;go_meet;exact⟨_,_,rfl,E.imp fun u h=>⟨h.1.1,h.2⟩⟩)|(replace E:=hid (E.stc (j:=0) (g:=Z.heap.size+1) rfl (opC 10 (some ⟨Z.heap.size,0,none⟩) 2 2) rfl);simp only[opC,sts]at E;go_wp2_with fail;go_meet;exact⟨_,_,rfl,E.imp fun u h=>⟨h.1.1,h.2⟩⟩)|(generalize hw:World.alloc _ _=fe;replace E:=hid (dq E hw);go_wp2_with fail;go_meet;exact⟨_,_,rfl,E.imp fun u h=>⟨h.1.1,h.2⟩⟩)
    case rest=>
     obtain⟨g3,B,rfl,E⟩:=hcut
     replace E:=hid E
     generalize wc=cz at*
     have ax:inP C (.mk ⟨op1,n,l,f,vk1,y,z⟩ W) s4=inGo C (.mk ⟨op1,n,l,f,vk1,y,z⟩ W) (s4.r.length+1) (opE 10 [.mk ⟨op1,n,l,f,vk1,y,z⟩ W,.mk ⟨op2,ck,cj,cd,cp,cl,ct⟩ ci]) s3:=by unfold inP;rw[ad]
     obtain⟨IN,d8⟩:∃x,inP C (.mk ⟨op1,n,l,f,vk1,y,z⟩ W) s4=x:=⟨_,rfl⟩
     rw[d8]at ax
     go_wp2_with fail
     go_loopw [85] (fun _ wr=> ∃(m:Nat) (bm be bv bo:Int) (bn bf bw:BA) (b9:List Ex) (A4:OA) (k4 c4:Nat) (st:Ps),st.r.length<m∧st.r.length≤s.r.length∧IN=inGo C (.mk ⟨op1,n,l,f,vk1,y,z⟩ W) m (.mk ⟨bm,bn,bf,be,bv,bo,bw⟩ b9) st∧En 77 P A c L w0 w wr st [bk g3 37 (eC bm bn bf be bv bo bw A4 k4 c4),bk g2 9 [.string ⟨#[61]⟩,.string ⟨#[60,62]⟩,.string ⟨#[60]⟩,.string ⟨#[60,61]⟩,.string ⟨#[62]⟩,.string ⟨#[62,61]⟩],bk g1 37 (eC op1 n l f vk1 y z A1 k1 c1),bk g0 37 zC] (fun u=>ExV u (.mk ⟨op1,n,l,f,vk1,y,z⟩ W) A1 k1 c1∧ExV u (.mk ⟨bm,bn,bf,be,bv,bo,bw⟩ b9) A4 k4 c4)) (fun _ wr=>20001-posO P wr)
     case atStart=>exact⟨_,10,0,0,0,⟨#[]⟩,⟨#[]⟩,⟨#[]⟩,_,B,2,2,s3,by omega,by omega,ax,E⟩
     case round=>
      clear E ax
      obtain⟨m,bm,be,bv,bo,bn,bf,bw,b9,A4,k4,c4,st,hC,hD,ax,E⟩:=hrel
      replace E:=hid E
      replace ax:=hid ax
      generalize wr=hq at*
      obtain⟨m,rfl⟩:∃x,m=x+1:=⟨m-1,by omega⟩
      have bx:=hid E.ps.posO
      have hy:=E.ps.le
      go_wp2_with fail
      cases bY:isS yCm st
      rotate_left
      ·refine(jn E.ps hL bY).mono ?_
       rintro _ fl ⟨rfl,a,b⟩
       replace E:=hid (E.call a b)
       clear a b
       have cH:=au bY
       have bx:Hid (posO P hq=L.length-st.r.length):=bx
       go_upto_region 23 with fail
       obtain⟨b0,b1,b2,b3,b4,b5,b6,b7⟩:=aL (E.get (j:=2) rfl)
       obtain⟨q0,q1,q2,q3,q4,q5,q6,q7⟩:=aL (E.get (j:=0) rfl)
       replace E:=hid (E.ext (Ext.refl fl).drew)
       have eb:=hf st.next
       obtain⟨gt,gb,hi,hg,ha,gr,hl,hE,gy,eL,hc⟩:=hr.at_ E.ps (by omega)
       rw[eL]at eb
       try simp only at eb
       have a9:=ax.out
       rw[inGo,if_pos bY,eL]at a9
       replace a9:=hid a9
       go_region_law (first
        |(go_simp;go_at_call 80;(with_reducible refine(bI 10 _ _ _ _).mono ?_);rintro _ hu ⟨rfl,X⟩;replace E:=hid (E.op2' (o:=10) (fun u h=>h.1.1) (fun u h=>h.2) (by unfold I64;omega) X);obtain⟨g0,g1,g2,g3,g4,g5,g6,g7⟩:=aL (E.get (j:=0) rfl))
        |(go_simp;go_at_call 80;(with_reducible refine(bI 19 _ _ _ _).mono ?_);rintro _ hP ⟨rfl,X⟩;replace E:=hid (E.op2' (o:=19) (fun u h=>h.1.1.2) (fun u h=>h.2) (by unfold I64;omega) X);obtain⟨z0,z1,z2,z3,z4,z5,z6,z7⟩:=aL (E.get (j:=0) rfl);obtain⟨y0,y1,y2,y3,y4,y5,y6,y7⟩:=jU (E.get (j:=0) rfl))
        |(go_simp;go_at_call 41;(with_reducible refine hc.mono ?_);rintro _ ht ⟨A6,k6,c6,rfl,a,b,h3⟩;replace E:=hid (E.calls a b h3);clear a b h3;obtain⟨d0,d1,d2,d3,d4,d5,d6,d7⟩:=aL (E.get (j:=2) rfl);obtain⟨e0,e1,e2,e3,e4,e5,e6,e7⟩:=aL (E.get (j:=0) rfl);obtain⟨f0,f1,f2,f3,f4,f5,f6,f7⟩:=aL ((E.ext (x10 ht (.cells #[i4 op1,.string n,.string l,i4 f,i4 vk1,i4 y,.string z,.slice A1 k1 c1,i4 gt,.string ha,.string gr,i4 gb,i4 hi,i4 hg,.string hl,.slice A6 k6 c6] 37))).get (j:=0) rfl)))
       all_goals
        replace E:=hid (E.stc (j:=0) rfl (opC 19 (some ⟨hu.heap.size,0,none⟩) 2 2) rfl)
        simp only[opC,sts]at E
        have fn:=E.ps.posO
        have hA:=E.ps.le
        have hB:=hL.len
        go_wp2_with fail
        exact⟨⟨m,19,0,0,0,⟨#[]⟩,⟨#[]⟩,⟨#[]⟩,_,_,2,2,gy,by omega,by omega,a9,E.imp fun u h=>⟨h.1.1.1.1,h.2⟩⟩,by rw[fn,bx.out];omega⟩
      refine(gZ E.ps hL bY).mono ?_
      rintro _ fl ⟨rfl,a,b⟩
      replace E:=hid (E.call a b)
      clear a b
      have fs:IN=(.mk ⟨bm,bn,bf,be,bv,bo,bw⟩ b9,st):=by rw[ax.out,inGo,if_neg (by rw[bY];simp)]
      go_wp2_with fail
      refine(eB E.ps hL yRp).mono ?_
      rintro _ hM ⟨rfl,a,b⟩
      replace E:=hid (E.call a b)
      clear a b
      go_wp2_with (first|(refine ldE rfl rfl _ rfl (E.get (j:=0) rfl) rfl ?_)|(go_at_call 156;have H:=mE (q:=N) E.far (E.stb.imp fun u h=>h.2);(with_reducible refine H.mono ?_);rintro _ hO ⟨I,D,Q,O,J,G,U,ac,A9,k9,c9,Y,rfl,X,hs⟩;replace E:=hid (E.stay X hs))|(refine stE rfl rfl rfl _ (eC I J G D Q O U A9 k9 c9) rfl rfl (E.get (j:=3) rfl) rfl rfl (by kernel_rfl) ?_))
      obtain rfl:R=(.mk ⟨I,J,G,D,Q,O,U⟩ ac,needP yRp st):=by rw[hm.out,if_neg (by rw[bd];simp),if_neg (by rw[ba];simp),if_pos bN,e8,d8,fs,←Y]
      refine bodyPost_ret (v:= .agg ((eC I J G D Q O U A9 k9 c9)).toArray) (results_cell_row (p:=2) (ty:=37) rfl _ _ g0 37 _ _ _ (by rfl) ((E.row (j:=3) rfl (eC I J G D Q O U A9 k9 c9)).get (j:=3) rfl) underlying37 rfl (by kernel_rfl)) rfl ?_
      have F:=E.row (j:=3) rfl (eC I J G D Q O U A9 k9 c9)
      exact⟨A9,k9,c9,rfl,F.ps,F.chg,F.keep⟩
   refine(gZ E.ps hL bN).mono ?_
   rintro _ cx ⟨rfl,a,b⟩
   replace E:=hid (E.call a b)
   clear a b
   have hR:=hm.out
   rw[if_neg (by rw[bd];simp),if_neg (by rw[ba];simp),if_neg (by rw[bN];simp)]at hR
   clear hm
   cases N
   ·obtain rfl:s2=s1:=c0
    obtain rfl:R=(.mk ⟨op1,n,l,f,vk1,y,z⟩ W,s2):=hR
    go_wp2_with (first|(refine ldE rfl rfl _ rfl (E.get (j:=1) rfl) rfl ?_)|(refine stE rfl rfl rfl _ (eC op1 n l f vk1 y z A1 k1 c1) rfl rfl (E.get (j:=2) rfl) rfl rfl (by kernel_rfl) ?_))
    refine bodyPost_ret (v:= .agg ((eC op1 n l f vk1 y z A1 k1 c1)).toArray) (results_cell_row (p:=2) (ty:=37) rfl _ _ g0 37 _ _ _ (by rfl) ((E.row (j:=2) rfl (eC op1 n l f vk1 y z A1 k1 c1)).get (j:=2) rfl) underlying37 rfl (by kernel_rfl)) rfl ?_
    have F:=E.row (j:=2) rfl (eC op1 n l f vk1 y z A1 k1 c1)
    exact⟨A1,k1,c1,rfl,F.ps,F.chg,F.keep⟩
   ·obtain rfl:s2=s1.next:=c0
    obtain rfl:R=(.mk ⟨op1,n,l,f,vk1,y,z⟩ W,s1.next.fail):=hR
    have f2:=E.ps.blk.frozen 2
    have p2:=E.ps.blk.cell_some (i:=2) rfl
    replace E:=hid E.fail
    go_upto_region 28 with fail
    go_wp2_with (first|(refine ldE rfl rfl _ rfl (E.get (j:=1) rfl) rfl ?_)|(refine stE rfl rfl rfl _ (eC op1 n l f vk1 y z A1 k1 c1) rfl rfl (E.get (j:=2) rfl) rfl rfl (by kernel_rfl) ?_))
    refine bodyPost_ret (v:= .agg ((eC op1 n l f vk1 y z A1 k1 c1)).toArray) (results_cell_row (p:=2) (ty:=37) rfl _ _ g0 37 _ _ _ (by rfl) ((E.row (j:=2) rfl (eC op1 n l f vk1 y z A1 k1 c1)).get (j:=2) rfl) underlying37 rfl (by kernel_rfl)) rfl ?_
    have F:=E.row (j:=2) rfl (eC op1 n l f vk1 y z A1 k1 c1)
    exact⟨A1,k1,c1,rfl,F.ps,F.chg,F.keep⟩
end
end
section
open Lx (Tk)
theorem rL {p:M Ex} (h:Fwd p):Fwd (primR p):=fun s=>by
 unfold primR
 split
 ·exact next_len s
 split
 ·exact Nat.le_trans (aA _ _) (Nat.le_trans (h _) (Nat.le_trans (aA _ _) (next_len s)))
 split
 ·exact Nat.le_trans (aA _ _) (Nat.le_trans (h _) (next_len s))
 split
 ·exact ig s
 split
 ·exact fwd_tak 4 s
 ·exact fwd_col s
theorem kV:∀n,Fwd (exprR n)
 |0=>fun s=>Nat.le_refl _
 |n+1=>fwd_or (rL (kV n))
section
variable {P c:Nat} {A:OA} {L:List Tk} {w0:World}
theorem tG {l:List (BA×Int)} (h:l.all (fun x=>decide (0<x.2) &&decide (x.2<100))=true):∀x∈l,x.2≠0∧I64 x.2:=fun x a=>by
 have:=List.all_eq_true.1 h x a
 simp only[Bool.and_eq_true,decide_eq_true_eq]at this
 unfold I64
 omega
theorem nX (a:TkL L):∀n,RX P A c L w0 41 #[.pointer (some ⟨P,0,none⟩),i4 1] n (exprR n)
 |0=>fun _ _ _ h=>absurd h (Nat.not_lt_zero _)
 |n+1=>by
  have b:Fwd (primR (exprR n)):=rL (kV n)
  have j:=runa_any a (rprim_any a (nX a n))
  have i:=jp a (l:=6) (ops:=opsPro) (by omega) (by omega) (tG (by rfl)) (fU b) j (fun w s h=>rbin6_any h a)
  have g:=jp a (l:=5) (ops:=opsSum) (by omega) (by omega) (tG (by rfl)) (ey (fU b) _) i (fun w s h=>rbin5_any h a)
  have k:=rtest_any a (ii b) g
  have f:=vF a b k _ (Nat.le_refl _)
  have e:=jp a (l:=2) (ops:=opsAnd) (by omega) (by omega) (tG (by rfl)) (fun s=>iI b _ s) f (fun w s h=>rbin2_any h a)
  exact jp a (l:=1) (ops:=opsOr) (by omega) (by omega) (tG (by rfl)) (mf b) e (fun w s h=>rbin1_any h a)
end
end
end Go.Proofs.YtjigcpfjhfoheaaGreatDoor
