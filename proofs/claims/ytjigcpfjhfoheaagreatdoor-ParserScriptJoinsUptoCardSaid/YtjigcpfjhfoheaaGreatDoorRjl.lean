/- Scripts of canonical texts; the walk of the law ParserScriptJoins. -/
import Derived.Test.YtjigcpfjhfoheaaGreatDoorRcj
import Derived.Test.YtjigcpfjhfoheaaGreatDoorRai
import Derived.Test.YtjigcpfjhfoheaaGreatDoorRbi
import Derived.Deep.MidRow
namespace Go.Proofs.YtjigcpfjhfoheaaGreatDoor
open Go.RowKit
set_option maxHeartbeats 4000000
set_option maxRecDepth 100000
set_option linter.unusedVariables false
set_option linter.unusedSimpArgs false
section
open Lx (Tk isDigit isLetter inWord spanN isPrint)
theorem lex_nl:LexP Any [10] []:=fun b p _=>by
 refine⟨[],rfl,?_⟩
 have e:Lx.T ([10]++b) p=Lx.T b (p+1):=by
  have h:Lx.skipN false ([10]++b)=Lx.skipN false b+1:=by simp[Lx.skipN]
  refine Lx.T_skip _ _ _ _ ?_ (by omega)
  rw[h];rfl
 rw[e]
 show _=(Lx.T b (p+1)).pre []
 cases Lx.T b (p+1)<;>rfl
end
section
open Go.ChangeShapes Go.WideShapes Go.Deep Go.RowKit
theorem sumB_mem {α:Type} {bk:α→Nat} :∀ {l:List α} {a:α},a∈l→bk a≤sumB bk l
 |b::l,a,h=>by
  rw[sumB]
  rcases List.mem_cons.1 h with rfl|h
  ·omega
  ·have:=sumB_mem (bk:=bk) h;omega
section
variable {H:Type} {enc:TypeId×Value→H} {w:World} {spare:Nat→Bool} {held:Bool} {base:Nat}
instance:Inhabited Ex:=⟨exZ⟩
instance:Inhabited Cd:=⟨⟨⟨#[]⟩,0,0,0,0,false⟩⟩
instance:Inhabited Rf:=⟨⟨[],⟨#[]⟩,[]⟩⟩
instance:Inhabited Asg:=⟨⟨⟨#[]⟩,0,exZ⟩⟩
instance:Inhabited Itm:=⟨⟨0,exZ⟩⟩
instance:Inhabited Src:=⟨⟨⟨#[]⟩,⟨#[]⟩⟩⟩
instance:Inhabited Ord':=⟨⟨0,false⟩⟩
end
end
section
open Lx (Tk isDigit isLetter inWord spanN isPrint)
def scT:List St→List UInt8
 | []=> []
 |s::l=>dl s.body++([59,10]++scT l)
def scK:List St→List Kt
 | []=> []
 |s::l=>s.tk++(5,[59])::scK l
theorem sc_lex:∀l:List St,(∀s∈l,s.formed=true)→LexP Any (scT l) (scK l)
 | [],_=>jk
 |s::l,h=>by
  have a:LexP Any ([59]++ [10]) ([((5:Nat),([59]:List UInt8))]++ []):=(bH (c:=59) (by decide)).cat lex_nl (fun _ _=>trivial)
  have e:=(LexP.cat (st_lex (h s List.mem_cons_self)) a (fun b _=>edge_l 59 (by decide) [10] b)).cat (sc_lex l fun x f=>h x (List.mem_cons_of_mem _ f)) (fun _ _=>trivial)
  simpa[scT,scK] using e
theorem scr_read {n:Nat} {p:Nat} :∀(l:List St) (m:Nat) (f:List St) (ts:List Tk),(∀s∈l,validS s=0)→ts.map er=scK l→ts.length≤n→ts.length<m→mR (stmP n) validS m f ⟨ts++ [⟨0,[],p⟩],false⟩= .inr (f++l.map St.st0)
 |_,0,_,_,_,_,_,h=>absurd h (Nat.not_lt_zero _)
 | [],m+1,f,ts,_,h,_,_=>by
  obtain rfl:=List.map_eq_nil_iff.1 h
  unfold mR
  rw[if_pos (show(⟨[]++ [(⟨0,[],p⟩:Tk)],false⟩:Ps).hd.kind=0 from rfl)]
  simp
 |s::l,m+1,f,ts,hv,h,hn,hm=>by
  obtain⟨g,i,rfl,u,z⟩:=aZ h
  obtain⟨a,i,rfl,r,A⟩:=aj z
  simp only[List.length_append,List.length_cons]at hn hm
  have hs:=hv s List.mem_cons_self
  have B:=(gD hs).2.1
  have k:=pS (n:=n) (R:=a::(i++ [⟨0,[],p⟩])) B u (by omega) ⟨by omega,_,_,rfl,by rw[r];decide⟩
  have e:g++a::i++ [⟨0,[],p⟩]=g++a::(i++ [⟨0,[],p⟩]):=by simp
  have j:¬((⟨g++a::(i++ [⟨0,[],p⟩]),false⟩:Ps).hd.kind=0):=by
   intro j
   cases g with
   |nil=>
    have o:(er a).1=0:=j
    rw[r]at o
    cases o
   |cons b g=>
    have o:(er b).1=0:=j
    have y:s.tk=er b::g.map er:=by rw[←u];rfl
    have t:s.tk.head?.map (·.1)=some 2:=by
     unfold St.tk St.selK
     repeat' split
     all_goals rfl
    rw[y]at t
    have D:(er b).1=2:=Option.some.inj t
    omega
  rw[e,mR,if_neg j,k]
  simp only
  rw[need_at (.inr rfl) iY r,if_neg (by simp),valid_st0 hs,if_neg (by simp),scr_read l m _ i (fun x C=>hv x (List.mem_cons_of_mem _ C)) A (by omega) (by omega)]
  simp
theorem joins_law {l:List St} (b:∀s∈l,validS s=0) {t:ByteArray} (g:t.data.toList=scT l) (h:t.size≤16384):parL validS t=(l.map St.st0,0,0):=by
 obtain⟨ts,e,a⟩:=sc_lex l (fun s hs=> (gD (b s hs)).2.1) [] 0 trivial
 rw[List.append_nil,Lx.T_end [] _ rfl]at a
 have f:Lx.tokAll t= .ok (ts++ [⟨0,[],(scT l).length⟩]):=by
  unfold Lx.tokAll
  rw[if_neg (by omega),g,a]
  simp[Lx.Ls.pre,Lx.skipN]
 unfold parL
 rw[f]
 simp only
 rw[scr_read l _ [] ts b e (by simp;omega) (by simp;omega)]
 rfl
end
section
open Go.ChangeShapes Go.WideShapes Go.Deep Go.RowKit
def Phiarg (s:St) (cs:List Value) (w:World):Prop:=∃a,cs=s.cells a∧StV w s a∧s.bulk≤1048576
theorem open_stmts {H:Type} {enc:TypeId×Value→H} {w:World} {base o:Nat} {r:Reach} {spare:Nat→Bool} {held:Bool} {v:Value} {d:DataW H} {p:List MemPlace} (k:Value.okWide Tryz.prog w r o 49 v)
  (h:DataW.Trod enc Tryz.prog w base spare held 49 v d p) (hd:Rows.uptoBulk d≤1048576):∃(l:List St) (A:Option Addr) (c:Nat),v= .slice A l.length c∧l.length≤9223372036854775807∧Lst Phiarg 22 w A l:=by
 obtain⟨A,n,c,rfl⟩:=okWide_slice Tryz.underlying49 k
 obtain⟨e,F⟩:=h
 haveI:Inhabited St:=⟨⟨0,⟨#[]⟩,[],[],[],[],[],[],[],[],.mk ⟨0,⟨#[]⟩,⟨#[]⟩,0,0,0,⟨#[]⟩⟩ [],[],[],0,⟨#[]⟩⟩⟩
 obtain⟨l,G,J,c2,t,u,y,z,B⟩:=bz (α:=St) Tryz.underlying49 (by kernel_rfl:Tryz.prog.cellsOf 40=22) (by decide) (fun s cs=> ∃a,cs=s.cells a∧StV w s a) St.bulk (fun e cs x h=>by
  obtain⟨s,a,f,g,j⟩:=open_st h
  exact⟨s,⟨a,f,g⟩,j⟩) F
 injection t with f g j
 subst f g j u
 refine⟨l,A,c,rfl,y,fun i s hs=>?_⟩
 obtain⟨cs,b,m,⟨a,rfl,k⟩,D,E⟩:=z i s hs
 have I:=sumB_mem (bk:=St.bulk) (List.mem_of_getElem? hs)
 have C:sumB St.bulk l+1≤Rows.uptoBulk d:=B
 exact⟨s.cells a,rfl,⟨b,m,D,E⟩,a,rfl,k,by omega⟩
end
section
open Lx (Tk)
theorem scT_snoc:∀(l:List St) (s:St),scT (l++ [s])=scT l++(dl s.body++ [59,10])
 | [],s=>by simp[scT]
 |a::l,s=>by
  rw[List.cons_append,scT,scT,scT_snoc l s]
  simp
def Phiall (s:St) (cs:List Value) (w:World):Prop:=∃a,cs=s.cells a∧StV w s a
theorem Lst.st_at {w:World} {A:Option Addr} {l:List St} (h:Lst Phiall 22 w A l) {i:Nat} (hi:i<l.length):∃a b e,A=some ⟨b,e,none⟩∧StV w l[i] a∧∀k v,(l[i].cells a)[k]? =some v→w.cell? ⟨b,e+i*22+k,none⟩=some v:=by
 obtain⟨cs,_,⟨b,e,f,g⟩,a,rfl,j⟩:=h i _ (List.getElem?_eq_getElem hi)
 exact⟨a,b,e,f,j,g⟩
theorem all_ext {w w':World} {A:Option Addr} {l:List St} (h:Lst Phiall 22 w A l) (b:Ext w w'):Lst Phiall 22 w' A l:=fun i s hs=>by
 obtain⟨cs,f,g,a,e,j⟩:=h i s hs
 exact⟨cs,f,g.ext b,a,e,j.ext b⟩
theorem quiet_load_mid {P:Program} {ops:Array Oper} {C:World→Prop} {Q:Act→Prop} {rest:List Oper} {o:Oper} {a:Act} (e:o.guard=none) (ty:TypeId) (x:Operand) (j:o.op= .load ty x)
  (b i:Nat) (m:a.eval x= .pointer (some ⟨b,i,none⟩)) (cs:List Value) (d:TypeDesc) (g:∀w,C w→w.rangeAt b i cs)
  (k:P.underlying ty=some d) (hd:d.isRow=true) (hi:(P.info? ty).map (·.size)=some cs.length)
  (h:wpQuiet P ops C Q rest (a.put o.dst (.agg cs.toArray))):wpQuiet P ops C Q (o::rest) a:=by
 unfold wpQuiet
 have l:Region.wanted o (yielded ops a.tmps)=true:=by simp[Region.wanted,e]
 rw[if_pos l]
 refine⟨.agg cs.toArray,fun w f=>?_,h⟩
 unfold Oper.quietAt execOp
 simp only[j,m,Instr.loadAt,Instr.sureAddr,Sem.run_bind,Sem.run_pure,Result.andThen_ok,run_loadVar_mid w b i ty cs d (g w f) k hd hi]
 exact⟨rfl,rfl⟩
theorem later_range {w:World} {b i:Nat} {cs:List Value} (h:∀k v,cs[k]? =some v→w.cell? ⟨b,i+k,none⟩=some v):∀w',(∃x:ae w,w'=x.now)→w'.rangeAt b i cs:=by
 rintro _ ⟨x,rfl⟩
 exact fun k v a=>x.ext.keep (h k v a)
theorem rsts_any (l m:List St) (A B:Option Addr) (c d:Nat) (w:World) (D:l.length=m.length) (hn:l.length≤20001) (P:Lst Phiall 22 w A l) (Q:Lst Phiall 22 w B m) (hs:∀i (h:i<l.length) (h2:i<m.length),l[i].same m[i]=true):
  Calls Tryz.prog 22 #[.slice A l.length c,.slice B m.length d] w fun r w'=>r= .returned (.bool true)∧Ext w w':=by
 have G:=hid P
 have I:=hid Q
 have J:=hid hs
 clear P Q hs
 have Z:((l.length:Int) !=(m.length:Int))=false:=by rw[D];exact bne_self_eq_false _
 have y:=hid D
 clear D
 go_enter Tryz.func22,Tryz.ntmps22
 go_wp2_with fail
 go_loopw [5] (fun F wr=> ∃k:Nat,k≤l.length∧F= .int .i64 k∧Ext w wr) (fun F _=>l.length- (intOf F).toNat)
 case atStart=>exact⟨0,Nat.zero_le _,rfl,Ext.refl w⟩
 case round=>
  obtain⟨k,hk,rfl,U⟩:=hrel
  have o:=hid U
  clear U
  by_cases g:k<l.length
  ·have f:k<m.length:=by have:=y.out;omega
   obtain⟨a,X,o1,rfl,R,b⟩:=(all_ext G o).st_at g
   obtain⟨C,Y,o2,rfl,j,e⟩:=(all_ext I o).st_at f
   have i0:(0:Int)≤(k:Int):=by omega
   have i1:(k:Int)<(l.length:Int):=by omega
   have i2:(k:Int)<(m.length:Int):=by omega
   have n:=fun W (O:Ext wr W)=>pB l[k] m[k] a C W (R.ext O) (j.ext O)
   rw[J.out k g f]at n
   unfold St.val at n
   have K:(l[k].cells a).length=22:=rfl
   have L:(m[k].cells C).length=22:=rfl
   generalize l[k].cells a=cs at*
   generalize m[k].cells C=ct at*
   have V:Hid (∀z:ae wr,Calls Tryz.prog 15 _ z.now _):=fun z=>n z.now z.ext
   have u:Hid ((Tryz.prog.info? 40).map (·.size)=some cs.length):=by unfold Hid;rw[K];kernel_rfl
   have x:Hid ((Tryz.prog.info? 40).map (·.size)=some ct.length):=by unfold Hid;rw[L];kernel_rfl
   have s:=hid b
   have t:=hid e
   clear b e R j n K L G I J
   go_upto_region 6 with fail
   refine ab (by kernel_rfl) (by kernel_rfl) ?_
   repeat (first|(refine quiet_load_mid rfl 40 (.tmp 19) rfl X (o1+k*22) rfl cs _ (later_range s) Tryz.underlying40 rfl u ?_;go_simp)|(refine quiet_load_mid rfl 40 (.tmp 23) rfl Y (o2+k*22) rfl ct _ (later_range t) Tryz.underlying40 rfl x ?_;go_simp)|go_big_quiet_step ((go_at_call 15;with_reducible exact ak (V.out _))))
   refine wpQuiet_nil ?_
   intro p
   have E:Ext wr p.now:=p.ext
   generalize p.now=w5 at*
   clear p
   go_wp2_with fail
   go_roundw
   case rel=>exact⟨k+1,by omega,by go_num,o.trans E⟩
   case measure=>simp[intOf];omega
  ·obtain rfl:k=l.length:=by omega
   go_wp2_with fail
   go_ret
   exact⟨rfl,o⟩
theorem law_joins (l:List St) (A:Option Addr) (c:Nat) (w:World) (hn:l.length≤9223372036854775807) (j:Lst Phiarg 22 w A l) (hg:Pg w):
  Calls Tryz.prog 10 #[.slice A l.length c] w fun r w'=>r= .returned (.bool true)∧Ext w w':=by
 have HG:=hid hg
 have Q:Hid (∀i (h:i<l.length),l[i].bulk≤1048576):=fun i h=>by
  obtain⟨cs,_,_,a,_,_,hb⟩:=j i _ (List.getElem?_eq_getElem h)
  exact hb
 have HV:Hid (∀W,Ext w W→Lst Phiall 22 W A l):=fun W C=>all_ext (fun i s hs=>by
  obtain⟨cs,Z,z,a,F,h4,_⟩:=j i s hs
  exact⟨cs,Z,z,a,F,h4⟩) C
 have HA:=hid (fun W (C:Ext w W)=>awk_any W (HG.ext C))
 clear j hg
 go_enter Tryz.func10,Tryz.ntmps10
 by_cases h8:(8:Int)<(l.length:Int)
 all_goals go_wp2_with (go_at_call 11;(with_reducible refine(HA.out _ (Ext.refl w)).mono ?_);rintro _ w2 ⟨rfl,p⟩)
 ·go_ret
  exact⟨rfl,p⟩
 have o:=hid p
 clear p
 go_loopw [3,5,6,7,18] (fun T _ _ _ iv wr=> ∃(k:Nat) (X:ByteArray),k≤l.length∧T= .string X∧iv= .int .i64 k∧X.data.toList=scT (l.take k)∧X.size≤20002*k∧(∀s∈l.take k,validS s=0)∧Ext w wr) (fun _ _ _ _ iv _=>l.length- (intOf iv).toNat)
 case atStart=>exact⟨0,⟨#[]⟩,Nat.zero_le _,rfl,rfl,rfl,Nat.le_refl _,fun s hs=>by simp at hs,o⟩
 case round=>
  clear o
  obtain⟨k,X,hk,rfl,rfl,hX,hz,G,p⟩:=hrel
  have o:=hid p
  have L:=hid hX
  have u:=hid G
  clear p hX G
  by_cases E:k<l.length
  ·obtain⟨a,b,an,rfl,j,hc⟩:=(HV wr o).st_at E
   have D:=Q k E
   have i0:(0:Int)≤(k:Int):=by omega
   have i1:(k:Int)<(l.length:Int):=by omega
   have V:=hid (fun W (C:Ext wr W)=>qL l[k] a W (j.ext C) D)
   have y:=hid (fun W (C:Ext wr W)=>qB l[k] a W (j.ext C) (nr _ D))
   have a2:X.size≤200000:=by omega
   have U:Hid (validS l[k]=0∧(X++(textS l[k]++(⟨#[59,10]⟩:ByteArray))).data.toList=scT (l.take (k+1))∧((X++(textS l[k]++(⟨#[59,10]⟩:ByteArray))).size≤20002* (k+1)∧(textS l[k]).size≤16384)∧(∀x∈l.take (k+1),validS x=0)∨validS l[k]≠0):=by
    by_cases j:validS l[k]=0
    ·have ag:=(gD j).2.2
     have e:textS l[k]=l[k].body:=by
      unfold textS
      rw[if_pos j]
     have O:l.take (k+1)=l.take k++ [l[k]]:=by
      rw[List.take_add_one,List.getElem?_eq_getElem E]
      rfl
     rw[e,O]
     refine .inl ⟨j,?_,⟨?_,ag⟩,fun x p=>?_⟩
     ·rw[scT_snoc,←L.out]
      simp[ByteArray.data_append,Array.toList_append,dl]
     ·have z:(⟨#[59,10]⟩:ByteArray).size=2:=rfl
      rw[ByteArray.size_append,ByteArray.size_append]
      omega
     ·rcases List.mem_append.1 p with p|p
      ·exact u x p
      ·rw[List.mem_singleton.1 p]
       exact j
    ·exact .inr j
   have HC:=hid hc
   clear hc j D hz
   generalize l[k]=s at*
   generalize s.small=sm at*
   generalize textS s=t at*
   generalize validS s=vl at*
   have a0:(⟨#[59,10]⟩:ByteArray).size=2:=rfl
   have a1:(t++(⟨#[59,10]⟩:ByteArray)).size=t.size+2:=by rw[ByteArray.size_append];rfl
   unfold St.val at*
   have Y:(s.cells a).length=22:=rfl
   have O:(s.cells a).all (·.oneCell')=true:=rfl
   generalize s.cells a=cs at*
   have HI:Hid ((Tryz.prog.info? 40).map (·.size)=some cs.length):=by unfold Hid;rw[Y];kernel_rfl
   have HL:=hid Y
   have HO:=hid O
   clear Y O
   go_upto_region 9 with (first|(refine wpList_load_mid rfl 40 (.tmp 20) rfl b (an+k*22) rfl cs _ HC Tryz.underlying40 rfl HI ?_)|(refine Great.wpList_allocTo rfl _ rfl (.pointer (some ⟨_,0,none⟩)) (.cells zS.toArray 40) (by kernel_rfl) ?_)|(refine stS' rfl rfl rfl cs rfl rfl (cs:=zS) rfl HL (by simpa using HO.out) ?_))
   have f:=hid ((Ext.refl wr).alloc (.cells cs.toArray 40))
   have P:=hid (Blk.of_new wr 40 cs)
   generalize World.alloc _ _=w3 at*
   generalize wr.heap.size=g at*
   go_wp2_with (first|(refine am rfl 40 (.tmp 5) rfl g rfl 40 _ _ P Tryz.underlying40 rfl HI ?_)|(go_at_call 23;(with_reducible refine(y.out _ f.out).mono ?_);rintro _ w4 ⟨rfl,n⟩;replace P:=hid (P.ext n);replace f:=hid (f.trans n);clear n;cases sm)|(go_at_call 24;(with_reducible refine(V.out _ f.out).mono ?_);rintro _ w5 ⟨rfl,n⟩;replace f:=hid (f.trans n);clear n;rcases U.out with ⟨rfl,hp1,hp2,hp3⟩|hp))
   all_goals first
    |(go_ret;exact⟨rfl,o.trans f⟩)
    |exact⟨⟨k+1,_,by omega,rfl,by go_num,hp1,hp2.1,hp3,o.trans f⟩,by simp[intOf];omega⟩
  ·obtain rfl:k=l.length:=by omega
   rw[List.take_length]at L u
   by_cases ax:(16384:Int)<(X.size:Int)
   ·go_wp2_with fail
    go_ret
    exact⟨rfl,o⟩
   ·have J:X.size≤16384:=by omega
    have K:=fun W h=>qk X W (by omega) h
    rw[joins_law u.out L.out J]at K
    simp only at K
    have y:=hid K
    have HE:Hid (∀i (h:i<(l.map St.st0).length) (z:i<l.length),(l.map St.st0)[i].same l[i]=true):=fun i h z=>by
     rw[List.getElem_map]
     exact stst_same (gD (u _ (List.getElem_mem z))).2.1
    have R:Hid ((l.map St.st0).length=l.length):=List.length_map ..
    clear K L u J
    generalize l.map St.st0=m at*
    go_wp2_with (first|(go_at_call 20;(with_reducible refine(y.out _ (HG.out.ext o.out)).mono ?_);rintro _ w5 ⟨I,B,kk,rfl,ac,F⟩;replace o:=hid (o.trans I);have HM:=hid F.now;clear I F)|(go_at_call 22;refine(rsts_any m l B A kk c w5 R ac (fun i s hs=>by obtain⟨cs,Z,z,a,F,h4⟩:=HM i s hs;exact⟨cs,Z,z,a,F,h4.1⟩) (HV _ o) HE).mono ?_;rintro _ w6 ⟨rfl,ad⟩))
    go_ret
    exact⟨rfl,o.trans ad⟩
end
end Go.Proofs.YtjigcpfjhfoheaaGreatDoor
