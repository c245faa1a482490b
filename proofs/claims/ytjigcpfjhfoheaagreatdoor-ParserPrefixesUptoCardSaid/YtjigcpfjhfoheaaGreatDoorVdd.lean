/- The law ParserPrefixes, walked: for a statement of bulk at most 1048576 and any n it answers true. -/
import Derived.Test.YtjigcpfjhfoheaaGreatDoorVcj
import Derived.Test.YtjigcpfjhfoheaaGreatDoorVbg
import Derived.Test.YtjigcpfjhfoheaaGreatDoorVcg
namespace Go.Proofs.YtjigcpfjhfoheaaGreatDoor
open Go.RowKit
set_option maxHeartbeats 4000000
set_option maxRecDepth 100000
set_option linter.unusedVariables false
set_option linter.unusedSimpArgs false
section
open Lx (Tk fj)
def cutT (s:ByteArray) (L:List Tk) (k:Nat):ByteArray:=if k+1<L.length then s.extract 0 (L.getD k ⟨0,[],0⟩).pos else s
theorem cut_pos {s:ByteArray} {L:List Tk} (h:Lx.tokAll s= .ok L) {k:Nat} {a:Tk} (b:L[k]? =some a) (e:k+1<L.length):a.pos≤s.size:=by
 have f:s.data.toList.length=s.size:=Array.length_toList
 unfold Lx.tokAll at h
 split at h
 ·cases h
 ·have:=(T_cut _ _ 0 L (Nat.le_refl _) h k a b e).2.1
  omega
theorem rcut_any (s:ByteArray) (w:World) (hs:s.size≤20000) {L:List Tk} (m:Lx.tokAll s= .ok L) (k:Nat) (B:k≤20001):
  Calls Tryz.prog 27 #[.string s,.int .i64 k] w fun e w'=>e= .returned (.tuple #[.string (cutT s L k),.int .i64 ((L.length:Int)-1)])∧Ext w w':=by
 have n:=hid (Lx.rtokens_cap s w hs)
 have x:=(gS m).len
 go_enter Tryz.func27,Tryz.ntmps27
 go_wp2_with fail
 refine n.mono ?_
 rintro e H ⟨v,rfl,⟨A,c,rfl,f,t⟩,u⟩
 have o:=hid u
 rw[m]at f t ⊢
 have l:Lx.lsL (.ok L)=L:=rfl
 have p:Lx.lsP (.ok L)=0:=rfl
 have r:Lx.lsE (.ok L)=0:=rfl
 rw[l]at f t
 rw[l,p,r]
 clear l p r u n
 by_cases g:k+1<L.length
 ·obtain⟨a,i⟩:∃a,L[k]? =some a:=⟨_,List.getElem?_eq_getElem (by omega)⟩
  obtain⟨b,z,rfl,c0,c1,c2⟩:=f k a i
  have C:=cut_pos m i g
  have h:cutT s L k=s.extract 0 a.pos:=by
   unfold cutT
   rw[if_pos g,List.getD_eq_getElem?_getD,i]
   rfl
  have j:=hid h
  have D:(0:Int)≤(k:Int):=by omega
  have E:(k:Int)<(L.length:Int):=by omega
  have y:¬((L.length:Int)-1≤(k:Int)):=by omega
  have F:(0:Int)≤(a.pos:Int):=by omega
  have G:(a.pos:Int)≤(s.size:Int):=by omega
  clear h f i
  go_wp2_with fail
  go_ret2
  exact⟨by rw[j.out];rfl,o⟩
 ·have h:cutT s L k=s:=by
   unfold cutT
   rw[if_neg g]
  have j:=hid h
  have y:(L.length:Int)-1≤(k:Int):=by omega
  clear h f
  go_wp2_with fail
  go_ret2
  exact⟨by rw[j.out];rfl,o⟩
theorem cut_out {s:St} (h:validS s=0):∃L,Lx.tokAll s.body= .ok L∧0<L.length∧L.length≤20001∧∀k,k<L.length→(cutT s.body L k).size≤20000∧
  (((parS validS (cutT s.body L k)).2.1=0∧(parS validS (cutT s.body L k)).2.2=0)∨((parS validS (cutT s.body L k)).2.1=(cutT s.body L k).size∧(parS validS (cutT s.body L k)).2.2=2)):=by
 obtain⟨n,i,j⟩:=kj h
 obtain⟨ts,m,e⟩:=tR i j
 refine⟨_,e,by simp,Nat.le_succ_of_le (gS e).len,fun k p=>?_⟩
 generalize o:ts++ [(⟨0,[],s.body.size⟩:Tk)]=L at*
 by_cases b:k+1<L.length
 ·obtain⟨a,g⟩:∃a,L[k]? =some a:=⟨_,List.getElem?_eq_getElem (by omega)⟩
  have l:=cut_pos e g b
  have f:cutT s.body L k=s.body.extract 0 a.pos:=by
   unfold cutT
   rw[if_pos b,List.getD_eq_getElem?_getD,g]
   rfl
  have hd:(s.body.extract 0 a.pos).data.toList=s.body.data.toList.take a.pos:=fj _ _
  rw[f]
  refine⟨?_,cut_law h e g b hd l⟩
  have:=congrArg List.length hd
  rw[List.length_take,Array.length_toList]at this
  have:(s.body.extract 0 a.pos).size=min a.pos s.body.data.toList.length:=this
  omega
 ·have f:cutT s.body L k=s.body:=by
   unfold cutT
   rw[if_neg b]
  rw[f,round_st h]
  exact⟨by omega,.inl ⟨rfl,rfl⟩⟩
theorem law_pre (s:St) (a:SA) (n:Int) (w:World) (D:StV w s a) (Q:s.bulk≤1048576) (hn:0≤n∧n≤255) (U:Pg w):
  Calls Tryz.prog 8 #[s.val a,.int .u8 n] w fun r w'=>r= .returned (.bool true)∧Ext w w':=by
 have J:=hid U
 have j:=hid D
 have G:Hid (validS s=0→textS s=s.body∧∃L,Lx.tokAll s.body= .ok L∧0<L.length∧L.length≤20001∧∀k,k<L.length→(cutT s.body L k).size≤20000∧
  (((parS validS (cutT s.body L k)).2.1=0∧(parS validS (cutT s.body L k)).2.2=0)∨((parS validS (cutT s.body L k)).2.1=(cutT s.body L k).size∧(parS validS (cutT s.body L k)).2.2=2))):=fun h=>⟨by unfold textS;rw[if_pos h],cut_out h⟩
 have o:Hid (validS s=0→s.body.size≤20000):=fun h=>Nat.le_trans (kj h).2.2 (by omega)
 have x:=hid (fun W h=>rstext_any s a W h Q)
 have u:=hid (fun W h=>smallS_any s a W h (rallS_len s Q))
 generalize s.small=sm at*
 generalize ag:validS s=vl at*
 clear U D
 obtain⟨m,rfl⟩:∃m:Nat,n=m:=⟨n.toNat,by omega⟩
 have i:=hid ((Ext.refl w).alloc (.cells (s.cells a).toArray 40))
 have l:=hid (Blk.of_new w 40 (s.cells a))
 unfold St.val at*
 unfold St.cells Sl.v at*
 go_enter Tryz.func8,Tryz.ntmps8
 go_upto_region 1 with fail
 generalize w.alloc (.cells _ 40)=w1 at*
 replace j:=hid (j.ext i)
 generalize w.heap.size=g at*
 have E:=hid (fun W (hW:Ext w W)=>awk_any W (J.ext hW))
 cases sm
 ·go_wp2_with (first|(go_at_call 11;(with_reducible refine(E.out _ i.out).mono ?_);rintro _ Y ⟨rfl,f⟩;replace l:=hid (l.ext f);replace j:=hid (j.ext f);replace i:=hid (i.trans f);clear f)|(refine aw rfl 40 (.tmp 2) rfl g rfl 40 _ _ l Tryz.underlying40 rfl (by kernel_rfl) ?_)|(go_at_call 23;(with_reducible refine(u.out _ j.out).mono ?_);rintro _ Z ⟨rfl,f⟩;replace i:=hid (i.trans f);clear f))
  go_ret
  exact⟨rfl,i⟩
 ·by_cases D:vl=0
  ·subst D
   obtain⟨B,L,y,H,ad,C⟩:=G rfl
   have A:=o rfl
   rw[B]at x
   have V:m%L.length<L.length:=Nat.mod_lt _ H
   have F:Hid (∀W,Calls Tryz.prog 27 #[.string s.body,.int .i64 0] W _):=fun W=>rcut_any s.body W A y 0 (Nat.zero_le _)
   have HC:=hid (fun W=>rcut_any s.body W A y (m%L.length) (by omega))
   obtain⟨I,P⟩:=C _ V
   have K:=hid (fun W h=>gY (cutT s.body L (m%L.length)) W I h)
   have O:=hid P
   have HZ:=hid I
   have z:Hid ((m:Int) % (L.length:Int)=((m%L.length:Nat):Int)):=rfl
   generalize m%L.length=mq at*
   generalize cutT s.body L mq=t at*
   generalize cutT s.body L 0=t0 at*
   generalize parS validS t=R at*
   obtain⟨X,p,e⟩:=R
   simp only at K O
   clear B y C G o P I V
   go_upto_region 9 with (first|(go_at_call 11;(with_reducible refine(E.out _ i.out).mono ?_);rintro _ Y ⟨rfl,f⟩;replace l:=hid (l.ext f);replace j:=hid (j.ext f);replace i:=hid (i.trans f);clear f)|(refine aw rfl 40 (.tmp 2) rfl g rfl 40 _ _ l Tryz.underlying40 rfl (by kernel_rfl) ?_)|(go_at_call 23;(with_reducible refine(u.out _ j.out).mono ?_);rintro _ Z ⟨rfl,f⟩;replace l:=hid (l.ext f);replace j:=hid (j.ext f);replace i:=hid (i.trans f);clear f)|(go_at_call 24;(with_reducible refine(x.out _ j.out).mono ?_);rintro _ w4 ⟨rfl,f⟩;replace i:=hid (i.trans f);clear f)|(go_at_call 27;(with_reducible refine(F.out _).mono ?_);rintro _ w5 ⟨rfl,f⟩;replace i:=hid (i.trans f);clear f))
   go_upto_region 10 with (first|(go_at_call 27;rw[z.out];(with_reducible refine(HC.out _).mono ?_);rintro _ w6 ⟨rfl,f⟩;replace i:=hid (i.trans f);clear f))
   go_upto_region 11 with (first|(go_at_call 13;(with_reducible refine(K.out _ (J.out.ext i.out)).mono ?_);rintro _ w7 ⟨f,b,rfl,h3⟩;replace i:=hid (i.trans f);clear f h3)|(refine Great.wpList_allocTo rfl _ rfl (.pointer (some ⟨_,0,none⟩)) (.cells zS.toArray 40) (by kernel_rfl) ?_)|(refine stS' rfl rfl rfl (St.cells X b) rfl rfl (cs:=zS) rfl rfl (by kernel_rfl) ?_))
   replace i:=hid (i.trans ((Ext.refl w7).alloc (.cells (St.cells X b).toArray 40)))
   generalize w7.alloc (.cells _ 40)=w8 at*
   have ac:((t.size:Int)==(t.size:Int))=true:=beq_self_eq_true _
   rcases O.out with ⟨rfl,rfl⟩|⟨rfl,rfl⟩
   all_goals
    go_wp2_with fail
    go_ret
    exact⟨rfl,i⟩
  ·clear G o
   go_wp2_with (first|(go_at_call 11;(with_reducible refine(E.out _ i.out).mono ?_);rintro _ Y ⟨rfl,f⟩;replace l:=hid (l.ext f);replace j:=hid (j.ext f);replace i:=hid (i.trans f);clear f)|(refine aw rfl 40 (.tmp 2) rfl g rfl 40 _ _ l Tryz.underlying40 rfl (by kernel_rfl) ?_)|(go_at_call 23;(with_reducible refine(u.out _ j.out).mono ?_);rintro _ Z ⟨rfl,f⟩;replace l:=hid (l.ext f);replace j:=hid (j.ext f);replace i:=hid (i.trans f);clear f)|(go_at_call 24;(with_reducible refine(x.out _ j.out).mono ?_);rintro _ w4 ⟨rfl,f⟩;replace i:=hid (i.trans f);clear f))
   go_ret
   exact⟨rfl,i⟩
end
end Go.Proofs.YtjigcpfjhfoheaaGreatDoor
