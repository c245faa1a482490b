/- Walk: ParserRoundTrip. -/
import Derived.Test.YtjigcpfjhfoheaaGreatDoorRcj
import Derived.Test.YtjigcpfjhfoheaaGreatDoorRce
import Derived.Test.YtjigcpfjhfoheaaGreatDoorRbi
import Derived.Test.YtjigcpfjhfoheaaGreatDoorRaj
namespace Go.Proofs.YtjigcpfjhfoheaaGreatDoor
open Go.RowKit
set_option maxHeartbeats 4000000
set_option maxRecDepth 100000
set_option linter.unusedVariables false
set_option linter.unusedSimpArgs false
section
open Lx (Tk)
theorem fl {P:Program} {ops:Array Oper} {rest:List Oper} {o:Oper} {a:Act} {w:World} {Q:Exit→Act→World→Prop} (j:Region.wanted o (yielded ops a.tmps)=true) (ty:TypeId) (x:Operand) (f:o.op= .load ty x)
  (g:Nat) (k:a.eval x= .pointer (some ⟨g,0,none⟩)) (t:TypeId) (cs:List Value) (d:TypeDesc) (e:Blk w g t cs)
  (i:P.underlying ty=some d) (hd:(match d with| .struct _| .array _ _=>true|_=>false)=true) (hi:(P.info? ty).map (·.size)=some cs.length)
  (h:wpList P ops Q rest (a.put o.dst (.agg cs.toArray)) w):wpList P ops Q (o::rest) a w:=by
 refine wpList_step fun K b=>?_
 rw[if_pos j]
 exact wp_load_row ty x f g k t cs.toArray (0,0) d e i hd (by simpa using hi) (b _ _ h)
theorem law_rt (s:St) (a:SA) (w:World) (z:StV w s a) (G:s.bulk≤1048576) (p:Pg w):
  Calls Tryz.prog 6 #[s.val a] w fun r w'=>r= .returned (.bool true)∧Ext w w':=by
 have E:=hid p
 have i:=hid z
 have B:Hid (validS s=0→parS validS (textS s)=(s.st0,0,0)∧(textS s).size≤20000∧s.st0.same s=true):=fun h=>by
  have y:=gD h
  unfold textS
  rw[if_pos h]
  exact⟨round_st h,Nat.le_trans y.2.2 (by omega),stst_same y.2.1⟩
 have o:=hid (fun W h=>qL s a W h G)
 have m:=hid (fun W h=>qB s a W h (nr s G))
 generalize s.small=sm at*
 generalize O:validS s=P at*
 clear p z
 have f:=hid ((Ext.refl w).alloc (.cells (s.cells a).toArray 40))
 have j:=hid (Blk.of_new w 40 (s.cells a))
 unfold St.val at*
 unfold St.cells Sl.v at*
 go_enter Tryz.func6,Tryz.ntmps6
 go_upto_region 1 with fail
 generalize w.alloc (.cells _ 40)=U at*
 replace i:=hid (i.ext f)
 generalize w.heap.size=g at*
 have A:=hid (fun W (L:Ext w W)=>awk_any W (E.ext L))
 cases sm
 ·go_wp2_with (first|(go_at_call 11;(with_reducible refine(A.out _ f.out).mono ?_);rintro _ I ⟨rfl,e⟩;replace j:=hid (j.ext e);replace i:=hid (i.ext e);replace f:=hid (f.trans e);clear e)|(refine am rfl 40 (.tmp 1) rfl g rfl 40 _ _ j Tryz.underlying40 rfl (by kernel_rfl) ?_)|(go_at_call 23;(with_reducible refine(m.out _ i.out).mono ?_);rintro _ J ⟨rfl,e⟩;replace f:=hid (f.trans e);clear e))
  go_ret
  exact⟨rfl,f⟩
 ·by_cases z:P=0
  ·subst z
   obtain⟨t,u,x⟩:=B rfl
   have n:=hid (fun W y=>eE (textS s) W u y)
   rw[t]at n
   simp only at n
   have C:=hid x
   clear t u x B
   go_upto_region 8 with (first|(go_at_call 11;(with_reducible refine(A.out _ f.out).mono ?_);rintro _ I ⟨rfl,e⟩;replace j:=hid (j.ext e);replace i:=hid (i.ext e);replace f:=hid (f.trans e);clear e)|(refine am rfl 40 (.tmp 1) rfl g rfl 40 _ _ j Tryz.underlying40 rfl (by kernel_rfl) ?_)|(go_at_call 23;(with_reducible refine(m.out _ i.out).mono ?_);rintro _ J ⟨rfl,e⟩;replace j:=hid (j.ext e);replace i:=hid (i.ext e);replace f:=hid (f.trans e);clear e)|(go_at_call 24;(with_reducible refine(o.out _ i.out).mono ?_);rintro _ Q ⟨rfl,e⟩;replace j:=hid (j.ext e);replace i:=hid (i.ext e);replace f:=hid (f.trans e);clear e))
   go_upto_region 9 with (first|(go_at_call 13;(with_reducible refine(n.out _ (E.out.ext f.out)).mono ?_);rintro _ D ⟨e,b,rfl,F⟩;replace j:=hid (j.ext e);replace i:=hid (i.ext e);replace f:=hid (f.trans e);clear e;have k:=hid F.now.1;clear F)|(refine Great.wpList_allocTo rfl _ rfl (.pointer (some ⟨_,0,none⟩)) (.cells zS.toArray 40) (by kernel_rfl) ?_)|(refine stS' rfl rfl rfl (St.cells s.st0 b) rfl rfl (cs:=zS) rfl rfl (by kernel_rfl) ?_))
   have e:=(Ext.refl D).alloc (.cells (St.cells s.st0 b).toArray 40)
   have l:=hid (Blk.of_new D 40 (St.cells s.st0 b))
   replace j:=hid (j.ext e)
   replace i:=hid (i.ext e)
   replace f:=hid (f.trans e)
   replace k:=hid (k.ext e)
   clear e
   generalize H:World.alloc _ _=R
   obtain⟨K,p⟩:∃g,D.heap.size=g:=⟨_,rfl⟩
   rw[H]at j i f k l
   rw[p]at l ⊢
   clear H p
   go_wp2_with (first|(refine fl rfl 40 (.tmp 5) rfl K rfl 40 _ _ l Tryz.underlying40 rfl (by kernel_rfl) ?_)|(refine fl rfl 40 (.tmp 1) rfl g rfl 40 _ _ j Tryz.underlying40 rfl (by kernel_rfl) ?_)|(go_at_call 15;refine(pB s.st0 s b a R k i).mono ?_;rintro _ V ⟨rfl,e⟩;rw[C.out]))
   go_ret
   exact⟨rfl,f.trans e⟩
  ·clear B
   go_wp2_with (first|(go_at_call 11;(with_reducible refine(A.out _ f.out).mono ?_);rintro _ I ⟨rfl,e⟩;replace j:=hid (j.ext e);replace i:=hid (i.ext e);replace f:=hid (f.trans e);clear e)|(refine am rfl 40 (.tmp 1) rfl g rfl 40 _ _ j Tryz.underlying40 rfl (by kernel_rfl) ?_)|(go_at_call 23;(with_reducible refine(m.out _ i.out).mono ?_);rintro _ J ⟨rfl,e⟩;replace j:=hid (j.ext e);replace i:=hid (i.ext e);replace f:=hid (f.trans e);clear e)|(go_at_call 24;(with_reducible refine(o.out _ i.out).mono ?_);rintro _ Q ⟨rfl,e⟩;replace f:=hid (f.trans e);clear e))
   go_ret
   exact⟨rfl,f⟩
end
end Go.Proofs.YtjigcpfjhfoheaaGreatDoor
