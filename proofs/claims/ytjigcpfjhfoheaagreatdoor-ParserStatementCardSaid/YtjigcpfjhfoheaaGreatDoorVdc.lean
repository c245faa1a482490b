/- Walk: ParserStatement. -/
import Derived.Test.YtjigcpfjhfoheaaGreatDoorVdb
namespace Go.Proofs.YtjigcpfjhfoheaaGreatDoor
open Go.RowKit List Go.Proofs.Tryz
set_option maxHeartbeats 4000000
set_option maxRecDepth 100000
set_option linter.unusedVariables false
set_option linter.unusedSimpArgs false
section
open Lx (Tk)
theorem law_stm (s:BA) (w:World) (R:s.size≤maxLen) (K:Pg w):Cl 3 #[.string s] w (Rt (.bool true) w):=by
 have D:=hid K
 have E:=hid (fun W h=>awk_any W h)
 have k:=hid (fun W=>vH s W R)
 clear K
 by_cases hs:s.size≤1500
 rotate_left
 ·have m:decide ((1500:Int)<(s.size:Int))=true:=by simp;omega
  rw[m]at k
  have i:=hid (Ext.refl w)
  go_enter func3,ntmps3
  go_wp2_with (first
   |(go_at_call 11;(with_reducible refine(E.out _ (D.out.ext i.out)).mono ?_);rintro _ H ⟨rfl,f⟩;replace i:=hid (i.trans f);clear f)
   |(go_at_call 12;(with_reducible refine(k.out _).mono ?_);rintro _ H ⟨rfl,f⟩;replace i:=hid (i.trans f);clear f))
  go_ret
  exact⟨rfl,i⟩
 have m:decide ((1500:Int)<(s.size:Int))=false:=by simp;omega
 rw[m]at k
 have B:=hid (fun W h=>gY s W (by omega) h)
 have C:=hid (fun W=>oP s W (by omega))
 have G:=hid (parS_unb s)
 generalize parS validS s=O at*
 obtain⟨X,V,e⟩:=O
 simp only at B C G
 have i:=hid (Ext.refl w)
 clear hs m
 unfold St.val at B C
 go_enter func3,ntmps3
 go_upto_region 6 with (first
  |(go_at_call 11;(with_reducible refine(E.out _ (D.out.ext i.out)).mono ?_);rintro _ H ⟨rfl,f⟩;replace i:=hid (i.trans f);clear f)
  |(go_at_call 12;(with_reducible refine(k.out _).mono ?_);rintro _ H ⟨rfl,f⟩;replace i:=hid (i.trans f);clear f)
  |(go_at_call 13;(with_reducible refine(B.out _ (D.out.ext i.out)).mono ?_);rintro _ I ⟨f,a,rfl,z⟩;replace i:=hid (i.trans f);have l:=hid z.now.1;clear f z)
  |(refine Great.wpList_allocTo rfl _ rfl (.pointer (some ⟨_,0,none⟩)) (.cells zS.toArray 40) (by kernel_rfl) ?_)
  |(refine stS' rfl rfl rfl (St.cells X a) rfl rfl (cs:=zS) rfl rfl (by kernel_rfl) ?_))
 have f:=x10 I (.cells (St.cells X a).toArray 40)
 have j:=hid (Blk.of_new I 40 (St.cells X a))
 replace i:=hid (i.trans f)
 replace l:=hid (l.ext f)
 generalize p:World.alloc _ _=Y
 obtain⟨P,n⟩:∃g,I.heap.size=g:=⟨_,rfl⟩
 rw[p,n]at j
 rw[p]at i l
 rw[n]
 clear p n f B
 go_upto_region 7 with (first
  |(go_at_call 14;(with_reducible refine(C.out _).mono ?_);rintro _ J ⟨f,b,rfl,z⟩;replace i:=hid (i.trans f);replace l:=hid (l.ext f);replace j:=hid (j.ext f);have x:=hid z.now.1;clear f z)
  |(refine Great.wpList_allocTo rfl _ rfl (.pointer (some ⟨_,0,none⟩)) (.cells zS.toArray 40) (by kernel_rfl) ?_)
  |(refine stS' rfl rfl rfl (St.cells X b) rfl rfl (cs:=zS) rfl rfl (by kernel_rfl) ?_))
 have f:=x10 J (.cells (St.cells X b).toArray 40)
 have u:=hid (Blk.of_new J 40 (St.cells X b))
 replace i:=hid (i.trans f)
 replace l:=hid (l.ext f)
 replace x:=hid (x.ext f)
 replace j:=hid (j.ext f)
 generalize p:World.alloc _ _=L
 obtain⟨Q,o⟩:∃g,J.heap.size=g:=⟨_,rfl⟩
 rw[p,o]at u
 rw[p]at i l x j
 rw[o]
 clear p o f C
 have F:=hid (oF X X a b L l x)
 rw[st_refl]at F
 have y:=hid (fun W (h:Ext L W)=>wf X a W (l.ext h) G.1 G.2)
 unfold St.val at F y
 clear l x E k D
 go_wp2_with (first
  |(refine ldSg rfl 40 (.tmp 3) rfl P rfl 40 _ _ j underlying40 rfl (by kernel_rfl) ?_)
  |(refine ldSg rfl 40 (.tmp 6) rfl Q rfl 40 _ _ u underlying40 rfl (by kernel_rfl) ?_)
  |(go_at_call 15;(with_reducible refine F.out.mono ?_);rintro _ Z ⟨rfl,t⟩;replace j:=hid (j.ext t))
  |(go_at_call 16;(with_reducible refine(y.out _ t).mono ?_);rintro _ U ⟨rfl,A⟩))
 go_ret
 exact⟨aa (by simp),i.trans (t.trans A)⟩
end
end Go.Proofs.YtjigcpfjhfoheaaGreatDoor
