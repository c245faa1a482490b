/- Walk: ParserScript. -/
import Derived.Test.YtjigcpfjhfoheaaGreatDoorVce
namespace Go.Proofs.YtjigcpfjhfoheaaGreatDoor
open Go.RowKit List Go.Proofs.Tryz
set_option maxHeartbeats 4000000
set_option maxRecDepth 100000
set_option linter.unusedVariables false
set_option linter.unusedSimpArgs false
section
open Lx (Tk)
theorem law_script (s:BA) (w:World) (K:s.size≤maxLen) (F:Pg w):Cl 5 #[.string s] w (Rt (.bool true) w):=by
 have n:=hid F
 have E:=hid (fun W h=>awk_any W h)
 have g:=hid (fun W=>vH s W K)
 clear F
 by_cases hs:s.size≤1500
 rotate_left
 ·have m:decide ((1500:Int)<(s.size:Int))=true:=by simp;omega
  rw[m]at g
  have b:=hid (Ext.refl w)
  go_enter func5,ntmps5
  go_wp2_with (first
   |(go_at_call 11;(with_reducible refine(E.out _ (n.out.ext b.out)).mono ?_);rintro _ A ⟨rfl,f⟩;replace b:=hid (b.trans f);clear f)
   |(go_at_call 12;(with_reducible refine(g.out _).mono ?_);rintro _ A ⟨rfl,f⟩;replace b:=hid (b.trans f);clear f))
  go_ret
  exact⟨rfl,b⟩
 have m:decide ((1500:Int)<(s.size:Int))=false:=by simp;omega
 rw[m]at g
 have C:=hid (fun W h=>oE s W (by omega) h)
 have D:=hid (fun W=>tH s W (by omega))
 generalize parL validS s=I at*
 obtain⟨l,P,e⟩:=I
 simp only at C D
 have b:=hid (Ext.refl w)
 clear hs m
 go_enter func5,ntmps5
 go_wp2_with (first
  |(go_at_call 11;(with_reducible refine(E.out _ (n.out.ext b.out)).mono ?_);rintro _ A ⟨rfl,f⟩;replace b:=hid (b.trans f);clear f)
  |(go_at_call 12;(with_reducible refine(g.out _).mono ?_);rintro _ A ⟨rfl,f⟩;replace b:=hid (b.trans f);clear f)
  |(go_at_call 20;(with_reducible refine(C.out _ (n.out.ext b.out)).mono ?_);rintro _ Q ⟨f,B,k,rfl,J,j⟩;replace b:=hid (b.trans f);have H:=hid j.now;clear f j)
  |(go_at_call 21;(with_reducible refine(D.out _).mono ?_);rintro _ O ⟨f,G,L,rfl,x,j⟩;replace b:=hid (b.trans f);have o:=hid j.now;have y:=hid f;clear f j x)
  |(go_at_call 22;refine(rsts_any l l B G k L O rfl J (tI (fun i s hs=>by obtain⟨cs,p,t,a,j,u⟩:=H i s hs;exact⟨cs,p,t,a,j,u.1⟩) y) (fun i s hs=>by obtain⟨cs,p,t,a,j,u⟩:=o i s hs;exact⟨cs,p,t,a,j,u.1⟩) (fun i _ _=>st_refl _)).mono ?_;rintro _ R ⟨rfl,z⟩))
 go_ret
 exact⟨aa (by simp),b.trans z⟩
end
end Go.Proofs.YtjigcpfjhfoheaaGreatDoor
