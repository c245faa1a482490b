/-
  Walks over the references of the pattern package: final of a comparison.
-/
import Derived.Test.YtbniemkllhhnfaaW5
namespace Go.Proofs.Ytbniemkllhhnfaa
open Go.RowKit
set_option maxHeartbeats 1000000
set_option maxRecDepth 100000

theorem final_dec (v kd : Int) (ng : Bool) (p s : ByteArray) (w : World) (hkd : kd = 0 ∨ kd = 2 ∨ kd = 3) (hsz : 0 < s.size) (h0 : ((s[0].toNat : Int) == 61) = false) (b : Bool) (hb : ((s[0].toNat : Int) == 60) = b) :
    Calls Try.prog 38 #[.agg #[.int .i64 v, .int .i64 kd, .bool ng, .string p], .string s] w fun e w' => e = .returned (.bool ((kd == 2 && b || kd == 3 && b) != ng)) ∧ Ext w w' := by
  obtain ⟨hl0, hl1, hl2, hl3⟩ := boxL w (.int .i64 v) (.int .i64 kd) (.bool ng) (.string p) 23
  rcases hkd with rfl | rfl | rfl <;> cases b
  all_goals
    go_enter Try.func38, Try.ntmps38
    go_wp2_with fail
    refine wp_region_later (by kernel_rfl) (by kernel_rfl) ?_
    repeat (go_big_quiet_step (fail))
    refine wpQuiet_nil ?_
    intro w' hw'
    have hx := later_out hw'
    clear hw' hl0 hl1 hl2 hl3
    obtain ⟨hd0, hd1, hd2, hd3⟩ := box4 hx
    have HX := hid (((Ext.refl w).alloc _).trans hx)
    clear hx
    go_wp2_with fail
    go_ret
    exact ⟨ret_bool (by cases ng <;> rfl), HX.out⟩

theorem final_eq (v kd : Int) (ng : Bool) (p s : ByteArray) (w : World) (hkd : kd = 0 ∨ kd = 2 ∨ kd = 3) (hsz : 1 < s.size) (h0 : ((s[0].toNat : Int) == 61) = true) (h60 : ((s[0].toNat : Int) == 60) = false) (b : Bool) (hb : ((s[1].toNat : Int) == (p.size : Int)) = b) :
    Calls Try.prog 38 #[.agg #[.int .i64 v, .int .i64 kd, .bool ng, .string p], .string s] w fun e w' => e = .returned (.bool ((kd == 0 && b || kd == 2 && !b || kd == 3) != ng)) ∧ Ext w w' := by
  obtain ⟨hl0, hl1, hl2, hl3⟩ := boxL w (.int .i64 v) (.int .i64 kd) (.bool ng) (.string p) 23
  rcases hkd with rfl | rfl | rfl <;> cases b
  all_goals
    have hz0 : 0 < s.size := by omega
    have hz1 : (1 : Int) < (s.size : Int) := by omega
    have hw1 : IntKind.i64.wrap (s[1].toNat : Int) = (s[1].toNat : Int) := IntWalk.i64_in _ (by have := s[1].toNat_lt; omega)
    go_enter Try.func38, Try.ntmps38
    go_wp2_with fail
    refine wp_region_later (by kernel_rfl) (by kernel_rfl) ?_
    repeat (go_big_quiet_step (fail))
    refine wpQuiet_nil ?_
    intro w' hw'
    have hx := later_out hw'
    clear hw' hl0 hl1 hl2 hl3
    obtain ⟨hd0, hd1, hd2, hd3⟩ := box4 hx
    have HX := hid (((Ext.refl w).alloc _).trans hx)
    clear hx
    go_wp2_with fail
    go_ret
    exact ⟨ret_bool (by cases ng <;> rfl), HX.out⟩

end Go.Proofs.Ytbniemkllhhnfaa
