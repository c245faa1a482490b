/-
  Walks over the pattern package: Passes.
-/
import Derived.Test.YtbniemkllhhnfaaW2
import Derived.Test.YtbniemkllhhnfaaPure2
namespace Go.Proofs.Ytbniemkllhhnfaa
open Go.RowKit

theorem begin_any (v kd : Int) (ng : Bool) (p : ByteArray) (w : World) (hs : p.size ≤ 16) :
    Calls Try.prog 33 #[.agg #[.int .i64 v, .int .i64 kd, .bool ng, .string p]] w fun e w' => e = .returned (.int .u32 (beg kd (N p))) ∧ Ext w w' := by
  by_cases h : kd = 1
  · subst h; exact begin_like v ng p w hs
  · have := begin_cmp v kd ng p w (by simpa using h)
    simpa [beg, h] using this

theorem next_any (v kd : Int) (ng : Bool) (p : ByteArray) (s c : Nat) (w : World) (hs : p.size ≤ 16) (h1 : okSt kd (N p).length s) :
    Calls Try.prog 34 #[.agg #[.int .i64 v, .int .i64 kd, .bool ng, .string p], .int .u32 s, .int .u8 c] w fun e w' => e = .returned (.int .u32 (nx kd (N p) s c)) ∧ Ext w w' := by
  by_cases h : kd = 1
  · subst h; simpa [nx] using next_like v ng p s c w hs (by simpa [okSt] using h1)
  · have := next_cmp v kd ng p s c w (by simpa using h) hs (by simpa [okSt, h, N_len] using h1)
    simpa [nx, h] using this

set_option maxHeartbeats 400000 in
theorem passes_any (v kd : Int) (ng : Bool) (p t : ByteArray) (w : World) (hs : p.size ≤ 16) (ht : t.size ≤ 140737488351232) :
    Calls Try.prog 14 #[.agg #[.int .i64 v, .int .i64 kd, .bool ng, .string p], .string t] w fun e w' => e = .returned (.bool (psB kd ng (N p) (N t))) ∧ Ext w w' := by
  go_enter Try.func14, Try.ntmps14
  go_wp2_with fail
  refine (begin_any v kd ng p _ hs).mono ?_
  rintro e w1 ⟨rfl, hb1⟩
  have hE1 : Ext w w1 := ((Ext.refl w).alloc _).trans hb1
  have hc0 := hb1.keep (World.cell?_alloc_new w #[.int .i64 v, .int .i64 kd, .bool ng, .string p] 23 0)
  have hc1 := hb1.keep (World.cell?_alloc_new w #[.int .i64 v, .int .i64 kd, .bool ng, .string p] 23 1)
  have hc2 := hb1.keep (World.cell?_alloc_new w #[.int .i64 v, .int .i64 kd, .bool ng, .string p] 23 2)
  have hc3 := hb1.keep (World.cell?_alloc_new w #[.int .i64 v, .int .i64 kd, .bool ng, .string p] 23 3)
  clear hb1
  obtain ⟨cap, w2, hconv, hx2, hsz2, hcell2⟩ := conv_bytes (P := Try.prog) w1 9 57 5 t Try.underlying9 Try.underlying57 Try.underlying5
  have HC := hid hcell2
  have HS := hid hsz2
  clear hcell2 hsz2
  go_wp2_with fail
  go_loopw [5, 13] (fun s' i wr => ∃ k : Nat, k ≤ t.size ∧ i = .int .i64 k ∧ s' = .int .u32 (run kd (N p) ((N t).take k) (beg kd (N p))) ∧ Ext w2 wr) (fun _ i _ => t.size - (intOf i).toNat)
  case atStart => exact ⟨0, Nat.zero_le _, rfl, rfl, Ext.refl _⟩
  case round =>
    obtain ⟨k, hk, rfl, rfl, hbr⟩ := hrel
    have hst := run_ok kd (N p) ((N t).take k) _ (by rw [N_len]; exact hs) (beg_ok kd (N p) (by rw [N_len]; exact hs))
    have hsl := okSt_lt _ _ _ (by rw [N_len]; exact hs) hst
    have hrs := run_succ kd (N p) t (beg kd (N p)) k
    generalize hg : run kd (N p) ((N t).take k) (beg kd (N p)) = s1 at hst hsl hrs ⊢
    have HG := hid hg
    clear hg
    have hd0 := hbr.keep (hx2.keep hc0)
    have hd1 := hbr.keep (hx2.keep hc1)
    have hd2 := hbr.keep (hx2.keep hc2)
    have hd3 := hbr.keep (hx2.keep hc3)
    have HR := hid hrs
    clear hrs hc0 hc1 hc2 hc3 hconv
    by_cases hlt : k < t.size
    · have hck := hbr.keep (HC.out k hlt)
      go_wp2_with (go_at_call 34; refine (next_any v kd ng p s1 t[k].toNat _ hs hst).mono ?_; rintro e w3 ⟨rfl, hb3⟩)
      go_roundw
      case rel => exact ⟨k + 1, by omega, by go_num, vint (HR.out hlt).symm, hbr.trans hb3⟩
      case measure => simp [intOf]; omega
    · go_wp2_with (go_at_call 35; refine (passed_any v kd ng p s1 _ hs hsl).mono ?_; rintro e w3 ⟨rfl, hb3⟩)
      go_ret
      obtain rfl : k = t.size := by omega
      refine ⟨ret_bool ?_, hE1.trans (hx2.trans (hbr.trans hb3))⟩
      have h := HG.out
      rw [List.take_of_length_le (by rw [N_len]; exact Nat.le_refl _)] at h
      rw [psB, N_len, h]

end Go.Proofs.Ytbniemkllhhnfaa
