/-
  Walks over the references of the pattern package: Passes.
-/
import Derived.Test.YtbniemkllhhnfaaW6
import Derived.Test.YtbniemkllhhnfaaW7
import Derived.Test.YtbniemkllhhnfaaW7b
namespace Go.Proofs.Ytbniemkllhhnfaa
open Go.RowKit
set_option maxHeartbeats 1000000
set_option maxRecDepth 100000

theorem rstart_any (v kd : Int) (ng : Bool) (p : ByteArray) (w : World) (hs : p.size ≤ 16) :
    Calls Try.prog 36 #[.agg #[.int .i64 v, .int .i64 kd, .bool ng, .string p]] w fun e w' => e = .returned (.string (S (rbeg kd (N p)))) ∧ Ext w w' := by
  by_cases h : kd = 1
  · subst h; exact start_like v ng p w hs
  · have := start_cmp v kd ng p w (by simpa using h)
    simpa [rbeg, h] using this

theorem rstep_any (v kd : Int) (ng : Bool) (p : ByteArray) (l : List Nat) (c : Nat) (w : World) (hs : p.size ≤ 16) (hl : rok kd (N p).length l) :
    Calls Try.prog 37 #[.agg #[.int .i64 v, .int .i64 kd, .bool ng, .string p], .string (S l), .int .u8 c] w fun e w' => e = .returned (.string (S (rnx kd (N p) l c))) ∧ Ext w w' := by
  have hlt := rok_lt kd _ l (by rw [N_len]; exact hs) hl
  unfold rok at hl
  by_cases h : kd = 1
  · subst h
    rw [if_pos rfl] at hl
    have := step_like v ng p (S l) c w hs (by rw [S_size, hl.1, N_len])
    rw [N_S l hlt] at this
    simpa [rnx] using this
  · rw [if_neg h] at hl
    have hk : (kd == 1) = false := by simpa using h
    have e : rnx kd (N p) l c = rnCmp (N p) l c := by simp [rnx, h]
    rw [e]
    rcases hl with rfl | rfl | ⟨i, hi, rfl⟩
    · exact step_dec v kd ng p (S [62]) c w hk (by simp [S_size]) (by rw [S_byte _ _ _ hlt]; simp [at0])
    · exact step_dec v kd ng p (S [60]) c w hk (by simp [S_size]) (by rw [S_byte _ _ _ hlt]; simp [at0])
    · exact step_eq v kd ng p (S [61, i]) c i w hs hk (by simp [S_size]) (by rw [S_byte _ _ _ hlt]; simp [at0]) (by rw [N_len] at hi; exact hi) (by rw [S_byte _ _ _ hlt]; simp [at0])

theorem rfinal_any (v kd : Int) (ng : Bool) (p : ByteArray) (l : List Nat) (w : World) (hs : p.size ≤ 16) (hkd : 0 ≤ kd ∧ kd ≤ 3) (hl : rok kd (N p).length l) :
    Calls Try.prog 38 #[.agg #[.int .i64 v, .int .i64 kd, .bool ng, .string p], .string (S l)] w fun e w' => e = .returned (.bool (rfin kd (N p).length l != ng)) ∧ Ext w w' := by
  have hlt := rok_lt kd _ l (by rw [N_len]; exact hs) hl
  unfold rok at hl
  by_cases h : kd = 1
  · subst h
    rw [if_pos rfl] at hl
    have hsz : p.size < (S l).size := by rw [S_size, hl.1, N_len]; omega
    have := final_like v ng p (S l) w hs hsz
    rw [S_byte _ _ _ hlt] at this
    simpa [rfin, N_len] using this
  · rw [if_neg h] at hl
    rcases hl with rfl | rfl | ⟨i, hi, rfl⟩
    · have := final_dec v kd ng p (S [62]) w (by omega) (by simp [S_size]) (by rw [S_byte _ _ _ hlt]; simp [at0]) false (by rw [S_byte _ _ _ hlt]; simp [at0])
      simpa [rfin, h, at0] using this
    · have := final_dec v kd ng p (S [60]) w (by omega) (by simp [S_size]) (by rw [S_byte _ _ _ hlt]; simp [at0]) true (by rw [S_byte _ _ _ hlt]; simp [at0])
      simpa [rfin, h, at0] using this
    · have := final_eq v kd ng p (S [61, i]) w (by omega) (by simp [S_size]) (by rw [S_byte _ _ _ hlt]; simp [at0]) (by rw [S_byte _ _ _ hlt]; simp [at0]) (i == p.size) (by rw [S_byte _ _ _ hlt]; simp only [at0]; exact ibeq _ _)
      have e : rfin kd (N p).length [61, i] = (kd == 0 && (i == p.size) || kd == 2 && !(i == p.size) || kd == 3) := by
        rw [N_len]; unfold rfin; rw [if_neg h]; simp [at0]
      rw [e]
      exact this

theorem rpasses_any (v kd : Int) (ng : Bool) (p t : ByteArray) (w : World) (hs : p.size ≤ 16) (hkd : 0 ≤ kd ∧ kd ≤ 3) (ht : t.size ≤ 140737488351232) :
    Calls Try.prog 15 #[.agg #[.int .i64 v, .int .i64 kd, .bool ng, .string p], .string t] w fun e w' => e = .returned (.bool (rpsB kd ng (N p) (N t))) ∧ Ext w w' := by
  have HK := hid hkd
  clear hkd
  go_enter Try.func15, Try.ntmps15
  go_wp2_with fail
  refine (rstart_any v kd ng p _ hs).mono ?_
  rintro e w1 ⟨rfl, hx1⟩
  obtain ⟨hc0, hc1, hc2, hc3⟩ := box4 hx1
  have HX := hid (((Ext.refl w).alloc _).trans hx1)
  clear hx1
  go_wp2_with fail
  go_loopw [5, 6] (fun s' i wr => ∃ k : Nat, k ≤ t.size ∧ i = .int .i64 k ∧ s' = .string (S (rrun kd (N p) ((N t).take k) (rbeg kd (N p)))) ∧ Ext w1 wr) (fun _ i _ => t.size - (intOf i).toNat)
  case atStart => exact ⟨0, Nat.zero_le _, rfl, rfl, Ext.refl _⟩
  case round =>
    obtain ⟨k, hk, rfl, rfl, hbr⟩ := hrel
    have hst := rrun_ok kd (N p) ((N t).take k) _ (rbeg_ok kd (N p))
    have hrs := hid (rrun_succ kd (N p) t (rbeg kd (N p)) k)
    generalize hg : rrun kd (N p) ((N t).take k) (rbeg kd (N p)) = s1 at *
    have HG := hid hg
    clear hg
    by_cases hlt : k < t.size
    · have hl0 := Later.keep (hbr.keep hc0)
      have hl1 := Later.keep (hbr.keep hc1)
      have hl2 := Later.keep (hbr.keep hc2)
      have hl3 := Later.keep (hbr.keep hc3)
      clear hc0 hc1 hc2 hc3
      go_wp2_with fail
      refine wp_region_later (by kernel_rfl) (by kernel_rfl) ?_
      repeat (go_big_quiet_step ((go_at_call 37; exact later_of (rstep_any v kd ng p s1 t[k].toNat _ hs hst))))
      refine wpQuiet_nil ?_
      intro w' hw'
      have hx := later_out hw'
      clear hw' hl0 hl1 hl2 hl3
      go_wp2_with fail
      go_roundw
      case rel => exact ⟨k + 1, by omega, by go_num, by rw [hrs.out hlt], hbr.trans hx⟩
      case measure => simp [intOf]; omega
    · have hd0 := hbr.keep hc0
      have hd1 := hbr.keep hc1
      have hd2 := hbr.keep hc2
      have hd3 := hbr.keep hc3
      clear hc0 hc1 hc2 hc3
      go_wp2_with fail
      refine (rfinal_any v kd ng p s1 _ hs HK.out hst).mono ?_
      rintro e w3 ⟨rfl, hb3⟩
      go_wp2_with fail
      go_ret
      obtain rfl : k = t.size := by omega
      refine ⟨ret_bool ?_, HX.out.trans (hbr.trans hb3)⟩
      have h := HG.out
      rw [List.take_of_length_le (by rw [N_len]; exact Nat.le_refl _)] at h
      rw [rpsB, h]

end Go.Proofs.Ytbniemkllhhnfaa
