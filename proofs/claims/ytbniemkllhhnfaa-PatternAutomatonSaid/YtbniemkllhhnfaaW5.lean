/-
  Walks over the references of the pattern package: closed, start.
-/
import Derived.Test.YtbniemkllhhnfaaW3
import Derived.Test.YtbniemkllhhnfaaPure4
namespace Go.Proofs.Ytbniemkllhhnfaa
open Go.RowKit
set_option maxHeartbeats 400000
set_option maxRecDepth 100000

theorem info5 : (Try.prog.info? 5).map (fun i => (i.zero, i.size, i.bytes)) = some (some (.int .u8 0), 1, 1) := by kernel_rfl

theorem closed_any (p : ByteArray) (g n c : Nat) (x : List Nat) (w : World) (hb : Blk w g 5 (u8s x)) (hn : n = p.size + 1) (hx : x.length = n) (hs : p.size ≤ 16) :
    Calls Try.prog 48 #[.string p, .slice (some ⟨g, 0, none⟩) n c] w fun e w' => e = .returned (.string (S (rclo (N p) x))) ∧ Onl g w w' := by
  have HN := hid hn
  have HX := hid hx
  have hn1 : p.size < n := by omega
  clear hn hx
  go_enter Try.func48, Try.ntmps48
  go_wp2_with fail
  go_loopw [5] (fun i wr => ∃ k : Nat, k ≤ p.size ∧ i = .int .i64 k ∧ Blk wr g 5 (u8s (rcTo (N p) x k)) ∧ Onl g w wr) (fun i _ => p.size - (intOf i).toNat)
  case atStart => exact ⟨0, Nat.zero_le _, rfl, hb, Onl.refl _ _⟩
  case round =>
    obtain ⟨k, hk, rfl, hbr, hor⟩ := hrel
    have hlen : (rcTo (N p) x k).length = n := by rw [rcTo_len]; exact HX.out
    by_cases hlt : k < p.size
    · have hck := hbr.cell_some (u8s_get _ k (by omega))
      have hck1 := hbr.cell_some (u8s_get _ (k + 1) (by omega))
      have hfk1 := hbr.frozen (k + 1)
      have hset := (hbr.set (k + 1) (.int .u8 ((1 : Nat) : Int)))
      rw [← u8s_set] at hset
      have ho2 := hor.setCell (k + 1) (.int .u8 ((1 : Nat) : Int))
      have hst : rcTo (N p) x (k + 1) = if at0 (rcTo (N p) x k) k = 1 ∧ p[k].toNat = 37 then (rcTo (N p) x k).set (k + 1) 1 else rcTo (N p) x k := by
        rw [rcTo, rcStep, at0_N p k hlt]
      have HST := hid hst
      clear hst hb
      generalize rcTo (N p) x k = y at *
      have HL := hid hlen
      clear hlen
      by_cases h1 : ((at0 y k : Nat) : Int) = 1 ∧ (p[k].toNat : Int) = 37
      · obtain ⟨h1, h2⟩ := h1
        have e : Hid (rcTo (N p) x (k + 1) = y.set (k + 1) 1) := by rw [HST.out, if_pos ⟨by omega, by omega⟩]; exact rfl
        have b1 : ((at0 y k : Int) == 1) = true := by simpa using h1
        have b2 : ((p[k].toNat : Int) == 37) = true := by simpa using h2
        clear h1 h2
        go_wp2
        go_roundw
        case rel => exact ⟨k + 1, by omega, by go_num, by rw [e.out]; exact hset, ho2⟩
        case measure => simp [intOf]; omega
      · have e : Hid (rcTo (N p) x (k + 1) = y) := by rw [HST.out, if_neg (by omega)]; exact rfl
        cases b1 : ((at0 y k : Int) == 1)
        all_goals
          first | (have b2 : ((p[k].toNat : Int) == 37) = false := by simp at b1 ⊢; omega) | skip
          clear h1
          go_wp2
          go_roundw
          case rel => exact ⟨k + 1, by omega, by go_num, by rw [e.out]; exact hbr, hor⟩
          case measure => simp [intOf]; omega
    · have hcv := conv_string (P := Try.prog) 57 9 5 g n c _ Try.underlying57 Try.underlying5 Try.underlying9 hbr hlen
      go_wp2_with fail
      go_ret
      obtain rfl : k = p.size := by omega
      exact ⟨by rw [rclo, N_len]; rfl, hor⟩



theorem start_cmp (v kd : Int) (ng : Bool) (p : ByteArray) (w : World) (hkd : (kd != 1) = true) :
    Calls Try.prog 36 #[.agg #[.int .i64 v, .int .i64 kd, .bool ng, .string p]] w fun e w' => e = .returned (.string (S [61, 0])) ∧ Ext w w' := by
  have hcv := conv_one (P := Try.prog) 57 9 5 0 Try.underlying57 Try.underlying5 Try.underlying9
  simp only [Int.natCast_zero] at hcv
  go_enter Try.func36, Try.ntmps36
  go_wp2_with fail
  go_ret
  exact ⟨ret_str (by rw [S_cons 61 [0]]; rfl), ((Ext.refl _).alloc _).alloc _⟩

theorem start_like (v : Int) (ng : Bool) (p : ByteArray) (w : World) (hs : p.size ≤ 16) :
    Calls Try.prog 36 #[.agg #[.int .i64 v, .int .i64 1, .bool ng, .string p]] w fun e w' => e = .returned (.string (S (rbeg 1 (N p)))) ∧ Ext w w' := by
  obtain ⟨i0, hi, hz0, hz1, hz2⟩ := info_parts info5
  have hrep : Hid ((List.replicate (p.size + 1) (Value.int .u8 0))[0]? = some (.int .u8 0)) := by simp [Hid]
  go_enter Try.func36, Try.ntmps36
  go_wp2_with (at_make; refine wpList_mk rfl _ _ 57 rfl 5 i0 (.int .u8 0) Try.underlying57 hi hz0 hz1 rfl _ _ _ _ (p.size + 1) rfl rfl (by omega) (by omega) (by rw [hz2]; omega) (by omega) ?_; intro w2 hx2 hsz2 hb2; obtain ⟨hd0, hd1, hd2, hd3⟩ := box4 hx2; have hc2 := hb2.cell_some hrep.out; have hf2 := hb2.frozen 0; simp at hc2 hf2; have hbb := hid hb2; have hss := hid hsz2; clear hb2 hsz2)
  refine (closed_any p _ _ _ ((List.replicate (p.size + 1) 0).set 0 1) _ ?_ rfl (by simp) hs).mono ?_
  · have := hbb.out.set 0 (.int .u8 ((1 : Nat) : Int))
    simp only [World.size_alloc] at this
    rw [u8s_set]
    have e : u8s (List.replicate (p.size + 1) 0) = List.replicate (p.size + 1) (Value.int .u8 0) := by simp [u8s]
    rw [e]
    exact this
  rintro e w3 ⟨rfl, ho3⟩
  go_wp2_with fail
  go_ret
  refine ⟨ret_str ?_, ?_⟩
  · unfold rbeg
    rw [if_pos rfl, N_len]
  · exact Onl.ext ho3 ((((Ext.refl w).alloc _).trans hx2).setCell (by simp) _) (by simp)

end Go.Proofs.Ytbniemkllhhnfaa
