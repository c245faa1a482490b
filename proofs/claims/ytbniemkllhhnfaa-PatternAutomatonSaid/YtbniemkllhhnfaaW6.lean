/-
  Walks over the references of the pattern package: step.
-/
import Derived.Test.YtbniemkllhhnfaaW5
namespace Go.Proofs.Ytbniemkllhhnfaa
open Go.RowKit
set_option maxHeartbeats 1000000
set_option maxRecDepth 100000

theorem step_like (v : Int) (ng : Bool) (p s : ByteArray) (c : Nat) (w : World) (hs : p.size ≤ 16) (hsz : s.size = p.size + 1) :
    Calls Try.prog 37 #[.agg #[.int .i64 v, .int .i64 1, .bool ng, .string p], .string s, .int .u8 c] w fun e w' => e = .returned (.string (S (rnLike (N p) (N s) c))) ∧ Ext w w' := by
  obtain ⟨i0, hi, hz0, hz1, hz2⟩ := info_parts info5
  have hsz1 : p.size < s.size := by omega
  clear hsz
  go_enter Try.func37, Try.ntmps37
  go_wp2_with (at_make; refine wpList_mk rfl _ _ 57 rfl 5 i0 (.int .u8 0) Try.underlying57 hi hz0 hz1 rfl _ _ _ _ (p.size + 1) rfl rfl (by omega) (by omega) (by rw [hz2]; omega) (by omega) ?_; intro w2 hx2 hsz2 hb2; obtain ⟨hd0, hd1, hd2, hd3⟩ := box4 hx2; have hbb := hid hb2; have hss := hid hsz2; clear hb2 hsz2)
  have HB : Hid (Blk w2 (w.heap.size + 1) 5 (u8s (rnTo (N p) (N s) c 0))) := by
    have e : u8s (rnTo (N p) (N s) c 0) = List.replicate (p.size + 1) (Value.int .u8 0) := by simp [u8s, rnTo, N_len]
    have := hbb.out
    rw [← e] at this
    simp only [World.size_alloc] at this
    exact this
  have HX : Hid (Ext w w2) := ((Ext.refl w).alloc _).trans hx2
  clear hbb hss hx2
  go_loopw [9] (fun i wr => ∃ k : Nat, k ≤ p.size ∧ i = .int .i64 k ∧ Blk wr (w.heap.size + 1) 5 (u8s (rnTo (N p) (N s) c k)) ∧ Onl (w.heap.size + 1) w2 wr) (fun i _ => p.size - (intOf i).toNat)
  case atStart => exact ⟨0, Nat.zero_le _, rfl, HB.out, Onl.refl _ _⟩
  case round =>
    obtain ⟨k, hk, rfl, hbr, hor⟩ := hrel
    have hlen := rnTo_len (N p) (N s) c k
    rw [N_len] at hlen
    by_cases hlt : k < p.size
    · have hks : k < s.size := by omega
      have hck := hbr.cell_some (u8s_get _ k (by omega))
      have hck1 := hbr.cell_some (u8s_get _ (k + 1) (by omega))
      have hfk := hbr.frozen k
      have hfk1 := hbr.frozen (k + 1)
      have hsetA := (hbr.set k (.int .u8 ((1 : Nat) : Int)))
      rw [← u8s_set] at hsetA
      have hoA := hor.setCell k (.int .u8 ((1 : Nat) : Int))
      have hsetB := (hbr.set (k + 1) (.int .u8 ((1 : Nat) : Int)))
      rw [← u8s_set] at hsetB
      have hoB := hor.setCell (k + 1) (.int .u8 ((1 : Nat) : Int))
      have RN := hid (rn_none p s c k hlt hks)
      have RA := hid (rn_a p s c k hlt hks)
      have RB := hid (rn_b p s c k hlt hks)
      have HL := hid hlen
      clear hlen
      generalize rnTo (N p) (N s) c k = y at *
      cases b1 : ((s[k].toNat : Int) == 1)
      · have e : Hid (rnTo (N p) (N s) c (k + 1) = y) := RN.out (.inl (by intro h; simp [h] at b1))
        go_wp2
        go_roundw
        case rel => exact ⟨k + 1, by omega, by go_num, by rw [e.out]; exact hbr, hor⟩
        case measure => simp [intOf]; omega
      · have n1 : s[k].toNat = 1 := by simp at b1; omega
        have N1 := hid n1
        clear n1
        cases b37 : ((p[k].toNat : Int) == 37)
        · have N37 : Hid (p[k].toNat ≠ 37) := by intro h; simp [h] at b37
          cases b95 : ((p[k].toNat : Int) == 95)
          · have N95 : Hid (p[k].toNat ≠ 95) := by intro h; simp [h] at b95
            cases bc : ((p[k].toNat : Int) == (c : Int))
            · have e : Hid (rnTo (N p) (N s) c (k + 1) = y) := RN.out (.inr ⟨N37.out, N95.out, by intro h; simp [h] at bc⟩)
              go_wp2
              go_roundw
              case rel => exact ⟨k + 1, by omega, by go_num, by rw [e.out]; exact hbr, hor⟩
              case measure => simp [intOf]; omega
            · have nc : p[k].toNat = c := by simp at bc; omega
              have bn : ((c : Int) != 37) = true := by have := N37.out; simp; omega
              have NC := hid nc
              clear nc
              · have e : Hid (rnTo (N p) (N s) c (k + 1) = y.set (k + 1) 1) := RB.out N1.out N37.out (.inr NC.out)
                go_wp2
                go_roundw
                case rel => exact ⟨k + 1, by omega, by go_num, by rw [e.out]; exact hsetB, hoB⟩
                case measure => simp [intOf]; omega
          · have e : Hid (rnTo (N p) (N s) c (k + 1) = y.set (k + 1) 1) := RB.out N1.out N37.out (.inl (by simp at b95; omega))
            go_wp2
            go_roundw
            case rel => exact ⟨k + 1, by omega, by go_num, by rw [e.out]; exact hsetB, hoB⟩
            case measure => simp [intOf]; omega
        · have n37 : p[k].toNat = 37 := by simp at b37; omega
          have N37 := hid n37
          have b95 : ((p[k].toNat : Int) == 95) = false := by simp; omega
          clear n37
          cases bc : ((p[k].toNat : Int) == (c : Int))
          · have e : Hid (rnTo (N p) (N s) c (k + 1) = y.set k 1) := RA.out N1.out N37.out
            go_wp2
            go_roundw
            case rel => exact ⟨k + 1, by omega, by go_num, by rw [e.out]; exact hsetA, hoA⟩
            case measure => simp [intOf]; omega
          · have bn : ((c : Int) != 37) = false := by have := N37.out; simp at bc ⊢; omega
            · have e : Hid (rnTo (N p) (N s) c (k + 1) = y.set k 1) := RA.out N1.out N37.out
              go_wp2
              go_roundw
              case rel => exact ⟨k + 1, by omega, by go_num, by rw [e.out]; exact hsetA, hoA⟩
              case measure => simp [intOf]; omega
    · obtain rfl : k = p.size := by omega
      have hkeep3 := hor.keep hd3 (by simp)
      go_wp2_with fail
      refine (closed_any p _ _ _ _ _ hbr rfl hlen hs).mono ?_
      rintro e w3 ⟨rfl, ho3⟩
      go_wp2_with fail
      go_ret
      refine ⟨ret_str (by rw [rnLike, N_len]), Onl.ext (hor.trans ho3) HX.out (by simp)⟩

end Go.Proofs.Ytbniemkllhhnfaa
