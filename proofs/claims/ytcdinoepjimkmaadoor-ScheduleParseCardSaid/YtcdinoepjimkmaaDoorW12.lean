/-
  Walks over the schedule package's reference: digits, number.
-/
import Derived.Test.YtcdinoepjimkmaaDoorPar
namespace Go.Proofs.YtcdinoepjimkmaaDoor
open Go.RowKit
set_option linter.unusedVariables false
set_option maxHeartbeats 1000000
set_option maxRecDepth 100000

theorem b_ext {a b : ByteArray} (h : a.data.toList = b.data.toList) : a = b := by
  obtain ⟨⟨a⟩⟩ := a
  obtain ⟨⟨b⟩⟩ := b
  simpa using h
theorem dig_size (u : Nat) (h : u ≤ 1000000) : (⟨(Lib.decDigits u).toArray⟩ : ByteArray).size ≤ 1000 := by
  have := digits_len u h
  show (Lib.decDigits u).length ≤ 1000
  omega
def numV : Option Nat → Int
  | some n => (n : Int)
  | none => -1
theorem S_byte (x : Nat) : S [x] = ⟨[UInt8.ofNat x].toArray⟩ := rfl
theorem digits_any : ∀ (m u : Nat) (w : World), u ≤ m → u ≤ 1000000 → Calls Tryd.prog 41 #[.int .i64 u] w fun e w' => e = .returned (.string ⟨(Lib.decDigits u).toArray⟩) ∧ Ext w w' := by
  intro m
  have hone : ∀ (u : Nat) (w : World), u < 10 → Calls Tryd.prog 41 #[.int .i64 u] w fun e w' => e = .returned (.string ⟨(Lib.decDigits u).toArray⟩) ∧ Ext w w' := by
    intro u w h10
    have hcv : ∀ W : World, (convert 56 9 (.slice (some ⟨W.heap.size, 0, none⟩) 1 1)).run Tryd.prog (W.alloc (.cells #[.int .u8 (48 + (u : Int) % 10)] 5)) = .ok (.string (S [48 + u % 10])) (W.alloc (.cells #[.int .u8 (48 + (u : Int) % 10)] 5)) := by
      intro W
      have := conv_one (P := Tryd.prog) 56 9 5 (48 + u % 10) Tryd.underlying56 Tryd.underlying5 Tryd.underlying9 W W.heap.size rfl
      rw [show ((48 + u % 10 : Nat) : Int) = 48 + (u : Int) % 10 by omega] at this
      exact this
    have HR : Hid (S [48 + u % 10] = ⟨(Lib.decDigits u).toArray⟩) := by
      unfold Hid
      rw [Lib.decDigits, dif_pos h10, S_byte, Nat.mod_eq_of_lt h10]
    go_enter Tryd.func41, Tryd.ntmps41
    go_wp2_with fail
    go_ret
    exact ⟨by rw [← HR.out]; rfl, (Ext.refl w).alloc _⟩
  induction m with
  | zero =>
    intro u w h hb
    exact hone u w (by omega)
  | succ m ih =>
    intro u w h hb
    by_cases h10 : u < 10
    · exact hone u w h10
    · have hcv : ∀ W : World, (convert 56 9 (.slice (some ⟨W.heap.size, 0, none⟩) 1 1)).run Tryd.prog (W.alloc (.cells #[.int .u8 (48 + (u : Int) % 10)] 5)) = .ok (.string (S [48 + u % 10])) (W.alloc (.cells #[.int .u8 (48 + (u : Int) % 10)] 5)) := by
        intro W
        have := conv_one (P := Tryd.prog) 56 9 5 (48 + u % 10) Tryd.underlying56 Tryd.underlying5 Tryd.underlying9 W W.heap.size rfl
        rw [show ((48 + u % 10 : Nat) : Int) = 48 + (u : Int) % 10 by omega] at this
        exact this
      have HI : Hid (∀ W, Calls Tryd.prog 41 #[.int .i64 ((u : Int) / 10)] W fun e w' => e = .returned (.string ⟨(Lib.decDigits (u / 10)).toArray⟩) ∧ Ext W w') := by
        intro W
        have := ih (u / 10) W (by omega) (by omega)
        rw [show ((u / 10 : Nat) : Int) = (u : Int) / 10 by omega] at this
        exact this
      have hsz : (⟨(Lib.decDigits (u / 10)).toArray⟩ : ByteArray).size ≤ 1000 := dig_size _ (by omega)
      have HR : Hid ((⟨(Lib.decDigits (u / 10)).toArray⟩ : ByteArray) ++ S [48 + u % 10] = ⟨(Lib.decDigits u).toArray⟩) := by
        unfold Hid
        conv => rhs; rw [Lib.decDigits, dif_neg h10]
        rw [S_byte]
        apply b_ext
        rw [ByteArray.data_append, Array.toList_append]
      have hs1 : (S [48 + u % 10]).size = 1 := rfl
      generalize (⟨(Lib.decDigits (u / 10)).toArray⟩ : ByteArray) = F at *
      clear ih
      go_enter Tryd.func41, Tryd.ntmps41
      go_wp2_with (go_at_call 41; refine (HI.out _).mono ?_; rintro e w1 ⟨rfl, hx1⟩)
      go_ret
      exact ⟨by rw [← HR.out]; rfl, ((Ext.refl w).alloc _).trans hx1⟩
theorem number_any (s : ByteArray) (w : World) (hs : s.size ≤ 4000) : Calls Tryd.prog 42 #[.string s] w fun e w' => e = .returned (.int .i64 (numR s.data.toList)) ∧ w' = w := by
  have HV0 : Hid (numR s.data.toList = numV (numF s.data.toList 0)) := rfl
  generalize numR s.data.toList = V at *
  go_enter Tryd.func42, Tryd.ntmps42
  go_wp2_with fail
  go_loop [3, 4] (fun nv i => ∃ k n : Nat, k ≤ s.size ∧ i = .int .i64 k ∧ nv = .int .i64 n ∧ n ≤ 10000009 ∧ V = numV (numF (s.data.toList.drop k) n)) (fun _ i => s.size - (intOf i).toNat)
  case atStart => exact ⟨0, 0, Nat.zero_le _, rfl, rfl, Nat.zero_le _, HV0.out⟩
  case round =>
    obtain ⟨k, n, hk, rfl, rfl, hn, hv⟩ := hrel
    have HV := hid hv
    clear hv HV0
    by_cases hlt : k < s.size
    · have HD : Hid (s.data.toList.drop k = s[k] :: s.data.toList.drop (k + 1)) := List.drop_eq_getElem_cons (show k < s.data.toList.length from hlt)
      by_cases hc : s[k].toNat < 48 ∨ 57 < s[k].toNat ∨ 1000000 < n
      · have HE : Hid (V = -1) := by unfold Hid; rw [HV.out, HD.out, numF, if_pos hc]; rfl
        go_wp2_with fail
        all_goals
          go_ret
          exact ⟨ret_int HE.out.symm, rfl⟩
      · have HE : Hid (V = numV (numF (s.data.toList.drop (k + 1)) (n * 10 + (s[k].toNat - 48)))) := by unfold Hid; rw [HV.out, HD.out, numF, if_neg hc]
        have h1 : 48 ≤ s[k].toNat := by omega
        have h2 : s[k].toNat ≤ 57 := by omega
        have h3 : n ≤ 1000000 := by omega
        clear hc
        go_wp2_with fail
        go_round
        case rel => exact ⟨k + 1, n * 10 + (s[k].toNat - 48), by omega, by go_num, by go_num, by omega, HE.out⟩
        case measure => simp [intOf]; omega
    · have HE : Hid (V = (n : Int)) := by
        unfold Hid
        rw [HV.out, List.drop_of_length_le (by show s.size ≤ _; omega)]
        rfl
      go_wp2_with fail
      go_ret
      exact ⟨ret_int HE.out.symm, rfl⟩
end Go.Proofs.YtcdinoepjimkmaaDoor
