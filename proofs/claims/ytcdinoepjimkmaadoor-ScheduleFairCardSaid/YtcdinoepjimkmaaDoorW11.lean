/-
  Walk over the law ScheduleFair.
-/
import Derived.Test.YtcdinoepjimkmaaDoorW8
namespace Go.Proofs.YtcdinoepjimkmaaDoor
open Go.RowKit
set_option maxHeartbeats 2000000
set_option maxRecDepth 100000

/-- the i-th step of a round robin -/
theorem rowL_get (S i : Nat) (h : i < S) : (rowL S)[i]? = some ⟨1, i, 0, 0⟩ := by
  unfold rowL
  rw [List.getElem?_map, List.getElem?_range h]
  rfl
theorem rrL_get (S : Nat) : ∀ (r i : Nat), i < r * S → (rrL S r)[i]? = some ⟨1, ((i % S : Nat) : Int), 0, 0⟩ := by
  intro r
  induction r with
  | zero => intro i h; simp at h
  | succ r ih =>
    intro i h
    rw [Nat.succ_mul] at h
    rw [rrL]
    by_cases hi : i < r * S
    · rw [List.getElem?_append_left (by rw [rrL_len]; exact hi)]
      exact ih i hi
    · rw [List.getElem?_append_right (by rw [rrL_len]; omega), rrL_len, rowL_get S _ (by omega)]
      have e : i % S = i - r * S := by
        have h1 : i = (i - r * S) + S * r := by rw [Nat.mul_comm S r]; omega
        conv => lhs; rw [h1]
        rw [Nat.add_mul_mod_self_left, Nat.mod_eq_of_lt (by omega)]
      rw [e]
/-- how many of the numbers from at on, k of them, leave s -/
def cnt (S s at_ : Nat) : Nat → Nat
  | 0 => 0
  | k + 1 => cnt S s at_ k + if (at_ + k) % S = s then 1 else 0
theorem cnt_le (S s at_ k : Nat) : cnt S s at_ k ≤ k := by
  induction k with
  | zero => exact Nat.le_refl _
  | succ k ih => rw [cnt]; split <;> omega
theorem cnt_shift (S s at_ k : Nat) : cnt S s (at_ + 1) k + (if at_ % S = s then 1 else 0) = cnt S s at_ (k + 1) := by
  induction k with
  | zero => simp [cnt]
  | succ k ih =>
    rw [cnt, cnt, ← ih]
    have e : at_ + 1 + k = at_ + (k + 1) := by omega
    rw [e]
    omega
theorem cnt_zero (S s k : Nat) (hk : k ≤ S) : cnt S s 0 k = if s < k then 1 else 0 := by
  induction k with
  | zero => simp [cnt]
  | succ k ih =>
    rw [cnt, ih (by omega), Nat.zero_add, Nat.mod_eq_of_lt (by omega)]
    split <;> split <;> split <;> omega
theorem cnt_full (S s at_ : Nat) (h : s < S) : cnt S s at_ S = 1 := by
  induction at_ with
  | zero => rw [cnt_zero S s S (Nat.le_refl _), if_pos h]
  | succ at_ ih =>
    obtain ⟨T, rfl⟩ : ∃ T, S = T + 1 := ⟨S - 1, by omega⟩
    have h1 := cnt_shift (T + 1) s at_ T
    have h2 : cnt (T + 1) s (at_ + 1) (T + 1) = cnt (T + 1) s (at_ + 1) T + if (at_ + 1 + T) % (T + 1) = s then 1 else 0 := rfl
    have e : (at_ + 1 + T) % (T + 1) = at_ % (T + 1) := by
      have : at_ + 1 + T = at_ + (T + 1) := by omega
      rw [this, Nat.add_mod_right]
    rw [h2, e, h1, ih]

theorem acts_drop {w : World} {b off : Nat} {l : List Act} (h : ActsAt w (some ⟨b, off, none⟩) l) (t : Nat) : ActsAt w (some ⟨b, off + t * 4, none⟩) (l.drop t) := fun i a ha => by
  rw [List.getElem?_drop] at ha
  obtain ⟨c0, c1, c2, c3⟩ := acts_at h ha
  refine ⟨_, _, rfl, ?_, ?_, ?_, ?_⟩
  all_goals
    first
    | (rw [show off + t * 4 + i * 4 = off + (t + i) * 4 by omega]; first | exact c0 | exact c1 | exact c2 | exact c3)
theorem own_cap {w : World} {B e sz n : Nat} {A : Option Addr} {c : Nat} {xs : List Value} (h : w.ownsRow B e sz (.slice A n c) n xs) : n ≤ c := by
  rcases h.2 with ⟨h1, h2⟩ | ⟨g, cap, cur, h1, _, _, h3, _⟩
  · omega
  · injection h1 with _ _ h1
    omega

theorem law_fair (a b at_ : Int) (w : World) (ha : 0 ≤ a ∧ a ≤ 255) (hb : 0 ≤ b ∧ b ≤ 255) (hat : -9223372036854775808 ≤ at_ ∧ at_ ≤ 9223372036854775807) :
    Calls Tryd.prog 4 #[.int .u8 a, .int .u8 b, .int .i64 at_] w fun e w' => e = .returned (.bool true) ∧ Ext w w' := by
  obtain ⟨S, hS⟩ : ∃ S : Nat, a % 8 + 1 = (S : Int) := ⟨(a % 8 + 1).toNat, by omega⟩
  obtain ⟨R, hR⟩ : ∃ R : Nat, b % 40 = (R : Int) := ⟨(b % 40).toNat, by omega⟩
  have hS1 : 1 ≤ S ∧ S ≤ 8 := by omega
  have hR1 : R ≤ 39 := by omega
  have HCS : Hid (cl (S : Int) 0 8 = (S : Int)) := cl_id _ _ _ (by omega) (by omega)
  have HCR : Hid (cl (R : Int) 0 10000 = (R : Int)) := cl_id _ _ _ (by omega) (by omega)
  obtain ⟨L, hL⟩ : ∃ L : Nat, L = R * S := ⟨_, rfl⟩
  have hLb : L ≤ 312 := by
    have : R * S ≤ 39 * 8 := Nat.mul_le_mul hR1 hS1.2
    omega
  have HL := hid hL
  have hne : ((L : Int) != (S : Int) * (R : Int)) = false := by
    have : (L : Int) = (S : Int) * (R : Int) := by rw [hL, Int.natCast_mul, Int.mul_comm]
    simp [this]
  have hml : IntKind.i64.wrap ((S : Int) * (R : Int)) = (S : Int) * (R : Int) := by
    have h1 : (S : Int) * (R : Int) = (L : Int) := by rw [hL, Int.natCast_mul, Int.mul_comm]
    rw [h1]
    exact IntWalk.i64_in _ (by omega)
  clear hL
  have pre : ∀ (K : Prop), K → K := fun _ k => k
  go_enter Tryd.func4, Tryd.ntmps4
  go_wp2_with fail
  have HS := hid hS
  have HR := hid hR
  clear hS hR
  refine (awake_any _).mono ?_
  rintro e w1 ⟨rfl, hx1⟩
  go_wp2_with fail
  refine (rr_any S R S R _ HCS.out HCR.out).mono ?_
  rintro e w2 ⟨v, rfl, hown, hx2⟩
  rw [← HL.out] at hown
  obtain ⟨A, c, rfl, hA, hlen⟩ := own_acts hown
  have hcap := own_cap hown
  have HA := hid hA
  have HX := hid (hx1.trans hx2)
  clear hown hA hx1 hx2 hlen pre
  by_cases h1 : at_ < 0
  · go_wp2_with fail
    go_ret
    exact ⟨rfl, HX.out⟩
  by_cases h2 : (L : Int) - (S : Int) < at_
  · go_wp2_with fail
    go_ret
    exact ⟨rfl, HX.out⟩
  obtain ⟨T, rfl⟩ : ∃ T : Nat, at_ = (T : Int) := ⟨at_.toNat, by omega⟩
  have hTS : T + S ≤ L := by omega
  have hTc : T < c := by omega
  have hTSc : T + S ≤ c := by omega
  obtain ⟨b0, off, rfl⟩ := acts_some HA.out (fun e => by have h := rrL_len S R; rw [e] at h; have := HL.out; simp at h; omega)
  have HD := hid (acts_drop HA.out T)
  have HG : Hid (∀ j, j < S → ((rrL S R).drop T)[j]? = some ⟨1, (((T + j) % S : Nat) : Int), 0, 0⟩) := fun j hj => by
    rw [List.getElem?_drop]
    exact rrL_get S R (T + j) (by have := HL.out; omega)
  clear h1 h2
  go_wp2_with fail
  go_loopw [43] (fun i wr => ∃ k : Nat, k ≤ S ∧ i = .int .i64 k ∧ Ext w2 wr) (fun i _ => S - (intOf i).toNat)
  case atStart => exact ⟨0, Nat.zero_le _, rfl, Ext.refl _⟩
  case round =>
    obtain ⟨k, hk, rfl, hxr⟩ := hrel
    obtain ⟨wo, rfl⟩ : ∃ wo : World, wo = wr := ⟨_, rfl⟩
    by_cases hlt : k < S
    · have HXR := hid hxr
      clear hxr
      go_wp2_with fail
      go_loopw [11, 53] (fun cv jv wi => ∃ j : Nat, j ≤ S ∧ jv = .int .i64 j ∧ cv = .int .i64 (cnt S k T j : Nat) ∧ Ext w2 wi) (fun _ jv _ => S - (intOf jv).toNat)
      case atStart => exact ⟨0, Nat.zero_le _, rfl, rfl, HXR.out⟩
      case round =>
        obtain ⟨j, hj, rfl, rfl, hxi⟩ := hrel
        have HXI := hid hxi
        clear hxi
        by_cases hjt : j < S
        · obtain ⟨c0, c1, c2, c3⟩ := acts_at (HD.out.ext HXI.out) (HG.out j hjt)
          have hcl := cnt_le S k T j
          have HCN : Hid (cnt S k T (j + 1) = cnt S k T j + if (T + j) % S = k then 1 else 0) := rfl
          generalize hq : (T + j) % S = q at *
          have HQ := hid hq
          clear hq
          generalize hcn : cnt S k T j = cj at *
          have HCJ := hid hcn
          clear hcn
          by_cases hqk : q = k
          · have hb1 : ((q : Int) == (k : Int)) = true := by simp [hqk]
            have HQK := hid hqk
            clear hqk
            go_wp2_with fail
            go_roundw
            case rel =>
              refine ⟨j + 1, by omega, by go_num, ?_, HXI.out.alloc _⟩
              rw [HCN.out, if_pos HQK.out]
              go_num
            case measure => simp [intOf]; omega
          · have hb1 : ((q : Int) == (k : Int)) = false := by simp; omega
            have HQK : Hid (¬ q = k) := hqk
            clear hqk
            go_wp2_with fail
            go_roundw
            case rel =>
              refine ⟨j + 1, by omega, by go_num, ?_, HXI.out.alloc _⟩
              rw [HCN.out, if_neg HQK.out, Nat.add_zero]
            case measure => simp [intOf]; omega
        · obtain rfl : j = S := by omega
          rw [cnt_full _ _ _ hlt]
          go_wp2_with fail
          go_roundw
          case rel => exact ⟨k + 1, by omega, by go_num, HXI.out⟩
          case measure => simp [intOf]; omega
    · obtain rfl : k = S := by omega
      go_wp2_with fail
      go_ret
      exact ⟨rfl, HX.out.trans hxr⟩

end Go.Proofs.YtcdinoepjimkmaaDoor
