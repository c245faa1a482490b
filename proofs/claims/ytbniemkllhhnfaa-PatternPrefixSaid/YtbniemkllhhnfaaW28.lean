/-
  Walks: the reference's Lengths and Prefix; strings.Count, strings.HasPrefix (turned from the shelf's templates); Lengths.
-/
import Derived.Test.YtbniemkllhhnfaaW3
import Derived.Lib.Strings
import Derived.Lib.Slices
import Derived.Lib.Walk
import Derived.Lib.Bytealg
namespace Go.Proofs.Ytbniemkllhhnfaa
open Go.RowKit
set_option maxHeartbeats 1000000
set_option maxRecDepth 100000

def lenF (l : List Nat) : Nat := (l.filter (· != 37)).length
def anyF (l : List Nat) : Bool := l.any (· == 37)
theorem lenF_app (a : List Nat) (x : Nat) : lenF (a ++ [x]) = lenF a + (if x = 37 then 0 else 1) := by
  unfold lenF; rw [List.filter_append, List.length_append]
  by_cases h : x = 37 <;> simp [h]
theorem anyF_app (a : List Nat) (x : Nat) : anyF (a ++ [x]) = (anyF a || x == 37) := by simp [anyF]
theorem lenF_le (l : List Nat) : lenF l ≤ l.length := List.length_filter_le _ _

theorem rlengths_any (p : ByteArray) (w : World) (hs : p.size ≤ 1000) :
    Calls Try.prog 29 #[.string p] w fun e w' => e = .returned (.tuple #[.int .i64 ((lenF (N p) : Nat) : Int), .bool (anyF (N p))]) ∧ w = w' := by
  go_enter Try.func29, Try.ntmps29
  go_wp2
  go_loop [4, 5, 6] (fun x b i => ∃ k : Nat, k ≤ p.size ∧ i = .int .i64 k ∧ x = .int .i64 ((lenF ((N p).take k) : Nat) : Int) ∧ b = .bool (anyF ((N p).take k))) (fun _ _ i => p.size - (intOf i).toNat)
  case atStart => exact ⟨0, Nat.zero_le _, rfl, rfl, rfl⟩
  case round =>
    obtain ⟨k, hk, rfl, rfl, rfl⟩ := hrel
    by_cases hlt : k < p.size
    · have h1 := N_take_succ p k hlt
      have h2 : lenF ((N p).take k) ≤ 1000 := Nat.le_trans (lenF_le _) (by rw [List.length_take, N_len]; omega)
      have h3 := lenF_app ((N p).take k) p[k].toNat
      have h4 := anyF_app ((N p).take k) p[k].toNat
      rw [← h1] at h3 h4
      by_cases h37 : p[k].toNat = 37
      · have hb : ((p[k].toNat : Int) == 37) = true := by simp; omega
        rw [if_pos h37] at h3
        have h5 : (p[k].toNat == 37) = true := by simp [h37]
        rw [h5] at h4
        have H3 := hid h3
        have H4 := hid h4
        clear h1 h3 h4 h5 h37
        go_wp2
        go_round
        case rel => exact ⟨k + 1, by omega, by go_num, by rw [H3.out]; rfl, by rw [H4.out, Bool.or_true]⟩
        case measure => simp [intOf]; omega
      · have hb : ((p[k].toNat : Int) == 37) = false := by rw [beq_eq_false_iff_ne]; omega
        rw [if_neg h37] at h3
        have h5 : (p[k].toNat == 37) = false := by simp [h37]
        rw [h5] at h4
        have H3 := hid h3
        have H4 := hid h4
        clear h1 h3 h4 h5 h37
        go_wp2
        go_round
        case rel => exact ⟨k + 1, by omega, by go_num, by rw [H3.out]; go_num, by rw [H4.out, Bool.or_false]⟩
        case measure => simp [intOf]; omega
    · obtain rfl : k = p.size := by omega
      have e : (N p).take p.size = N p := List.take_of_length_le (by rw [N_len]; exact Nat.le_refl _)
      go_wp2
      go_ret2
      exact ⟨rfl, rfl⟩

def spec (c : Nat) : Bool := c == 37 || c == 95
/-- the characters ahead of the first % or _ -/
def preF (l : List Nat) : List Nat := l.takeWhile fun c => !spec c
theorem preF_at (l : List Nat) (k : Nat) (c : Nat) (h : ∀ x ∈ l.take k, spec x = false) (hc : l[k]? = some c) (hs : spec c = true) : preF l = l.take k := by
  obtain ⟨hk, rfl⟩ := List.getElem?_eq_some_iff.1 hc
  have e : l = l.take k ++ (l[k] :: l.drop (k + 1)) := by rw [← List.drop_eq_getElem_cons hk, List.take_append_drop]
  unfold preF
  conv => lhs; rw [e]
  rw [List.takeWhile_append_of_pos (fun a ha => by simp [h a ha]), List.takeWhile_cons, hs]
  simp
theorem preF_all (l : List Nat) (h : ∀ x ∈ l, spec x = false) : preF l = l := by
  unfold preF
  induction l with
  | nil => rfl
  | cons a l ih => rw [List.takeWhile_cons, h a (by simp)]; simp only [Bool.not_false, if_true]; rw [ih (fun x hx => h x (by simp [hx]))]

theorem hasprefix_any (s p : ByteArray) (w : World) :
    Calls Try.prog 32 #[.string s, .string p] w fun e w' => e = .returned (.bool (Lib.hasPrefix s.data.toList p.data.toList)) ∧ w' = w := by
  rw [← Lib.hasPrefix_of_take, ← Lib.size_eq, ← Lib.size_eq]
  go_enter Try.func32, Try.ntmps32
  go_wp2
  · rename_i h
    go_ret
    refine ⟨?_, rfl⟩
    show Ending.returned (Value.bool ((s.extract 0 p.size).toList == p.toList)) = _
    rw [Lib.extract_toList, Lib.toList_data]
    simp [h]
  · rename_i h
    go_ret
    refine ⟨?_, rfl⟩
    show Ending.returned (Value.bool false) = _
    simp [h]

theorem count_any (s : ByteArray) (c : UInt8) (w : World) :
    Calls Try.prog 44 #[.string s, .string ⟨#[c]⟩] w fun e w' => e = .returned (.int .i64 (Lib.countByte s.data.toList c)) ∧ w' = w := by
  go_enter Try.func44, Try.ntmps44
  go_wp2
  rw [run_callFunc_extern Try.func55 (by kernel_rfl) (by kernel_rfl) (by kernel_rfl) (e := Extern.BytealgCount.count) (by kernel_rfl), Lib.run_countString]
  simp only [Result.andThen]
  rw [Oper.upon_value]
  go_wp2
  go_ret
  exact ⟨rfl, rfl⟩

theorem rprefix_any (p : ByteArray) (w : World) (hs : p.size ≤ 1000) : Calls Try.prog 31 #[.string p] w fun e w' => e = .returned (.string (S (preF (N p)))) ∧ w = w' := by
  go_enter Try.func31, Try.ntmps31
  go_wp2
  go_loop [3] (fun i => ∃ k : Nat, k ≤ p.size ∧ i = .int .i64 k ∧ ∀ x ∈ (N p).take k, spec x = false) (fun i => p.size - (intOf i).toNat)
  case atStart => exact ⟨0, Nat.zero_le _, rfl, fun x hx => by simp at hx⟩
  case round =>
    obtain ⟨k, hk, rfl, hno⟩ := hrel
    have HNO := hid hno
    clear hno
    by_cases hlt : k < p.size
    · have h1 := hid (N_take_succ p k hlt)
      have hg := hid (N_get p k hlt)
      cases hsp : spec p[k].toNat
      · have hne : ((p[k].toNat : Int) == 37) = false ∧ ((p[k].toNat : Int) == 95) = false := by
          unfold spec at hsp
          simp only [Bool.or_eq_false_iff, beq_eq_false_iff_ne] at hsp
          constructor <;> rw [beq_eq_false_iff_ne] <;> omega
        obtain ⟨hn1, hn2⟩ := hne
        have HSP := hid hsp
        clear hsp
        go_wp2
        go_round
        case rel =>
          refine ⟨k + 1, by omega, by go_num, fun x hx => ?_⟩
          rw [h1.out, List.mem_append, List.mem_singleton] at hx
          rcases hx with hx | rfl
          · exact HNO.out x hx
          · exact HSP.out
        case measure => simp [intOf]; omega
      · have hpre := hid (preF_at (N p) k _ HNO.out hg.out hsp)
        have hlast : p.extract 0 k = S (preF (N p)) := by
          rw [hpre.out, ← S_N (p.extract 0 k), N_extract]; simp
        have hcase : ((p[k].toNat : Int) == 37) = true ∨ ((p[k].toNat : Int) == 37) = false ∧ ((p[k].toNat : Int) == 95) = true := by
          unfold spec at hsp
          by_cases h : p[k].toNat = 37
          · left; simp; omega
          · right
            have : p[k].toNat = 95 := by simpa [h] using hsp
            refine ⟨by rw [beq_eq_false_iff_ne]; omega, by simp; omega⟩
        have HLAST := hid hlast
        clear hsp hlast
        rcases hcase with hn1 | ⟨hn1, hn2⟩
        all_goals
          go_wp2
          go_ret
          exact ⟨ret_str HLAST.out, rfl⟩
    · obtain rfl : k = p.size := by omega
      have e : (N p).take p.size = N p := List.take_of_length_le (by rw [N_len]; exact Nat.le_refl _)
      have hno := HNO.out
      rw [e] at hno
      have hp := hid (preF_all (N p) hno)
      clear hno e
      go_wp2
      go_ret
      refine ⟨ret_str ?_, rfl⟩
      rw [hp.out, S_N]

theorem lengths_any (p : ByteArray) (w : World) (hs : p.size ≤ 1000) :
    Calls Try.prog 28 #[.string p] w fun e w' => e = .returned (.tuple #[.int .i64 ((lenF (N p) : Nat) : Int), .bool (anyF (N p))]) ∧ w = w' := by
  have hc : Hid (Lib.countByte p.data.toList 37 = (p.size : Int) - ((lenF (N p) : Nat) : Int)) := by
    unfold Hid Lib.countByte lenF N
    show _ = ((p.data.size : Nat) : Int) - _
    rw [← Array.length_toList]
    induction p.data.toList with
    | nil => rfl
    | cons a l ih =>
      rw [List.map_cons, List.filter_cons, List.count_cons, List.length_cons]
      by_cases h : a = 37
      · subst h; simp; omega
      · have : (a.toNat != 37) = true := by
          rw [bne_iff_ne]; intro e; exact h (UInt8.toNat_inj.1 (by simpa using e))
        rw [this]; simp [h]; omega
  have hle := lenF_le (N p)
  rw [N_len] at hle
  have hany : anyF (N p) = decide (0 < (p.size : Int) - ((lenF (N p) : Nat) : Int)) := by
    have : lenF (N p) = (N p).length ↔ ∀ x ∈ N p, (x != 37) = true := List.length_filter_eq_length_iff
    rw [N_len] at this
    rw [Bool.eq_iff_iff, decide_eq_true_eq]
    unfold anyF
    rw [List.any_eq_true]
    constructor
    · rintro ⟨x, hx, h⟩
      have h2 : ¬ lenF (N p) = p.size := fun e => by
        have := this.1 e x hx
        rw [eq_of_beq h] at this
        cases this
      omega
    · intro h
      have h2 : ¬ lenF (N p) = p.size := by omega
      rw [this] at h2
      obtain ⟨x, h3⟩ := Classical.not_forall.1 h2
      obtain ⟨hx, h4⟩ := Classical.not_forall.1 h3
      exact ⟨x, hx, by simpa using h4⟩
  have HANY := hid hany
  clear hany
  go_enter Try.func28, Try.ntmps28
  go_wp2_with (go_at_call 44; refine (count_any p 37 _).mono ?_; rintro e w' ⟨rfl, rfl⟩; rw [hc.out])
  go_ret2
  rw [HANY.out]
  refine ⟨?_, rfl⟩
  have e1 : (p.size : Int) - ((p.size : Int) - ((lenF (N p) : Nat) : Int)) = ((lenF (N p) : Nat) : Int) := by omega
  have e2 : decide (lenF (N p) < p.size) = decide (0 < (p.size : Int) - ((lenF (N p) : Nat) : Int)) := by simp only [decide_eq_decide]; omega
  show Ending.returned (.tuple #[.int .i64 ((p.size : Int) - ((p.size : Int) - ((lenF (N p) : Nat) : Int))), .bool (decide (lenF (N p) < p.size))]) = _
  rw [e1, e2]

end Go.Proofs.Ytbniemkllhhnfaa
