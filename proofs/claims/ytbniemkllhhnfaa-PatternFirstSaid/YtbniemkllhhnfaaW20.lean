/-
  Walk over the law PatternFirst.
-/
import Derived.Test.YtbniemkllhhnfaaW19
import Derived.Test.YtbniemkllhhnfaaW14
namespace Go.Proofs.Ytbniemkllhhnfaa
open Go.RowKit
set_option maxHeartbeats 1000000
set_option maxRecDepth 100000

theorem first_no (A : Option Addr) (ts : List Tst) (n c q : Nat) (w : World) (hts : TsAt w A ts) (hn : ts.length = n) (hlen : n ≤ maxLen) (hsz : ∀ t ∈ ts, t.p.size ≤ maxLen) (hq : q < 256) (hf : fewB ts = false) :
    Calls Try.prog 7 #[.slice A n c, .int .u8 q] w fun e w' => e = .returned (.bool true) ∧ Ext w w' := by
  have hm : ((q : Int)).tmod 17 = ((q % 17 : Nat) : Int) := by rw [Int.tmod_eq_emod_of_nonneg (by omega)]; omega
  have hw1 : IntKind.i64.wrap (q : Int) = (q : Int) := IntWalk.i64_in _ (by omega)
  go_enter Try.func7, Try.ntmps7
  go_wp2_with fail
  refine (awake_any _).mono ?_
  rintro e w1 ⟨rfl, hx1⟩
  go_wp2_with fail
  refine (few_any A ts n c _ (hts.ext hx1) hn hlen hsz).mono ?_
  rintro e w2 ⟨rfl, hx2⟩
  rw [hf]
  go_wp2_with fail
  refine (awake_any _).mono ?_
  rintro e w3 ⟨rfl, hx3⟩
  go_wp2_with fail
  go_ret
  exact ⟨rfl, hx1.trans (hx2.trans hx3)⟩

theorem first_none (A : Option Addr) (ts : List Tst) (n c q : Nat) (w : World) (hts : TsAt w A ts) (hn : ts.length = n) (hlen : n ≤ maxLen) (hsz : ∀ t ∈ ts, t.p.size ≤ maxLen) (hq : q < 256) (hf : fewB ts = true)
    (hS : (shoF ts 0 ((q % 17 : Nat) : Int)).1 = none) :
    Calls Try.prog 7 #[.slice A n c, .int .u8 q] w fun e w' => e = .returned (.bool true) ∧ Ext w w' := by
  have hm : ((q : Int)).tmod 17 = ((q % 17 : Nat) : Int) := by rw [Int.tmod_eq_emod_of_nonneg (by omega)]; omega
  have hw1 : IntKind.i64.wrap (q : Int) = (q : Int) := IntWalk.i64_in _ (by omega)
  have hfew := hid (few_out hf)
  obtain ⟨so, sd, sw⟩ := sho_law ts hfew.out 0 ((q % 17 : Nat) : Int) (by omega)
  rw [hS] at sw
  have hnil : Hid (∀ k : Nat, k ≤ q % 17 → sol ts k = []) := fun k hk => sw k (by omega) (by omega) (by omega)
  have hn4 : n ≤ 4 := by rw [← hn]; exact hfew.out.1
  have SO := hid so
  have SD := hid sd
  have HN := hid hn
  have HS := hid hsz
  clear so sd sw hn hsz
  go_enter Try.func7, Try.ntmps7
  go_wp2_with fail
  refine (awake_any _).mono ?_
  rintro e w1 ⟨rfl, hx1⟩
  go_wp2_with fail
  refine (few_any A ts n c _ (hts.ext hx1) HN.out hlen HS.out).mono ?_
  rintro e w2 ⟨rfl, hx2⟩
  rw [hf]
  go_wp2_with fail
  refine (shortest_any A ts n c 0 ((q % 17 : Nat) : Int) _ ((hts.ext hx1).ext hx2) HN.out (by omega) hfew.out.le16 (by omega) (by omega) SO.out SD.out).mono ?_
  rintro e w3 ⟨rfl, hx3⟩
  rw [hS]
  unfold shoVal
  have HX := hid (hx1.trans (hx2.trans hx3))
  clear hx1 hx2 hx3
  go_wp2_with fail
  go_loopw [29] (fun i wr => ∃ k : Nat, k ≤ q % 17 + 1 ∧ i = .int .i64 k ∧ Ext w wr) (fun i _ => q % 17 + 1 - (intOf i).toNat)
  case atStart => exact ⟨0, Nat.zero_le _, rfl, HX.out⟩
  case round =>
    obtain ⟨k, hk, rfl, hxr⟩ := hrel
    by_cases hlt : k < q % 17 + 1
    · have hW : wordsF ts k 3 = [] := by
        rw [wordsF_law ts hfew.out k 3 (by omega) (by omega) (by omega), show ((k : Nat) : Int).toNat = k by omega, hnil.out k (by omega)]; rfl
      obtain ⟨wo, wd⟩ := words_law ts hfew.out k 3 (by omega) (by omega) (by omega)
      have WO : Hid ((fnd ts 3 ((k : Int)).toNat (begs ts) [] ⟨[], []⟩).2.out.length < 1000000) := by unfold Hid; rw [wo, List.length_take]; omega
      have WD := hid wd
      clear wo wd
      go_wp2_with fail
      refine (words_any A ts n c k 3 _ (hts.ext hxr) HN.out (by omega) hfew.out.le16 (by omega) (by omega) (by omega) WO.out WD.out).mono ?_
      rintro e w4 ⟨v, rfl, hown, hx4⟩
      rw [hW] at hown
      obtain ⟨Al, cl, rfl, hrd⟩ := Rd_of_own hown
      clear hown hrd
      go_wp2_with fail
      go_roundw
      case rel => exact ⟨k + 1, by omega, by go_num, hxr.trans hx4⟩
      case measure => simp [intOf]; omega
    · go_wp2_with fail
      go_ret
      exact ⟨rfl, hxr⟩

theorem first_some (A : Option Addr) (ts : List Tst) (n c q : Nat) (w : World) (hts : TsAt w A ts) (hn : ts.length = n) (hlen : n ≤ maxLen) (hsz : ∀ t ∈ ts, t.p.size ≤ maxLen) (hq : q < 256) (hf : fewB ts = true) (x : List Nat)
    (hS : (shoF ts 0 ((q % 17 : Nat) : Int)).1 = some x) :
    Calls Try.prog 7 #[.slice A n c, .int .u8 q] w fun e w' => e = .returned (.bool true) ∧ Ext w w' := by
  have hm : ((q : Int)).tmod 17 = ((q % 17 : Nat) : Int) := by rw [Int.tmod_eq_emod_of_nonneg (by omega)]; omega
  have hw1 : IntKind.i64.wrap (q : Int) = (q : Int) := IntWalk.i64_in _ (by omega)
  have hfew := hid (few_out hf)
  obtain ⟨so, sd, sw⟩ := sho_law ts hfew.out 0 ((q % 17 : Nat) : Int) (by omega)
  rw [hS] at sw
  obtain ⟨i, i0, _, i2, ⟨r, hr⟩, i4⟩ := sw
  obtain ⟨m, rfl⟩ : ∃ m : Nat, i = m := ⟨i.toNat, by omega⟩
  rw [show ((m : Nat) : Int).toNat = m by omega] at hr
  have hmq : m ≤ q % 17 := by omega
  have hnil : Hid (∀ k : Nat, k < m → sol ts k = []) := fun k hk => i4 k (by omega) (by omega) (by omega)
  obtain ⟨x1, x2, x3⟩ := sol_len (ts := ts) (n := m) (x := x) (by rw [hr]; simp)
  have hxs : (S x).size = m := by rw [← N_len, N_S x x3]; exact x1
  have hxa : rAll ts (N (S x)) = true := by rw [N_S x x3, rAll_eq ts x hfew.out]; exact x2
  have hxe : ((S x).toList == (S x).toList) = true := BEq.rfl
  have hn4 : n ≤ 4 := by rw [← hn]; exact hfew.out.1
  have SO := hid so
  have SD := hid sd
  have HN := hid hn
  have HS := hid hsz
  have HR := hid hr
  clear so sd i4 i2 i0 hr x1 x2 x3 hn hsz
  go_enter Try.func7, Try.ntmps7
  go_wp2_with fail
  refine (awake_any _).mono ?_
  rintro e w1 ⟨rfl, hx1⟩
  go_wp2_with fail
  refine (few_any A ts n c _ (hts.ext hx1) HN.out hlen HS.out).mono ?_
  rintro e w2 ⟨rfl, hx2⟩
  rw [hf]
  go_wp2_with fail
  refine (shortest_any A ts n c 0 ((q % 17 : Nat) : Int) _ ((hts.ext hx1).ext hx2) HN.out (by omega) hfew.out.le16 (by omega) (by omega) SO.out SD.out).mono ?_
  rintro e w3 ⟨rfl, hx3⟩
  rw [hS]
  unfold shoVal
  have HX := hid (hx1.trans (hx2.trans hx3))
  clear hx1 hx2 hx3
  go_wp2_with fail
  go_loopw [29] (fun i wr => ∃ k : Nat, k ≤ m ∧ i = .int .i64 k ∧ Ext w wr) (fun i _ => m + 1 - (intOf i).toNat)
  case atStart => exact ⟨0, Nat.zero_le _, rfl, HX.out⟩
  case round =>
    obtain ⟨k, hk, rfl, hxr⟩ := hrel
    obtain ⟨wo, wd⟩ := words_law ts hfew.out k 3 (by omega) (by omega) (by omega)
    have WO : Hid ((fnd ts 3 ((k : Int)).toNat (begs ts) [] ⟨[], []⟩).2.out.length < 1000000) := by unfold Hid; rw [wo, List.length_take]; omega
    have WD := hid wd
    clear wo wd
    by_cases hlt : k < m
    · have hW : wordsF ts k 3 = [] := by
        rw [wordsF_law ts hfew.out k 3 (by omega) (by omega) (by omega), show ((k : Nat) : Int).toNat = k by omega, hnil.out k (by omega)]; rfl
      have hne : ((k : Int) == (m : Int)) = false := by rw [beq_eq_false_iff_ne]; omega
      go_wp2_with fail
      refine (words_any A ts n c k 3 _ (hts.ext hxr) HN.out (by omega) hfew.out.le16 (by omega) (by omega) (by omega) WO.out WD.out).mono ?_
      rintro e w4 ⟨v, rfl, hown, hx4⟩
      rw [hW] at hown
      obtain ⟨Al, cl, rfl, hrd⟩ := Rd_of_own hown
      clear hown hrd
      go_wp2_with fail
      go_roundw
      case rel => exact ⟨k + 1, by omega, by go_num, hxr.trans hx4⟩
      case measure => simp [intOf]; omega
    · obtain rfl : k = m := by omega
      have hW : wordsF ts k 3 = x :: r.take 2 := by
        rw [wordsF_law ts hfew.out k 3 (by omega) (by omega) (by omega), show ((k : Nat) : Int).toNat = k by omega, HR.out]; rfl
      generalize r.take 2 = r2 at hW
      go_wp2_with fail
      refine (words_any A ts n c k 3 _ (hts.ext hxr) HN.out (by omega) hfew.out.le16 (by omega) (by omega) (by omega) WO.out WD.out).mono ?_
      rintro e w4 ⟨v, rfl, hown, hx4⟩
      rw [hW] at hown
      obtain ⟨Al, cl, rfl, hrd⟩ := Rd_of_own hown
      obtain ⟨b, off, rfl, hc⟩ := hrd.at_ (i := 0) (v := .string (S x)) rfl
      rw [List.length_cons]
      have hc' : w4.cell? ⟨b, off, none⟩ = some (.string (S x)) := hc
      have hlen' : (0 : Int) < ((r2.length + 1 : Nat) : Int) := by omega
      clear hown hrd
      go_wp2_with fail
      refine (rall_any A ts n c (S x) _ ((hts.ext hxr).ext hx4) HN.out (by omega) hfew.out (by omega)).mono ?_
      rintro e w5 ⟨rfl, hx5⟩
      rw [hxa]
      go_wp2_with fail
      go_ret
      exact ⟨rfl, hxr.trans (hx4.trans hx5)⟩

theorem law_first (A : Option Addr) (ts : List Tst) (n c : Nat) (mx : Int) (w : World) (hts : TsAt w A ts) (hn : ts.length = n) (hlen : n ≤ maxLen) (hsz : ∀ t ∈ ts, t.p.size ≤ maxLen) (hb : 0 ≤ mx ∧ mx ≤ 255) :
    Calls Try.prog 7 #[.slice A n c, .int .u8 mx] w fun e w' => e = .returned (.bool true) ∧ Ext w w' := by
  obtain ⟨q, rfl⟩ : ∃ q : Nat, mx = q := ⟨mx.toNat, by omega⟩
  cases hf : fewB ts
  · exact first_no A ts n c q w hts hn hlen hsz (by omega) hf
  · cases hS : (shoF ts 0 ((q % 17 : Nat) : Int)).1 with
    | none => exact first_none A ts n c q w hts hn hlen hsz (by omega) hf hS
    | some x => exact first_some A ts n c q w hts hn hlen hsz (by omega) hf x hS

end Go.Proofs.Ytbniemkllhhnfaa
