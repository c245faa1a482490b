/-
  Walks over the law of the pattern package: few; the reference's All.
-/
import Derived.Test.YtbniemkllhhnfaaW17
import Derived.Test.YtbniemkllhhnfaaW13
import Derived.Test.YtbniemkllhhnfaaW8
import Derived.Test.YtbniemkllhhnfaaPure9
namespace Go.Proofs.Ytbniemkllhhnfaa
open Go.RowKit
set_option maxHeartbeats 1000000
set_option maxRecDepth 100000

def fewT (t : Tst) : Bool := vT t.kd t.p && decide (t.p.size ≤ 6)
def fewB (ts : List Tst) : Bool := ts.all fewT && decide (ts.length ≤ 4)
theorem all_step {α : Type} (f : α → Bool) (l : List α) (k : Nat) (a : α) (ha : l[k]? = some a) (h : (l.take k).all f = true) (hf : f a = true) : (l.take (k + 1)).all f = true := by
  obtain ⟨hk, rfl⟩ := List.getElem?_eq_some_iff.1 ha
  rw [List.take_succ_eq_append_getElem hk, List.all_append, h, List.all_cons, hf]; rfl
theorem all_no {α : Type} (f : α → Bool) (l : List α) (k : Nat) (a : α) (ha : l[k]? = some a) (hf : f a = false) : l.all f = false := by
  rw [List.all_eq_false]
  exact ⟨a, List.mem_of_getElem? ha, by rw [hf]; simp⟩

theorem few_any (A : Option Addr) (ts : List Tst) (n c : Nat) (w : World) (hts : TsAt w A ts) (hn : ts.length = n) (hlen : n ≤ maxLen) (hsz : ∀ t ∈ ts, t.p.size ≤ maxLen) :
    Calls Try.prog 17 #[.slice A n c] w fun e w' => e = .returned (.bool (fewB ts)) ∧ Ext w w' := by
  have HN := hid hn
  have HS := hid hsz
  have hlen2 := hlen
  unfold maxLen at hlen2
  clear hn hsz hlen
  go_enter Try.func17, Try.ntmps17
  go_wp2_with fail
  go_loopw [7] (fun i wr => ∃ k : Nat, k ≤ n ∧ i = .int .i64 k ∧ (ts.take k).all fewT = true ∧ Ext w wr) (fun i _ => n - (intOf i).toNat)
  case atStart => exact ⟨0, Nat.zero_le _, rfl, rfl, Ext.refl w⟩
  case round =>
    obtain ⟨k, hk, rfl, hall, hxr⟩ := hrel
    have HA := hid hall
    clear hall
    by_cases hlt : k < n
    · have hkl : k < ts.length := by rw [HN.out]; exact hlt
      obtain ⟨t, ht⟩ : ∃ t, ts[k]? = some t := ⟨_, List.getElem?_eq_getElem hkl⟩
      obtain ⟨b, off, rfl, hc0, hc1, hc2, hc3⟩ := (hts.ext hxr) k t ht
      have HT := hid ht
      have hsk : Hid (t.p.size ≤ maxLen) := HS.out t (List.mem_of_getElem? ht)
      clear ht hkl
      cases hv : vT t.kd t.p
      · have hno : fewB ts = false := by
          unfold fewB; rw [all_no fewT ts k t HT.out (by unfold fewT; rw [hv]; rfl)]; rfl
        go_wp2_with fail
        refine (rvalid_any t.v t.kd t.ng t.p _ hsk.out).mono ?_
        rintro e w1 ⟨rfl, hx1⟩
        rw [hv]
        go_wp2_with fail
        go_ret
        exact ⟨ret_bool hno.symm, (hxr.alloc _).trans hx1⟩
      · by_cases h6 : t.p.size ≤ 6
        · have hd : decide ((6 : Int) < (t.p.size : Int)) = false := by simp; omega
          have hyes : Hid ((ts.take (k + 1)).all fewT = true) := all_step fewT ts k t HT.out HA.out (by unfold fewT; rw [hv]; simp [h6])
          go_wp2_with fail
          refine (rvalid_any t.v t.kd t.ng t.p _ hsk.out).mono ?_
          rintro e w1 ⟨rfl, hx1⟩
          obtain ⟨hb0, hb1, hb2, hb3⟩ := box4 hx1
          rw [hv]
          go_wp2_with fail
          go_roundw
          case rel => exact ⟨k + 1, by omega, by go_num, hyes.out, (hxr.alloc _).trans hx1⟩
          case measure => simp [intOf]; omega
        · have hd : decide ((6 : Int) < (t.p.size : Int)) = true := by simp; omega
          have hno : fewB ts = false := by
            unfold fewB; rw [all_no fewT ts k t HT.out (by unfold fewT; rw [hv]; simp; omega)]; rfl
          go_wp2_with fail
          refine (rvalid_any t.v t.kd t.ng t.p _ hsk.out).mono ?_
          rintro e w1 ⟨rfl, hx1⟩
          obtain ⟨hb0, hb1, hb2, hb3⟩ := box4 hx1
          rw [hv]
          go_wp2_with fail
          go_ret
          exact ⟨ret_bool hno.symm, (hxr.alloc _).trans hx1⟩
    · obtain rfl : k = n := by omega
      go_wp2_with fail
      go_ret
      refine ⟨ret_bool ?_, hxr⟩
      have h1 := HA.out
      rw [List.take_of_length_le (by rw [HN.out]; exact Nat.le_refl _)] at h1
      unfold fewB
      rw [h1, HN.out]
      simp
      omega

theorem few_out {ts : List Tst} (h : fewB ts = true) : Few ts := by
  unfold fewB fewT at h
  simp only [Bool.and_eq_true, List.all_eq_true, decide_eq_true_eq] at h
  exact ⟨h.2, fun t ht => ⟨(h.1 t ht).2, (vT_out (h.1 t ht).1).1, (vT_out (h.1 t ht).1).2.1⟩⟩

def rAll (ts : List Tst) (t : List Nat) : Bool := ts.all fun τ => rpsB τ.kd τ.ng (N τ.p) t
theorem rAll_eq (ts : List Tst) (t : List Nat) (h : Few ts) : rAll ts t = passAll ts t := by
  unfold rAll passAll
  rw [Bool.eq_iff_iff, List.all_eq_true, List.all_eq_true]
  constructor
  · intro hh τ hτ
    rw [ps_eq _ _ _ _ (N_len16 (h.le16 τ hτ)) ⟨(h.2 τ hτ).2.1, (h.2 τ hτ).2.2⟩]; exact hh τ hτ
  · intro hh τ hτ
    rw [← ps_eq _ _ _ _ (N_len16 (h.le16 τ hτ)) ⟨(h.2 τ hτ).2.1, (h.2 τ hτ).2.2⟩]; exact hh τ hτ

theorem rall_any (A : Option Addr) (ts : List Tst) (n c : Nat) (s : ByteArray) (w : World) (hts : TsAt w A ts) (hn : ts.length = n) (hlen : n ≤ 1000) (hok : Few ts) (hs : s.size ≤ 140737488351232) :
    Calls Try.prog 21 #[.slice A n c, .string s] w fun e w' => e = .returned (.bool (rAll ts (N s))) ∧ Ext w w' := by
  have HN := hid hn
  have HO := hid hok
  clear hn hok
  go_enter Try.func21, Try.ntmps21
  go_wp2_with fail
  go_loopw [5] (fun i wr => ∃ k : Nat, k ≤ n ∧ i = .int .i64 k ∧ (ts.take k).all (fun τ => rpsB τ.kd τ.ng (N τ.p) (N s)) = true ∧ Ext w wr) (fun i _ => n - (intOf i).toNat)
  case atStart => exact ⟨0, Nat.zero_le _, rfl, rfl, Ext.refl w⟩
  case round =>
    obtain ⟨k, hk, rfl, hall, hxr⟩ := hrel
    have HA := hid hall
    clear hall
    by_cases hlt : k < n
    · have hkl : k < ts.length := by rw [HN.out]; exact hlt
      obtain ⟨t, ht⟩ : ∃ t, ts[k]? = some t := ⟨_, List.getElem?_eq_getElem hkl⟩
      obtain ⟨b, off, rfl, hc0, hc1, hc2, hc3⟩ := (hts.ext hxr) k t ht
      have HT := hid ht
      have hf := hid (HO.out.2 t (List.mem_of_getElem? ht))
      clear ht hkl
      cases hp : rpsB t.kd t.ng (N t.p) (N s)
      · have hno : rAll ts (N s) = false := all_no _ ts k t HT.out hp
        go_wp2_with fail
        refine (rpasses_any t.v t.kd t.ng t.p s _ (by have := hf.out; omega) hf.out.2 hs).mono ?_
        rintro e w1 ⟨rfl, hx1⟩
        rw [hp]
        go_wp2_with fail
        go_ret
        exact ⟨ret_bool hno.symm, hxr.trans hx1⟩
      · have hyes := hid (all_step _ ts k t HT.out HA.out hp)
        go_wp2_with fail
        refine (rpasses_any t.v t.kd t.ng t.p s _ (by have := hf.out; omega) hf.out.2 hs).mono ?_
        rintro e w1 ⟨rfl, hx1⟩
        rw [hp]
        go_wp2_with fail
        go_roundw
        case rel => exact ⟨k + 1, by omega, by go_num, hyes.out, hxr.trans hx1⟩
        case measure => simp [intOf]; omega
    · obtain rfl : k = n := by omega
      go_wp2_with fail
      go_ret
      refine ⟨ret_bool ?_, hxr⟩
      have h1 := HA.out
      rw [List.take_of_length_le (by rw [HN.out]; exact Nat.le_refl _)] at h1
      exact h1.symm

end Go.Proofs.Ytbniemkllhhnfaa
