/-
  Walks over history: number (both). · Walks over history: the reference's number. · Walks over history: the reference's cut. · Walks over the library: IndexAny of two signs at any short text. · Walks: IndexAny of two signs at any text; the program's literal. · Walks over history: literal.
-/
import Derived.Test.YtdjdhkbomhendaaGreatDoorGl
import Derived.Test.YtdjdhkbomhendaaGreatDoorGj
import Derived.Test.YtdjdhkbomhendaaGreatDoorGe
import Derived.Test.YtdjdhkbomhendaaGreatDoorGm
import Derived.Laws.Runes
import Derived.Laws.RangeAny
import Derived.WalkMore
import Derived.Shelf.Strings.IndexAnyAll
import Derived.Shelf.Small.Strs
import Derived.Lib.OthersKept
namespace Go.Proofs.YtdjdhkbomhendaaGreatDoor
open Go.RowKit
set_option linter.unusedVariables false
set_option linter.unusedSimpArgs false
set_option maxHeartbeats 4000000
set_option maxRecDepth 100000

/-- the result of number: the number of a word, or false -/
def NumR (s : ByteArray) (e : Ending) : Prop := ∃ x b, e = .returned (.tuple #[.int .i64 x, .bool b]) ∧ (numP s).isSome = b ∧ ∀ n, numP s = some n → x = n
theorem numP_ok {s : ByteArray} {v : Int} (h : Lib.parseIntB 64 s.data.toList = .ok v) : numP s = if 0 ≤ v ∧ itoB v = s then some v else none := by
  unfold numP
  rw [h]
theorem numP_bad {s : ByteArray} (h : ∀ v, Lib.parseIntB 64 s.data.toList ≠ .ok v) : numP s = none := by
  unfold numP
  split
  · rename_i v hv
    exact absurd hv (h v)
  · rfl
theorem number_any (s : ByteArray) (w : World) (hs : s.size ≤ 1000000) (ht : Tab w) (he : Er w) :
    Calls Tryz.prog 70 #[.string s] w fun e w' => NumR s e ∧ Ext w w' := by
  by_cases hk : ∃ v, Lib.parseIntB 64 s.data.toList = .ok v
  · obtain ⟨v, hv⟩ := hk
    have HP := hid (numP_ok hv)
    have HI := hid (ok_bd hv)
    have HC := hid (fun W => pint_ok s (by omega) v hv W)
    have HF := hid (fun W (hW : Ext w W) => fmtint_any v W (.inr ⟨ht.ext hW, ok_bd hv⟩))
    clear hv ht he
    generalize itoB v = X at *
    by_cases h0 : 0 ≤ v
    · obtain ⟨b, hb⟩ : ∃ b, (X.toList == s.toList) = b := ⟨_, rfl⟩
      have HB := hid hb
      go_enter Tryz.func70, Tryz.ntmps70
      go_wp2_with (first | (go_at_call 50; (with_reducible refine (HF.out _ hx1).mono ?_); rintro _ w2 ⟨rfl, hx2⟩) | (go_at_call 94; (with_reducible refine (HC.out _).mono ?_); rintro _ w1 ⟨rfl, hx1⟩))
      go_ret2
      refine ⟨⟨v, b, rfl, ?_, fun n hn => ?_⟩, hx1.trans hx2⟩
      · rw [HP.out, ← HB.out, seq]
        by_cases hX : X = s <;> simp [h0, hX]
      · rw [HP.out] at hn
        split at hn
        · exact Option.some.inj hn
        · cases hn
    · have h0' : v < 0 := by omega
      clear h0
      go_enter Tryz.func70, Tryz.ntmps70
      go_wp2_with (first | (go_at_call 94; (with_reducible refine (HC.out _).mono ?_); rintro _ w1 ⟨rfl, hx1⟩))
      go_ret2
      have hN : numP s = none := by rw [HP.out, if_neg (by omega)]
      refine ⟨⟨v, false, rfl, by rw [hN]; rfl, fun n hn => ?_⟩, hx1⟩
      rw [hN] at hn
      cases hn
  · have hk' : ∀ v, Lib.parseIntB 64 s.data.toList ≠ .ok v := fun v hv => hk ⟨v, hv⟩
    have HC := hid (fun W (hW : Ext w W) => parse_bad s (by omega) hk' W (he.ext hW))
    have HN := hid (numP_bad hk')
    clear hk hk' ht he
    go_enter Tryz.func70, Tryz.ntmps70
    go_wp2_with (first | (go_at_call 94; (with_reducible refine (HC.out _ (Ext.refl _)).mono ?_); rintro _ w1 ⟨x, ty, p, rfl, hx1⟩))
    go_ret2
    refine ⟨⟨x, false, rfl, by rw [HN.out]; rfl, fun n hn => ?_⟩, hx1⟩
    rw [HN.out] at hn
    cases hn
theorem rv_nn (l : List UInt8) (h : ∀ c ∈ l, c.toNat ≠ 45 ∧ 48 ≤ c.toNat) : ∀ k, 0 ≤ rv (l.take k)
  | 0 => by rw [List.take_zero]; exact Int.le_refl _
  | k + 1 => by
    have ih := rv_nn l h k
    by_cases hk : k < l.length
    · have h1 := h l[k] (List.getElem_mem hk)
      rw [List.take_succ_eq_append_getElem hk, rv_app, rvf, if_neg h1.1]
      omega
    · rw [List.take_of_length_le (by omega)]
      rw [List.take_of_length_le (by omega)] at ih
      exact ih
theorem rv_mono (l : List UInt8) (h : ∀ c ∈ l, c.toNat ≠ 45 ∧ 48 ≤ c.toNat) (k : Nat) : rv (l.take k) ≤ rv (l.take (k + 1)) := by
  have ih := rv_nn l h k
  by_cases hk : k < l.length
  · have h1 := h l[k] (List.getElem_mem hk)
    rw [List.take_succ_eq_append_getElem hk, rv_app, rvf, if_neg h1.1]
    omega
  · rw [List.take_of_length_le (show l.length ≤ k by omega), List.take_of_length_le (show l.length ≤ k + 1 by omega)]
    exact Int.le_refl _
theorem rv_mono2 (l : List UInt8) (h : ∀ c ∈ l, c.toNat ≠ 45 ∧ 48 ≤ c.toNat) (k : Nat) : ∀ j, rv (l.take k) ≤ rv (l.take (k + j))
  | 0 => Int.le_refl _
  | j + 1 => Int.le_trans (rv_mono2 l h k j) (rv_mono l h (k + j))
theorem rv_take_le (l : List UInt8) (h : ∀ c ∈ l, c.toNat ≠ 45 ∧ 48 ≤ c.toNat) (k : Nat) : rv (l.take k) ≤ rv l := by
  have := rv_mono2 l h k l.length
  rwa [List.take_of_length_le (show l.length ≤ k + l.length by omega)] at this
/-- the digits of a number that is not negative -/
theorem itoa_dig {n : Int} (h : 0 ≤ n) : ∀ c ∈ (itoB n).data.toList, 48 ≤ c.toNat ∧ c.toNat ≤ 57 := by
  intro c hc
  have e : (itoB n).data.toList = Lib.decDigits n.toNat := by
    show (Lib.itoa n).toArray.toList = _
    unfold Lib.itoa
    rw [if_neg (by omega)]
  rw [e] at hc
  exact dec_mem _ c hc
theorem itoa_rv {n : Int} (h : 0 ≤ n) : rv (itoB n).data.toList = n := by
  have := rv_itoa n
  show rv (Lib.itoa n) = n
  rw [this]
  omega
end Go.Proofs.YtdjdhkbomhendaaGreatDoor
namespace Go.Proofs.YtdjdhkbomhendaaGreatDoor
open Go.RowKit
set_option linter.unusedVariables false
set_option linter.unusedSimpArgs false
set_option maxHeartbeats 4000000
set_option maxRecDepth 100000

theorem rnum_any2 (x : Int) (w : World) (h : i64 x) : Calls Tryz.prog 52 #[.int .i64 x] w fun r w' => r = .returned (.string (itoB x)) ∧ Ext w w' := by
  have HC := hid (fun W => num_any x W h.1 h.2)
  clear h
  generalize itoB x = X at *
  go_enter Tryz.func52, Tryz.ntmps52
  go_wp2_with fail
  refine (HC.out _).mono ?_
  rintro _ w2 ⟨rfl, hx2⟩
  go_wp2_with fail
  go_ret
  exact ⟨rfl, hx2⟩
theorem num_none {s : ByteArray} (h : ∀ m : Int, 0 ≤ m → m ≤ 9223372036854775807 → s ≠ itoB m) : numP s = none := by
  cases hn : numP s with
  | none => rfl
  | some m =>
    obtain ⟨h0, h1, h2⟩ := numP_some.1 hn
    exact absurd h2.symm (h m h0 h1)
theorem byte_dig {s : ByteArray} {k : Nat} (hk : k < s.size) {m : Int} (h0 : 0 ≤ m) (h : s = itoB m) : 48 ≤ s[k].toNat ∧ s[k].toNat ≤ 57 := by
  refine itoa_dig h0 s[k] ?_
  rw [← h]
  show s.data[k] ∈ s.data.toList
  exact Array.mem_toList_iff.2 (Array.getElem_mem _)
theorem rv_step (s : ByteArray) (k : Nat) (hk : k < s.size) (h : ¬ s[k].toNat = 45) : rv (s.data.toList.take (k + 1)) = 10 * rv (s.data.toList.take k) + (s[k].toNat : Int) - 48 := by
  rw [take1 s k hk, rv_app, rvf, if_neg h]
theorem rnumber_any (s : ByteArray) (w : World) (hs : s.size ≤ 1000000) :
    Calls Tryz.prog 78 #[.string s] w fun e w' => NumR s e ∧ Ext w w' := by
  go_enter Tryz.func78, Tryz.ntmps78
  go_wp2_with fail
  go_loop [4, 5] (fun nv iv => ∃ k : Nat, k ≤ s.size ∧ iv = .int .i64 k ∧ nv = .int .i64 (rv (s.data.toList.take k)) ∧ 0 ≤ rv (s.data.toList.take k) ∧ rv (s.data.toList.take k) ≤ 9223372036854775807) (fun _ i => s.size - (intOf i).toNat)
  case atStart => exact ⟨0, Nat.zero_le _, rfl, rfl, by rw [List.take_zero]; exact Int.le_refl _, by rw [List.take_zero]; exact (by decide : (0 : Int) ≤ 9223372036854775807)⟩
  case round =>
    obtain ⟨k, hk, rfl, rfl, hn0, hn1⟩ := hrel
    by_cases hlt : k < s.size
    · have hc0 := s[k].toNat_lt
      have HS1 := hid (rv_step s k hlt)
      have HD : Hid (∀ m : Int, 0 ≤ m → m ≤ 9223372036854775807 → s = itoB m → 48 ≤ s[k].toNat ∧ s[k].toNat ≤ 57) := fun m h0 _ h => byte_dig hlt h0 h
      have HT : Hid (∀ m : Int, 0 ≤ m → m ≤ 9223372036854775807 → s = itoB m → rv (s.data.toList.take (k + 1)) ≤ m) := fun m h0 _ h => by
        have h1 := itoa_rv h0
        rw [← h] at h1
        have h2 := rv_take_le s.data.toList (fun c hc => by
          have := itoa_dig h0 c (by rw [← h]; exact hc)
          omega) (k + 1)
        omega
      generalize hV1 : rv (s.data.toList.take (k + 1)) = V1 at *
      have HV1 := hid hV1
      clear hV1
      generalize rv (s.data.toList.take k) = V at *
      by_cases h1 : s[k].toNat < 48
      · have hN : Hid (numP s = none) := num_none fun m h0 hm h => by have := HD.out m h0 hm h; omega
        have b1 : decide ((s[k].toNat : Int) < 48) = true := decide_eq_true (by omega)
        clear HS1 HD HT
        go_wp2_with fail
        go_ret2
        refine ⟨⟨_, false, rfl, by rw [hN.out]; rfl, fun n hn => ?_⟩, Ext.refl w⟩
        rw [hN.out] at hn
        cases hn
      by_cases h2 : 57 < s[k].toNat
      · have hN : Hid (numP s = none) := num_none fun m h0 hm h => by have := HD.out m h0 hm h; omega
        have b1 : ¬ ((s[k].toNat : Int) < 48) := by omega
        have b2 : (57 : Int) < (s[k].toNat : Int) := by omega
        clear HS1 HD HT
        go_wp2_with fail
        go_ret2
        refine ⟨⟨_, false, rfl, by rw [hN.out]; rfl, fun n hn => ?_⟩, Ext.refl w⟩
        rw [hN.out] at hn
        cases hn
      have b1 : ¬ ((s[k].toNat : Int) < 48) := by omega
      have b2 : ¬ (57 : Int) < (s[k].toNat : Int) := by omega
      have hw1 : IntKind.u8.wrap ((s[k].toNat : Int) - 48) = (s[k].toNat : Int) - 48 := by
        rw [IntKind.wrap_u8]
        omega
      have E := HS1.out (by omega)
      by_cases h3 : (9223372036854775807 - ((s[k].toNat : Int) - 48)) / 10 < V
      · have hN : Hid (numP s = none) := num_none fun m h0 hm h => by have := HT.out m h0 hm h; omega
        clear HS1 HD HT E
        go_wp2_with fail
        go_ret2
        refine ⟨⟨_, false, rfl, by rw [hN.out]; rfl, fun n hn => ?_⟩, Ext.refl w⟩
        rw [hN.out] at hn
        cases hn
      · have hE := hid E
        clear HS1 HD HT E
        go_wp2_with fail
        refine ⟨⟨k + 1, by omega, by go_num, ?_, ?_, ?_⟩, by simp [intOf]; omega⟩
        · rw [HV1.out, hE.out]
          exact congrArg (Value.int IntKind.i64) (by omega)
        · rw [HV1.out, hE.out]; omega
        · rw [HV1.out, hE.out]; omega
    · obtain rfl : k = s.size := by omega
      have hfull : s.data.toList.take s.size = s.data.toList := List.take_of_length_le (Nat.le_refl _)
      rw [hfull] at hn0 hn1 ⊢
      have HV : Hid (∀ m : Int, 0 ≤ m → s = itoB m → rv s.data.toList = m) := fun m h0 h => by
        have := itoa_rv h0
        rwa [← h] at this
      generalize rv s.data.toList = V at *
      have HC := hid (fun W => rnum_any2 V W ⟨by omega, hn1⟩)
      by_cases hz : s.size = 0
      · have hN : Hid (numP s = none) := num_none fun m h0 hm h => by
          rw [h] at hz
          exact itoa_ne m (List.eq_nil_of_length_eq_zero (by have : (Lib.itoa m).toArray.size = 0 := hz; simpa using this))
        have e0 : s = ⟨#[]⟩ := t_inj (List.eq_nil_of_length_eq_zero hz)
        subst e0
        clear hz hfull
        go_wp2_with fail
        go_ret2
        refine ⟨⟨_, false, rfl, by rw [hN.out]; rfl, fun n hn => ?_⟩, Ext.refl w⟩
        rw [hN.out] at hn
        cases hn
      · have e0 : s.toList.isEmpty = false := by
          rw [ByteArray.toList_eq]
          cases h : s.data.toList with
          | nil => exact absurd (by show s.data.size = 0; rw [← Array.length_toList, h]; rfl) hz
          | cons => rfl
        have e1 : (s.toList == []) = false := by
          cases h : s.toList with
          | nil => rw [h] at e0; cases e0
          | cons => rfl
        obtain ⟨b, hb⟩ : ∃ b, ((itoB V).toList == s.toList) = b := ⟨_, rfl⟩
        have HB : Hid ((numP s).isSome = b ∧ ∀ n, numP s = some n → V = n) := by
          rw [← hb, seq]
          by_cases hX : itoB V = s
          · have := numP_some.2 ⟨hn0, hn1, hX⟩
            rw [this]
            exact ⟨by simp [hX], fun n hn => Option.some.inj hn⟩
          · have := num_none (s := s) fun m h0 hm h => by
              have := HV.out m h0 h
              exact hX (by rw [this, ← h])
            rw [this]
            exact ⟨by simp [hX], fun n hn => by cases hn⟩
        generalize itoB V = X at *
        clear hz hfull HV
        go_wp2_with (go_at_call 52; (with_reducible refine (HC.out _).mono ?_); rintro _ w2 ⟨rfl, hx2⟩)
        go_ret2
        exact ⟨⟨V, b, rfl, HB.out.1, HB.out.2⟩, hx2⟩
end Go.Proofs.YtdjdhkbomhendaaGreatDoor
namespace Go.Proofs.YtdjdhkbomhendaaGreatDoor
open Go.RowKit
set_option linter.unusedVariables false
set_option linter.unusedSimpArgs false
set_option maxHeartbeats 4000000
set_option maxRecDepth 100000

/-- a list of bytes as a string -/
def BA (l : List UInt8) : ByteArray := ⟨l.toArray⟩
theorem BA_list (l : List UInt8) : (BA l).data.toList = l := rfl
theorem BA_size (l : List UInt8) : (BA l).size = l.length := by show l.toArray.size = _; simp
theorem BA_of (s : ByteArray) : BA s.data.toList = s := t_inj rfl
theorem ext_take (s : ByteArray) (k : Nat) : s.extract 0 k = BA (s.data.toList.take k) := t_inj (by
  rw [BA_list]
  show (s.extract 0 k).data.toList = _
  have := Lib.extract_toList s 0 k
  rw [ByteArray.toList_eq] at this
  simp [this])
theorem ext_drop (s : ByteArray) (k : Nat) : s.extract k s.size = BA (s.data.toList.drop k) := t_inj (by
  rw [BA_list]
  have := Lib.extract_toList s k s.size
  rw [ByteArray.toList_eq] at this
  rw [this]
  rw [List.take_of_length_le]
  rw [List.length_drop]
  exact Nat.le_refl _)
theorem cutW_take (c : UInt8) (s : ByteArray) (k : Nat) (hk : k < s.size) (h : c ∉ s.data.toList.take k) (hc : s[k] = c) : cutW c s.data.toList = (s.data.toList.take k, s.data.toList.drop (k + 1), true) := by
  have hl : k < s.data.toList.length := hk
  have e : s.data.toList = s.data.toList.take k ++ c :: s.data.toList.drop (k + 1) := by
    have h1 : s.data.toList[k] = c := hc
    rw [← h1, List.getElem_cons_drop hl, List.take_append_drop]
  have h2 := cutW_app c (s.data.toList.drop (k + 1)) (s.data.toList.take k) h
  rw [← e] at h2
  exact h2
theorem not_mem_step (c : UInt8) (s : ByteArray) (k : Nat) (hk : k < s.size) (h : c ∉ s.data.toList.take k) (hc : s[k] ≠ c) : c ∉ s.data.toList.take (k + 1) := by
  rw [take1 s k hk]
  intro hm
  rcases List.mem_append.1 hm with hm | hm
  · exact h hm
  · exact hc (List.mem_singleton.1 hm).symm
theorem rcut_any (s : ByteArray) (w : World) (hs : s.size ≤ 1000000) :
    Calls Tryz.prog 76 #[.string s] w fun e w' => e = .returned (.tuple #[.string (BA (cutW 32 s.data.toList).1), .string (BA (cutW 32 s.data.toList).2.1)]) ∧ Ext w w' := by
  go_enter Tryz.func76, Tryz.ntmps76
  go_wp2_with fail
  go_loop [4] (fun i => ∃ k : Nat, k ≤ s.size ∧ i = .int .i64 k ∧ (32 : UInt8) ∉ s.data.toList.take k) (fun i => s.size - (intOf i).toNat)
  case atStart => exact ⟨0, Nat.zero_le _, rfl, by simp⟩
  case round =>
    obtain ⟨k, hk, rfl, hno⟩ := hrel
    by_cases hlt : k < s.size
    · by_cases hc : s[k] = 32
      · have HC := hid (cutW_take 32 s k hlt hno hc)
        have b1 : ((s[k].toNat : Int) == 32) = true := by rw [hc]; rfl
        have hw1 : IntKind.i64.wrap ((k : Int) + 1) = (k : Int) + 1 := IntWalk.i64_in _ (by omega)
        have i0 : (0 : Int) ≤ (k : Int) := by omega
        have i1 : (k : Int) ≤ (s.size : Int) := by omega
        have i2 : (k : Int) + 1 ≤ (s.size : Int) := by omega
        have i3 : (0 : Int) ≤ (k : Int) + 1 := by omega
        have HE1 := hid (ext_take s k)
        have HE2 := hid (ext_drop s (k + 1))
        clear hc hno
        go_wp2_with fail
        go_region
        all_goals
          go_wp2_with fail
          go_ret2
          exact ⟨ret_two (congrArg Value.string (by rw [HC.out]; exact HE1.out)) (congrArg Value.string (by rw [HC.out]; exact HE2.out)), by first | exact Ext.refl w | exact (Ext.refl w).drew⟩
      · have HN := hid (not_mem_step 32 s k hlt hno hc)
        have b1 : ((s[k].toNat : Int) == 32) = false := by
          rw [beq_eq_false_iff_ne]
          intro h
          exact hc (UInt8.toNat_inj.1 (by rw [show (32 : UInt8).toNat = 32 from rfl]; omega))
        clear hc hno
        go_wp2_with fail
        first
          | (go_round; (case rel => exact ⟨k + 1, by omega, by go_num, HN.out⟩); (case measure => simp [intOf]; omega))
          | exact ⟨⟨k + 1, by omega, by go_num, HN.out⟩, by simp [intOf]; omega⟩
    · obtain rfl : k = s.size := by omega
      have HC : Hid (cutW 32 s.data.toList = (s.data.toList, [], false)) := cutW_none 32 _ (by rwa [List.take_of_length_le (show s.data.toList.length ≤ s.size from Nat.le_refl _)] at hno)
      clear hno
      go_wp2_with fail
      go_ret2
      exact ⟨ret_two (by rw [HC.out]; exact congrArg Value.string (BA_of s).symm) (by rw [HC.out]; rfl), Ext.refl w⟩
end Go.Proofs.YtdjdhkbomhendaaGreatDoor
namespace Go.Proofs.YtdjdhkbomhendaaGreatDoor
open Go.RowKit
set_option linter.unusedVariables false
set_option linter.unusedSimpArgs false
set_option maxHeartbeats 4000000
set_option maxRecDepth 100000

theorem ibyte_any (s : ByteArray) (c : Int) (w : World) : Calls Tryz.prog 139 #[.string s, .int .u8 c] w fun e w' => e = .returned (.int .i64 (Lib.indexByte s.data.toList c.toNat.toUInt8)) ∧ w' = w :=
  Any.strings_IndexByte { Tryz.lays153 with } s c w
theorem vrune_any (r : Int) (w : World) : Calls Tryz.prog 140 #[.int .i32 r] w fun e w' => e = .returned (.bool (Utf8.valid r)) ∧ w' = w := by
  rw [validRune_eq]
  by_cases h1 : 0 ≤ r
  · by_cases h2 : r < 55296
    · have hv : Hid (validRune r = true) := by unfold Hid validRune; exact decide_eq_true (.inl ⟨h1, h2⟩)
      go_enter Tryz.func140, Tryz.ntmps140
      go_wp2_with fail
      go_ret
      exact ⟨ret_bool hv.out.symm, rfl⟩
    · by_cases h3 : 57343 < r
      · by_cases h4 : r ≤ 1114111
        · have hv : Hid (validRune r = true) := by unfold Hid validRune; exact decide_eq_true (.inr ⟨h3, h4⟩)
          go_enter Tryz.func140, Tryz.ntmps140
          go_wp2_with fail
          go_ret
          exact ⟨ret_bool hv.out.symm, rfl⟩
        · have hv : Hid (validRune r = false) := by unfold Hid validRune; exact decide_eq_false (by omega)
          go_enter Tryz.func140, Tryz.ntmps140
          go_wp2_with fail
          go_ret
          exact ⟨ret_bool hv.out.symm, rfl⟩
      · have hv : Hid (validRune r = false) := by unfold Hid validRune; exact decide_eq_false (by omega)
        go_enter Tryz.func140, Tryz.ntmps140
        go_wp2_with fail
        go_ret
        exact ⟨ret_bool hv.out.symm, rfl⟩
  · have hv : Hid (validRune r = false) := by unfold Hid validRune; exact decide_eq_false (by omega)
    have h3 : ¬ 57343 < r := by omega
    go_enter Tryz.func140, Tryz.ntmps140
    go_wp2_with fail
    go_ret
    exact ⟨ret_bool hv.out.symm, rfl⟩
/-- ",)" -/
def cpB : ByteArray := ⟨#[44, 41]⟩
theorem irune_high (r : Int) (w : World) (h : 128 ≤ r) (h2 : r ≤ 2147483647) :
    Calls Tryz.prog 119 #[.string cpB, .int .i32 r] w fun e w' => e = .returned (.int .i64 (-1)) ∧ Ext w w' := by
  have a1 : ¬ r < 128 := by omega
  have a2 : 0 ≤ r := by omega
  by_cases he : r = 65533
  · subst he
    unfold cpB
    go_enter Tryz.func119, Tryz.ntmps119
    go_wp2_with fail
    go_loopg [5, 6] 2 (fun g _ _ wx => ∃ i : Nat, i + g = 2 ∧ wx = w.iter ⟨#[44, 41]⟩ i)
    case atStart => exact ⟨0, by omega, rfl⟩
    case round =>
      obtain ⟨i, hig, rfl⟩ := hrel
      cases gk with
      | zero =>
        obtain rfl : i = 2 := by omega
        have hnx := run_next_end (P := Tryz.prog) w ⟨#[44, 41]⟩ 2
        go_wp2
        go_ret
        exact ⟨rfl, by unfold World.iter; exact (Ext.refl w).alloc _⟩
      | succ g =>
        have hi : i < (⟨#[44, 41]⟩ : ByteArray).size := by show i < 2; omega
        have hx : ((⟨#[44, 41]⟩ : ByteArray)[i]'hi).toNat < 128 ∧ ((⟨#[44, 41]⟩ : ByteArray)[i]'hi).toNat ≠ 65533 := by
          have : i = 0 ∨ i = 1 := by omega
          rcases this with rfl | rfl
          · show (44 : UInt8).toNat < 128 ∧ (44 : UInt8).toNat ≠ 65533
            decide
          · show (41 : UInt8).toNat < 128 ∧ (41 : UInt8).toNat ≠ 65533
            decide
        have hnx := fun ty => run_next_ascii (P := Tryz.prog) w ⟨#[44, 41]⟩ i ty hi hx.1
        obtain ⟨x, hxe⟩ : ∃ x : Nat, ((⟨#[44, 41]⟩ : ByteArray)[i]'hi).toNat = x := ⟨_, rfl⟩
        rw [hxe] at hnx hx
        have b1 : ((x : Int) == 65533) = false := by rw [beq_eq_false_iff_ne]; omega
        go_wp2
        go_roundg g
        case measure => omega
        case rel => exact ⟨i + 1, by omega, rfl⟩
  · have b1 : (r == 65533) = false := by simpa using he
    clear he
    cases hv : Utf8.valid r
    · have HV : Hid (∀ W, Calls Tryz.prog 140 #[.int .i32 r] W fun e w' => e = .returned (.bool false) ∧ w' = W) := fun W => by
        have := vrune_any r W
        rwa [hv] at this
      unfold cpB
      go_enter Tryz.func119, Tryz.ntmps119
      go_wp2_with (go_at_call 140; refine (HV.out _).mono ?_; rintro _ w1 ⟨rfl, rfl⟩)
      go_ret
      exact ⟨rfl, Ext.refl _⟩
    · have HV : Hid (∀ W, Calls Tryz.prog 140 #[.int .i32 r] W fun e w' => e = .returned (.bool true) ∧ w' = W) := fun W => by
        have := vrune_any r W
        rwa [hv] at this
      obtain ⟨f1, f2, f3⟩ := encode_facts r hv h
      have hl : (Utf8.encode r).size - 1 < (Utf8.encode r).size := by omega
      have f4 := f3 hl
      clear f3
      obtain ⟨S, hS⟩ : ∃ S, Utf8.encode r = S := ⟨_, rfl⟩
      simp only [hS] at f1 f2 hl f4
      obtain ⟨n, hn⟩ : ∃ n, S.size = n + 1 := ⟨S.size - 1, by omega⟩
      have hn1 : n < S.size := by omega
      have f5 : 128 ≤ (S[n]'hn1).toNat := by
        have : S.size - 1 = n := by omega
        simpa only [this] using f4
      have hsz : (S.size : Int) - 1 = (n : Int) := by omega
      clear f4 hl
      unfold cpB
      go_enter Tryz.func119, Tryz.ntmps119
      go_wp2_with (go_at_call 140; refine (HV.out _).mono ?_; rintro _ w1 ⟨rfl, rfl⟩)
      go_step3
      go_wp2_with fail
      go_loopw [9, 10] (fun i _ wr => i = .int .i64 n ∧ wr = w1) (fun _ _ _ => 0)
      case atStart => exact ⟨by simp [hsz], rfl⟩
      case round =>
        obtain ⟨rfl, rfl⟩ := hrel
        by_cases h3 : n = 1
        · subst h3
          have b3 : ((41 : Int) == ((S[1]'hn1).toNat : Int)) = false := by rw [beq_eq_false_iff_ne]; omega
          have b4 : ¬ ((41 : Int) = ((S[1]'hn1).toNat : Int)) := by omega
          have hi : ∀ c, Lib.indexByte ([] : List UInt8) c = -1 := fun _ => rfl
          have hw2 : IntKind.i64.wrap 2 = 2 := IntWalk.i64_in _ (by omega)
          have b5 : (((((⟨#[44, 41]⟩ : ByteArray)[1]'(by decide)).toNat : Nat) : Int) != ((S[1]'hn1).toNat : Int)) = true := bne_iff_ne.2 (by show ((41 : Nat) : Int) ≠ _; omega)
          clear b3 b4
          go_wp2_with fail
          go_step3
          go_wp2_with fail
          go_region
          go_wp2_with fail
          go_region_with (first | (go_at_call 139; refine (ibyte_any _ _ _).mono ?_; rintro _ w2 ⟨rfl, rfl⟩))
          all_goals
            go_wp2_with fail
            rw [Exit.noGoto_ret]
            go_wp2_with fail
            rw [Exit.noGoto_ret]
            go_wp2_with fail
            go_ret
            exact ⟨rfl, by first | exact Ext.refl _ | exact ((Ext.refl _).drew).drew | exact (Ext.refl _).drew⟩
        · have b3 : ¬ (n : Int) < 2 := by omega
          go_wp2_with fail
          go_ret
          exact ⟨rfl, Ext.refl _⟩
theorem irune_any (r : Int) (w : World) (h : 0 ≤ r) (h2 : r ≤ 2147483647) :
    Calls Tryz.prog 119 #[.string cpB, .int .i32 r] w fun e w' => (∃ x : Int, e = .returned (.int .i64 x)) ∧ Ext w w' := by
  by_cases hr : r < 128
  · refine (Tryz.strings_IndexRune_ascii cpB r w h hr).mono ?_
    rintro e w' ⟨rfl, rfl⟩
    exact ⟨⟨_, rfl⟩, Ext.refl _⟩
  · refine (irune_high r w (by omega) h2).mono ?_
    rintro e w' ⟨rfl, hx⟩
    exact ⟨⟨_, rfl⟩, hx⟩
end Go.Proofs.YtdjdhkbomhendaaGreatDoor
namespace Go.Proofs.YtdjdhkbomhendaaGreatDoor
open Go.RowKit
set_option linter.unusedVariables false
set_option linter.unusedSimpArgs false
set_option maxHeartbeats 4000000
set_option maxRecDepth 100000

/-- all letters are ASCII -/
def Asc (l : List UInt8) : Prop := ∀ c ∈ l, c.toNat < 128
theorem Asc.get {s : ByteArray} (h : Asc s.data.toList) (j : Nat) (b : UInt8) (hb : s.data.toList[j]? = some b) : b.toNat < 128 := h b (List.mem_of_getElem? hb)
theorem iany_stop : ∀ l : List UInt8, (Lib.indexAny l [44, 41] = -1 ∧ stopLen l = l.length) ∨ (Lib.indexAny l [44, 41] = stopLen l ∧ stopLen l < l.length)
  | [] => .inl ⟨rfl, rfl⟩
  | c :: l => by
    have ih := iany_stop l
    unfold Lib.indexAny stopLen
    by_cases hc : c = 44 ∨ c = 41
    · have h1 : List.contains [44, 41] c = true := by rcases hc with rfl | rfl <;> rfl
      rw [if_pos hc]
      simp only [h1, if_true]
      exact .inr ⟨rfl, by simp⟩
    · have h1 : List.contains [44, 41] c = false := by
        rw [Bool.eq_false_iff]
        intro h
        apply hc
        simpa using h
      rw [if_neg hc]
      simp only [h1, Bool.false_eq_true, if_false]
      rcases ih with ⟨h2, h3⟩ | ⟨h2, h3⟩
      · rw [h2]
        simp
        omega
      · rw [h2]
        right
        simp
        omega
theorem sua_any (n : Int) (w : World) : Calls Tryz.prog 120 #[.int .i64 n] w fun e w' => e = .returned (.bool (decide (8 < n))) ∧ w' = w := Any.strings_shouldUseASCIISet { Tryz.lays153 with } n w
theorem Ext.iterAt {w w' : World} (h : Ext w w') {k : Nat} (hk : w.heap.size ≤ k) (s : ByteArray) (p : Nat) : Ext w (w'.iterAt k s p) := by
  have q : Below _ _ _ := h
  have hs := h.size
  exact (⟨q.os, q.tape, q.output, by simpa [World.iterAt] using hs, fun i hi => by
    have e : (w'.iterAt k s p).heap[i]? = w'.heap[i]? := by
      show (w'.heap.setIfInBounds k _)[i]? = _
      rw [Array.getElem?_setIfInBounds_ne (by omega)]
    rw [e]
    exact q.block i hi⟩ : Below w.heap.size w (w'.iterAt k s p))
theorem iany_bad (s : ByteArray) (w : World) (h8 : s.size ≤ 8) :
    Calls Tryz.prog 97 #[.string s, .string cpB] w fun e w' => (∃ x : Int, e = .returned (.int .i64 x) ∧ (x = -1 ∨ 0 ≤ x ∧ x < s.size)) ∧ Ext w w' := by
  have HS : Hid (∀ W, Calls Tryz.prog 120 #[.int .i64 s.size] W fun e w' => e = .returned (.bool false) ∧ w' = W) := fun W => by
    have := sua_any s.size W
    rwa [show decide ((8 : Int) < (s.size : Int)) = false from decide_eq_false (by omega)] at this
  have HI := hid (fun r W h1 h2 => irune_any r W h1 h2)
  unfold cpB at HI ⊢
  go_enter Tryz.func97, Tryz.ntmps97
  go_wp2_with (go_at_call 120; refine (HS.out _).mono ?_; rintro _ w1 ⟨rfl, rfl⟩)
  obtain ⟨k, hk⟩ : ∃ k, w1.heap.size = k := ⟨_, rfl⟩
  have HK := hid hk
  have hI0 : (w1.iter s 0).heap[k]? = some (.stringIter s 0) := by rw [← hk]; exact World.iter_heap _ _ _
  have HI0 := hid hI0
  have HX0 : Hid (Ext w1 (w1.iter s 0)) := by unfold Hid World.iter; exact (Ext.refl w1).alloc _
  rw [hk]
  generalize w1.iter s 0 = w0 at *
  clear hk hI0
  go_loopg [9, 10] s.size (fun g _ _ wx => ∃ i : Nat, g = s.size - i ∧ wx.heap[k]? = some (.stringIter s i) ∧ Ext w1 wx)
  case atStart => exact ⟨0, by omega, HI0.out, HX0.out⟩
  case round =>
    obtain ⟨i, hg, hki, hxr⟩ := hrel
    have HXr := hid hxr
    have HKi := hid hki
    by_cases hi : i < s.size
    · have hnx := fun ty => Lib.run_next_any_at (P := Tryz.prog) wr k s i ty hki hi
      have h0 := decode_le s i
      have h1 : (0 : Int) ≤ ((Utf8.decode s i).1 : Int) := Int.natCast_nonneg _
      replace h0 : ((Utf8.decode s i).1 : Int) ≤ 2147483647 := by omega
      have h2 : 1 ≤ (Utf8.decode s i).2 := Lib.decode_width_pos s i hi
      have HX2 := hid (hxr.iterAt (Nat.le_of_eq HK.out) s (i + (Utf8.decode s i).2))
      have HK2 := hid (Lib.iterAt_heap wr k s i (i + (Utf8.decode s i).2) hki)
      clear hki hxr
      generalize (Utf8.decode s i).2 = d at *
      generalize ((Utf8.decode s i).1 : Int) = r at *
      have HC := hid (fun W => HI.out r W h1 h0)
      go_wp2_with (go_at_call 119; refine (HC.out _).mono ?_; rintro _ w2 ⟨⟨x, rfl⟩, hx2⟩)
      all_goals first
        | (go_ret; exact ⟨⟨i, rfl, .inr ⟨by omega, by omega⟩⟩, HX2.out.trans hx2⟩)
        | (go_roundg (s.size - (i + d))
           case measure => omega
           case rel => exact ⟨i + d, rfl, (Below.block hx2 k (Array.getElem?_eq_some_iff.1 HK2.out).1).trans HK2.out, HX2.out.trans hx2⟩)
    · have hnx := fun ty => Lib.run_next_end_at (P := Tryz.prog) wr k s i ty hki hi
      clear hki hxr
      go_wp2
      go_ret
      exact ⟨⟨-1, rfl, .inl rfl⟩, HXr.out⟩
theorem iany_any (s : ByteArray) (w : World) (hs : s.size ≤ 1000000) :
    Calls Tryz.prog 97 #[.string s, .string cpB] w fun e w' => (∃ x : Int, e = .returned (.int .i64 x) ∧ (x = -1 ∨ 0 ≤ x ∧ x < s.size) ∧ (Asc s.data.toList → x = Lib.indexAny s.data.toList [44, 41])) ∧ Ext w w' := by
  have hb : Lib.indexAny s.data.toList [44, 41] = -1 ∨ 0 ≤ Lib.indexAny s.data.toList [44, 41] ∧ Lib.indexAny s.data.toList [44, 41] < s.size := by
    have hz : s.data.toList.length = s.size := rfl
    rcases iany_stop s.data.toList with ⟨h, _⟩ | ⟨h, h2⟩
    · exact .inl h
    · right; rw [h]; omega
  have hc : ∀ (j : Nat) b, cpB.data.toList[j]? = some b → b.toNat < 128 := fun j b h => by
    match j, h with
    | 0, h => obtain rfl := Option.some.inj h; decide
    | 1, h => obtain rfl := Option.some.inj h; decide
    | j + 2, h => cases h
  by_cases ha : Asc s.data.toList
  · refine (Tryz.strings_IndexAny_laid s cpB w (by omega) (by decide) ha.get hc).mono ?_
    rintro e w' ⟨rfl, hx⟩
    exact ⟨⟨_, rfl, hb, fun _ => rfl⟩, hx⟩
  · by_cases h8 : s.size ≤ 8
    · refine (iany_bad s w h8).mono ?_
      rintro e w' ⟨⟨x, rfl, hx⟩, hx2⟩
      exact ⟨⟨x, rfl, hx, fun h => absurd h ha⟩, hx2⟩
    · refine (Tryz.strings_IndexAny_long (zero_of_info (n := 256) (by kernel_rfl)).1 s cpB w (by decide) (by omega) (by omega) (by decide) hc).mono ?_
      rintro e w' ⟨rfl, rfl⟩
      exact ⟨⟨_, rfl, hb, fun _ => rfl⟩, ((Ext.refl w).alloc _).alloc _⟩
end Go.Proofs.YtdjdhkbomhendaaGreatDoor
namespace Go.Proofs.YtdjdhkbomhendaaGreatDoor
open Go.RowKit
set_option linter.unusedVariables false
set_option linter.unusedSimpArgs false
set_option maxHeartbeats 4000000
set_option maxRecDepth 100000

theorem quoLen_le : ∀ l : List UInt8, quoLen l ≤ l.length
  | [] => Nat.le_refl _
  | [c] => Nat.le_refl _
  | c :: d :: r => by
    have h1 := quoLen_le r
    have h2 := quoLen_le (d :: r)
    rw [quoLen]
    split
    · split
      · simp only [List.length_cons]; omega
      · simp only [List.length_cons]; omega
    · simp only [List.length_cons] at h2 ⊢; omega
theorem stopLen_le : ∀ l : List UInt8, stopLen l ≤ l.length
  | [] => Nat.le_refl _
  | c :: r => by
    have h := stopLen_le r
    rw [stopLen]
    split
    · exact Nat.zero_le _
    · simp only [List.length_cons]; omega
theorem litLen_le : ∀ l : List UInt8, litLen l ≤ l.length
  | [] => Nat.le_refl _
  | c :: r => by
    rw [litLen]
    split
    · have := quoLen_le r; simp only [List.length_cons]; omega
    · exact stopLen_le _
/-- quoLen, letter by letter, from position k on -/
theorem quo_next {s : ByteArray} {k : Nat} (hk : k < s.size) (h : s[k] ≠ 39) : quoLen (s.data.toList.drop k) = 1 + quoLen (s.data.toList.drop (k + 1)) := by
  have hl : k < s.data.toList.length := hk
  rw [← List.getElem_cons_drop hl]
  exact quoLen_other _ _ h
theorem quo_stop {s : ByteArray} {k : Nat} (hk : k < s.size) (h : s[k] = 39) (h2 : k + 1 = s.size ∨ ∃ h3 : k + 1 < s.size, s[k + 1] ≠ 39) : quoLen (s.data.toList.drop k) = 1 := by
  have hl : k < s.data.toList.length := hk
  rw [← List.getElem_cons_drop hl]
  rw [show s.data.toList[k] = 39 from h]
  refine quoLen_one _ ?_
  rcases h2 with h2 | ⟨h3, h4⟩
  · rw [List.drop_of_length_le (show s.data.toList.length ≤ k + 1 from Nat.le_of_eq h2.symm)]
    simp
  · have hl2 : k + 1 < s.data.toList.length := h3
    rw [← List.getElem_cons_drop hl2]
    simp only [List.head?_cons, ne_eq, Option.some.injEq]
    exact h4
theorem quo_two {s : ByteArray} {k : Nat} (hk : k + 1 < s.size) (h : s[k]'(by omega) = 39) (h2 : s[k + 1] = 39) : quoLen (s.data.toList.drop k) = 2 + quoLen (s.data.toList.drop (k + 2)) := by
  have hl : k < s.data.toList.length := Nat.lt_of_succ_lt hk
  have hl2 : k + 1 < s.data.toList.length := hk
  rw [← List.getElem_cons_drop hl, ← List.getElem_cons_drop hl2, show s.data.toList[k] = 39 from h, show s.data.toList[k + 1] = 39 from h2, quoLen, if_pos rfl, if_pos rfl]
theorem lit_quo {s : ByteArray} (h : 0 < s.size) (h0 : s[0] = 39) : litLen s.data.toList = 1 + quoLen (s.data.toList.drop 1) := by
  have hl : 0 < s.data.toList.length := h
  have e : s.data.toList = 39 :: s.data.toList.drop 1 := by
    have := List.getElem_cons_drop hl
    rw [show s.data.toList[0] = 39 from h0] at this
    exact this.symm
  rw [e, litLen, if_pos rfl]
  simp
theorem lit_no {s : ByteArray} (h : ¬ (0 < s.size ∧ ∃ h : 0 < s.size, s[0] = 39)) : litLen s.data.toList = stopLen s.data.toList := by
  cases hs : s.data.toList with
  | nil => rfl
  | cons c r =>
    rw [litLen, if_neg]
    intro hc
    apply h
    have h1 : 0 < s.size := by show 0 < s.data.toList.length; rw [hs]; simp
    refine ⟨h1, h1, ?_⟩
    have : s.data.toList[0]'h1 = c := by simp [hs]
    rw [← hc]
    exact this
theorem literal_any (s : ByteArray) (w : World) (hs : s.size ≤ 1000000) :
    Calls Tryz.prog 72 #[.string s] w fun e w' => (∃ n : Nat, e = .returned (.int .i64 n) ∧ n ≤ s.size ∧ (Asc s.data.toList → n = litLen s.data.toList)) ∧ Ext w w' := by
  have HP : Hid (∀ W, Calls Tryz.prog 96 #[.string s, .string ⟨#[39]⟩] W fun e w' => e = .returned (.bool (decide (0 < s.size ∧ ∃ h : 0 < s.size, s[0] = 39))) ∧ w' = W) := fun W => by
    have h := Tryz.strings_HasPrefix s ⟨#[39]⟩ W
    have e : Lib.hasPrefix s.data.toList (⟨#[39]⟩ : ByteArray).data.toList = decide (0 < s.size ∧ ∃ h : 0 < s.size, s[0] = 39) := by
      show Lib.hasPrefix s.data.toList [39] = _
      unfold Lib.hasPrefix
      by_cases hz : 0 < s.size
      · have hl : 0 < s.data.toList.length := hz
        have e0 : s.data.toList = s[0] :: s.data.toList.drop 1 := (List.getElem_cons_drop hl).symm
        rw [e0]
        rw [Bool.eq_iff_iff, decide_eq_true_eq]
        simp only [List.isPrefixOf, Bool.and_true, beq_iff_eq]
        exact ⟨fun h => ⟨hz, hz, h.symm⟩, fun ⟨_, _, h⟩ => h.symm⟩
      · have e0 : s.data.toList = [] := List.eq_nil_of_length_eq_zero (by show s.size = 0; omega)
        rw [e0, decide_eq_false (fun h => hz h.1)]
        rfl
    rw [e] at h
    exact h
  by_cases hq : 0 < s.size ∧ ∃ h : 0 < s.size, s[0] = 39
  · rw [decide_eq_true hq] at HP
    obtain ⟨hz, _, h0⟩ := hq
    have HL := hid (lit_quo hz h0)
    clear h0
    go_enter Tryz.func72, Tryz.ntmps72
    go_wp2_with (go_at_call 96; refine (HP.out _).mono ?_; rintro _ w1 ⟨rfl, rfl⟩)
    go_loop [4] (fun i => ∃ k : Nat, k ≤ s.size ∧ i = .int .i64 k ∧ litLen s.data.toList = k + quoLen (s.data.toList.drop k)) (fun i => s.size - (intOf i).toNat)
    case atStart => exact ⟨1, hz, rfl, HL.out⟩
    case round =>
      obtain ⟨k, hk, rfl, hr⟩ := hrel
      have HR := hid hr
      clear hr
      by_cases hlt : k < s.size
      · by_cases hc : s[k] = 39
        · have b1 : ((s[k].toNat : Int) == 39) = true := by rw [hc]; rfl
          by_cases he : k + 1 = s.size
          · have HE := hid (quo_stop hlt hc (.inl he))
            have b2 : (((k : Int) + 1) == (s.size : Int)) = true := by simp; omega
            clear hc
            go_wp2_with fail
            go_ret
            refine ⟨⟨k + 1, by simp, by omega, fun _ => ?_⟩, Ext.refl _⟩
            rw [HR.out, HE.out]
          · have h2 : k + 1 < s.size := by omega
            have b2 : (((k : Int) + 1) == (s.size : Int)) = false := by simp; omega
            by_cases hd : s[k + 1] = 39
            · have HE := hid (quo_two h2 hc hd)
              have b3 : ((s[k + 1].toNat : Int) == 39) = true := by rw [hd]; rfl
              have b4 : ¬ ¬ (s[k + 1].toNat : Int) = 39 := by rw [hd]; simp
              clear hc hd
              go_wp2_with fail
              refine ⟨⟨k + 2, by omega, by simp; omega, ?_⟩, by simp [intOf]; omega⟩
              rw [HR.out, HE.out]
              omega
            · have HE := hid (quo_stop hlt hc (.inr ⟨h2, hd⟩))
              have b3 : ¬ (s[k + 1].toNat : Int) = 39 := fun h => hd (UInt8.toNat_inj.1 (by rw [show (39 : UInt8).toNat = 39 from rfl]; omega))
              clear hc hd
              go_wp2_with fail
              go_ret
              refine ⟨⟨k + 1, by simp, by omega, fun _ => ?_⟩, Ext.refl _⟩
              rw [HR.out, HE.out]
        · have HE := hid (quo_next hlt hc)
          have b1 : ¬ (s[k].toNat : Int) = 39 := fun h => hc (UInt8.toNat_inj.1 (by rw [show (39 : UInt8).toNat = 39 from rfl]; omega))
          clear hc
          go_wp2_with fail
          refine ⟨⟨k + 1, by omega, by simp, ?_⟩, by simp [intOf]; omega⟩
          rw [HR.out, HE.out]
          omega
      · obtain rfl : k = s.size := by omega
        have hd : s.data.toList.drop s.size = [] := List.drop_of_length_le (Nat.le_refl _)
        have HE : Hid (litLen s.data.toList = s.size) := by
          have h := HR.out
          rw [hd] at h
          exact h
        clear hd
        go_wp2_with fail
        go_ret
        exact ⟨⟨s.size, rfl, Nat.le_refl _, fun _ => HE.out.symm⟩, Ext.refl _⟩
  · rw [decide_eq_false hq] at HP
    have HL := hid (lit_no hq)
    clear hq
    have HI := hid (fun W => iany_any s W hs)
    unfold cpB at HI
    have HSt := hid (iany_stop s.data.toList)
    go_enter Tryz.func72, Tryz.ntmps72
    go_wp2_with (first | (go_at_call 96; refine (HP.out _).mono ?_; rintro _ w1 ⟨rfl, rfl⟩) | (go_at_call 97; refine (HI.out _).mono ?_; rintro _ w2 ⟨⟨x, rfl, hx, hxa⟩, hx2⟩; have HX := hid hx; have HXA := hid hxa; clear hx hxa))
    all_goals
      have hz : s.data.toList.length = s.size := rfl
      go_ret
      have h1 := HX.out
      have h2 := HXA.out
      have h3 := HSt.out
      have h4 := HL.out
      first
        | exact ⟨⟨x.toNat, by show Ending.returned (Value.int IntKind.i64 x) = _; rw [Int.toNat_of_nonneg (by omega)], by omega, fun ha => by have := h2 ha; omega⟩, hx2⟩
        | exact ⟨⟨s.size, rfl, Nat.le_refl _, fun ha => by have := h2 ha; omega⟩, hx2⟩
end Go.Proofs.YtdjdhkbomhendaaGreatDoor
