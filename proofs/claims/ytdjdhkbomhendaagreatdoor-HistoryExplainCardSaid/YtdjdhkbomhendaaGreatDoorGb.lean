/-
  Walks over the value package and its reference: Valid, Equal, Less, Fits. · Walks over the value package and its reference: Equal, Less, Fits. · A quote written twice. · Walks over the value package: Int, Text, Format. · Walks over the value package: rows; FormatRow; the examples.
-/
import Derived.Test.YtdjdhkbomhendaaGreatDoorGa
import Derived.Test.YtdjdhkbomhendaaGreatDoorShelf
import Derived.Lib.ReplaceLaws
import Derived.Lib.IndexBytes
import Derived.Test.YtdjdhkbomhendaaGreatDoorBase
import Derived.Lib.ItoaLen
import Derived.WalkSmall
import Derived.Lib.Join
namespace Go.Proofs.YtdjdhkbomhendaaGreatDoor
set_option linter.unusedVariables false
set_option linter.unusedSimpArgs false
open Go.RowKit
set_option maxHeartbeats 1000000
set_option maxRecDepth 100000

theorem empty_size {s : ByteArray} : (N s).isEmpty = decide (s.size = 0) := by
  rw [← N_len]
  cases N s <;> simp

theorem rprintable_any (s : ByteArray) (w : World) (hs : s.size ≤ 9223372036854775807) :
    Calls Tryz.prog 108 #[.string s] w fun e w' => e = .returned (.bool (prn (N s))) ∧ w = w' := by
  go_enter Tryz.func108, Tryz.ntmps108
  go_wp2
  go_loop [3] (fun i => ∃ k : Nat, k ≤ s.size ∧ i = .int .i64 k ∧ prn ((N s).take k) = true) (fun i => s.size - (intOf i).toNat)
  case atStart => exact ⟨0, Nat.zero_le _, rfl, rfl⟩
  case round =>
    obtain ⟨k, hk, rfl, hp⟩ := hrel
    have HP := hid hp
    clear hp
    by_cases hlt : k < s.size
    · go_wp2
      · go_ret
        exact ⟨ret_bool (prn_no s k hlt (by omega)).symm, rfl⟩
      · go_round
        case rel => exact ⟨k + 1, by omega, by go_num, prn_yes s k hlt HP.out (by omega) (by omega)⟩
        case measure => simp [intOf]; omega
      · go_ret
        exact ⟨ret_bool (prn_no s k hlt (by omega)).symm, rfl⟩
    · go_wp2
      go_ret
      obtain rfl : k = s.size := by omega
      exact ⟨ret_bool (by have := HP.out; rw [List.take_of_length_le (by rw [N_len]; exact Nat.le_refl _)] at this; exact this.symm), rfl⟩
theorem printable_any (s : ByteArray) (w : World) (hs : s.size ≤ 9223372036854775807) :
    Calls Tryz.prog 101 #[.string s] w fun e w' => e = .returned (.bool (prn (N s) && decide (s.size ≤ 16))) ∧ w = w' := by
  go_enter Tryz.func101, Tryz.ntmps101
  go_wp2_with fail
  go_loop [6] (fun i => ∃ k : Nat, k ≤ s.size ∧ i = .int .i64 k ∧ prn ((N s).take k) = true) (fun i => s.size - (intOf i).toNat)
  case atStart => exact ⟨0, Nat.zero_le _, rfl, rfl⟩
  case round =>
    obtain ⟨k, hk, rfl, hp⟩ := hrel
    have HP := hid hp
    clear hp
    by_cases hlt : k < s.size
    · go_wp2
      · go_ret
        exact ⟨ret_bool (by rw [prn_no s k hlt (by omega)]; rfl), rfl⟩
      · go_round
        case rel => exact ⟨k + 1, by omega, by go_num, prn_yes s k hlt HP.out (by omega) (by omega)⟩
        case measure => simp [intOf]; omega
      · go_ret
        exact ⟨ret_bool (by rw [prn_no s k hlt (by omega)]; rfl), rfl⟩
    · obtain rfl : k = s.size := by omega
      have hv : Hid (prn (N s) = true) := by
        have := HP.out
        rw [List.take_of_length_le (by rw [N_len]; exact Nat.le_refl _)] at this
        exact this
      go_wp2
      go_ret
      refine ⟨ret_bool ?_, rfl⟩
      rw [hv.out]
      first | grind | simp

def tr (b : Bool) : Int := if b then 1 else 0
theorem valid_any (k n : Int) (t : ByteArray) (w : World) (hs : t.size ≤ 9223372036854775807) :
    Calls Tryz.prog 80 #[.agg #[.int .i64 k, .int .i64 n, .string t]] w fun e w' => e = .returned (.bool (validV ⟨k, n, t⟩)) ∧ Ext w w' := by
  have HS := hid hs
  clear hs
  have HV : Hid (validV ⟨k, n, t⟩ = if k = 0 then decide (n = 0) && (N t).isEmpty else if k = 1 then (N t).isEmpty else if k = 2 then decide (n = 0) && prn (N t) && decide (t.size ≤ 16) else false) := rfl
  have HEm : Hid (t.toList.isEmpty = (N t).isEmpty) := str_empty t
  go_enter Tryz.func80, Tryz.ntmps80
  go_wp2_with (go_at_call 101; refine (printable_any t _ HS.out).mono ?_; rintro e w1 ⟨rfl, rfl⟩)
  all_goals
    go_ret
    refine ⟨ret_bool ?_, (Ext.refl w).alloc _⟩
    rw [HV.out]
    have := HEm.out
    first | grind | skip
theorem rvalid_any (k n : Int) (t : ByteArray) (w : World) (hs : t.size ≤ 9223372036854775807) :
    Calls Tryz.prog 86 #[.agg #[.int .i64 k, .int .i64 n, .string t]] w fun e w' => e = .returned (.bool (validV ⟨k, n, t⟩)) ∧ Ext w w' := by
  have HS := hid hs
  clear hs
  have HV : Hid (validV ⟨k, n, t⟩ = if k = 0 then decide (n = 0) && (N t).isEmpty else if k = 1 then (N t).isEmpty else if k = 2 then decide (n = 0) && prn (N t) && decide (t.size ≤ 16) else false) := rfl
  have HEm : Hid (t.toList.isEmpty = (N t).isEmpty) := str_empty t
  go_enter Tryz.func86, Tryz.ntmps86
  go_wp2_with (go_at_call 108; refine (rprintable_any t _ HS.out).mono ?_; rintro e w1 ⟨rfl, rfl⟩)
  all_goals
    go_ret
    refine ⟨ret_bool ?_, (Ext.refl w).alloc _⟩
    rw [HV.out]
    have := HEm.out
    first | grind | skip

end Go.Proofs.YtdjdhkbomhendaaGreatDoor
namespace Go.Proofs.YtdjdhkbomhendaaGreatDoor
set_option linter.unusedVariables false
set_option linter.unusedSimpArgs false
open Go.RowKit
set_option maxHeartbeats 1000000
set_option maxRecDepth 100000

def eqT (a b : Val) : Int := if a.k = 0 ∨ b.k = 0 then 2 else tr (cmpV a b == 0)
def ltT (a b : Val) : Int := if a.k = 0 ∨ b.k = 0 then 2 else tr ((a.k == b.k) && decide (cmpV a b < 0))

/-- the domain of a variable -/
def fitsB (a : Val) (ty lo hi mx : Int) (nl : Bool) : Bool :=
  if validV a = true then (if a.k = 0 then nl else if a.k = 1 then decide (ty = 1) && decide (lo ≤ a.n) && decide (a.n ≤ hi) else decide (ty = 2) && decide ((a.t.size : Int) ≤ mx)) else false

theorem boxf {w w2 : World} {a b c d e f g h : Value} {T U : TypeId} (hx : Ext ((w.alloc (.cells #[a, b, c] T)).alloc (.cells #[d, e, f, g, h] U)) w2) :
    w2.cell? ⟨w.heap.size, 0, none⟩ = some a ∧ w2.cell? ⟨w.heap.size, 1, none⟩ = some b ∧ w2.cell? ⟨w.heap.size, 2, none⟩ = some c ∧
    w2.cell? ⟨w.heap.size + 1, 0, none⟩ = some d ∧ w2.cell? ⟨w.heap.size + 1, 1, none⟩ = some e ∧ w2.cell? ⟨w.heap.size + 1, 2, none⟩ = some f ∧ w2.cell? ⟨w.heap.size + 1, 3, none⟩ = some g ∧ w2.cell? ⟨w.heap.size + 1, 4, none⟩ = some h := by
  have h1 := box3 (((Ext.refl (w.alloc (.cells #[a, b, c] T))).alloc _).trans hx)
  have hc := fun (i : Nat) (v : Value) => fun (hv : ((w.alloc (.cells #[a, b, c] T)).alloc (.cells #[d, e, f, g, h] U)).cell? ⟨(w.alloc (.cells #[a, b, c] T)).heap.size, i, none⟩ = some v) => hx.keep hv
  rw [World.size_alloc] at hc
  refine ⟨h1.1, h1.2.1, h1.2.2, hc 0 d ?_, hc 1 e ?_, hc 2 f ?_, hc 3 g ?_, hc 4 h ?_⟩
  all_goals
    rw [← World.size_alloc w (.cells #[a, b, c] T), World.cell?_alloc_new]
    rfl

end Go.Proofs.YtdjdhkbomhendaaGreatDoor
namespace Go.Proofs.YtdjdhkbomhendaaGreatDoor
set_option maxHeartbeats 400000

def quo : List UInt8 → List UInt8
  | [] => []
  | c :: r => if c = 39 then 39 :: 39 :: quo r else c :: quo r
theorem quo_app : ∀ a b : List UInt8, quo (a ++ b) = quo a ++ quo b
  | [], _ => rfl
  | c :: r, b => by
    rw [List.cons_append, quo, quo]
    split <;> simp [quo_app r b]
theorem quo_len : ∀ a : List UInt8, (quo a).length ≤ 2 * a.length
  | [] => Nat.le_refl _
  | c :: r => by
    have := quo_len r
    rw [quo]
    split <;> simp <;> omega
theorem quo_none : ∀ s : List UInt8, Lib.indexByte s 39 = -1 → quo s = s
  | [], _ => rfl
  | b :: l, h => by
    rw [Lib.indexByte] at h
    have hg := Lib.indexByte_ge l 39
    by_cases hb : b = 39
    · subst hb; simp at h
    · have e : (b == 39) = false := by simpa using hb
      rw [e] at h
      simp only [Bool.false_eq_true, if_false] at h
      by_cases hl : Lib.indexByte l 39 = -1
      · rw [quo, if_neg hb, quo_none l hl]
      · have e2 : (Lib.indexByte l 39 == -1) = false := by simpa using hl
        rw [e2] at h
        simp only [Bool.false_eq_true, if_false] at h
        omega
theorem quo_some : ∀ (s : List UInt8) (i : Nat), Lib.indexByte s 39 = i → quo s = s.take i ++ [39, 39] ++ quo (s.drop (i + 1))
  | [], i, h => by unfold Lib.indexByte at h; omega
  | b :: l, i, h => by
    rw [Lib.indexByte] at h
    have hg := Lib.indexByte_ge l 39
    by_cases hb : b = 39
    · subst hb
      simp at h
      obtain rfl : i = 0 := by omega
      simp [quo]
    · have e : (b == 39) = false := by simpa using hb
      rw [e] at h
      simp only [Bool.false_eq_true, if_false] at h
      by_cases hl : Lib.indexByte l 39 = -1
      · rw [hl] at h; simp at h; try omega
      · have e2 : (Lib.indexByte l 39 == -1) = false := by simpa using hl
        rw [e2] at h
        simp only [Bool.false_eq_true, if_false] at h
        obtain ⟨j, rfl⟩ : ∃ j, i = j + 1 := ⟨i - 1, by omega⟩
        rw [quo, if_neg hb, quo_some l j (by omega)]
        simp
theorem repK_quo : ∀ (n : Nat) (s : List UInt8), s.length ≤ n → Lib.replaceK [39] [39, 39] (Lib.count s [39]) s = quo s
  | 0, s, h => by
    have : s = [] := List.eq_nil_of_length_eq_zero (by omega)
    subst this
    rfl
  | n + 1, s, h => by
    have hg := Lib.indexByte_ge s 39
    by_cases hi : Lib.indexByte s 39 = -1
    · rw [Lib.count_miss (by rw [Lib.index_one]; exact hi), quo_none s hi]
      rfl
    · obtain ⟨i, hi⟩ : ∃ i : Nat, Lib.indexByte s 39 = i := ⟨(Lib.indexByte s 39).toNat, by omega⟩
      have hidx : Lib.index s [39] = i := by rw [Lib.index_one]; exact hi
      rw [Lib.count_hit (by simp) hidx, Nat.add_comm 1, Lib.replaceK_hit _ _ _ _ i hidx, quo_some s i hi]
      rw [List.length_singleton]
      by_cases hs : s = []
      · subst hs; unfold Lib.indexByte at hi; omega
      · have hp : 0 < s.length := List.length_pos_iff.2 hs
        rw [repK_quo n (s.drop (i + 1)) (by rw [List.length_drop]; omega)]
theorem repAll_quo (s : List UInt8) : Lib.replaceAll s [39] [39, 39] = quo s := by
  unfold Lib.replaceAll Lib.replace
  rw [if_neg (by decide)]
  have : Lib.replaceNum s [39] (-1) = Lib.count s [39] := by unfold Lib.replaceNum; rw [if_pos (.inl (by decide))]
  rw [this]
  exact repK_quo _ s (Nat.le_refl _)

end Go.Proofs.YtdjdhkbomhendaaGreatDoor
namespace Go.Proofs.YtdjdhkbomhendaaGreatDoor
set_option linter.unusedVariables false
set_option linter.unusedSimpArgs false
open Go.RowKit
set_option maxHeartbeats 1000000
set_option maxRecDepth 100000

theorem int_any (n : Int) (w : World) : Calls Tryz.prog 98 #[.int .i64 n] w fun e w' => e = .returned (.agg #[.int .i64 1, .int .i64 n, .string ⟨#[]⟩]) ∧ Ext w w' := by
  go_enter Tryz.func98, Tryz.ntmps98
  go_wp2
  exact bodyPost_ret (v := .agg #[.int .i64 1, .int .i64 n, .string ⟨#[]⟩]) (by simp [results, Tryz.results32, go_sem]) rfl ⟨rfl, (Ext.refl w).alloc _⟩
theorem text_any (t : ByteArray) (w : World) : Calls Tryz.prog 99 #[.string t] w fun e w' => e = .returned (.agg #[.int .i64 2, .int .i64 0, .string t]) ∧ Ext w w' := by
  go_enter Tryz.func99, Tryz.ntmps99
  go_wp2
  exact bodyPost_ret (v := .agg #[.int .i64 2, .int .i64 0, .string t]) (by simp [results, Tryz.results33, go_sem]) rfl ⟨rfl, (Ext.refl w).alloc _⟩

theorem ext_grow (w : World) (k : Nat) (os : Array Obj) : Ext w (Go.Sort.grow (w.drewN k) os) :=
  ⟨rfl, rfl, rfl, by simp [Go.Sort.grow], fun i hi => by
    show (w.heap ++ os)[i]? = w.heap[i]?
    rw [Array.getElem?_append_left hi]⟩
/-- the table of the powers of ten is as the library lays it -/
def Tab (w : World) : Prop := Lib.TabIs Tryz.prog w "internal/strconv.uint64pow10" .u64 Lib.pow10Tab ∧ 2 ≤ w.heap.size
theorem gTab : Tryz.prog.globalNamed "internal/strconv.uint64pow10" = some 1 := by kernel_rfl
theorem Tab.ext {w w' : World} (h : Tab w) (hx : Ext w w') : Tab w' :=
  ⟨var?_below hx gTab (by have := h.2; omega) h.1, Nat.le_trans h.2 hx.size⟩
def itoB (n : Int) : ByteArray := ⟨(Lib.itoa n).toArray⟩
theorem itoB_size (n : Int) (h0 : -9223372036854775808 ≤ n) (h1 : n ≤ 9223372036854775807) : (itoB n).size ≤ 21 := by
  have := Lib.itoa_length_le n h0 h1
  show ((Lib.itoa n).toArray).size ≤ 21
  simpa using this
/-- a number that FormatInt can be asked for: a small one, or the table is there -/
def Can (w : World) (n : Int) : Prop := (0 ≤ n ∧ n < 100) ∨ (Tab w ∧ -9223372036854775808 ≤ n ∧ n ≤ 9223372036854775807)
theorem Can.ext {w w' : World} {n : Int} (h : Can w n) (hx : Ext w w') : Can w' n := by
  rcases h with h | ⟨h, k⟩
  · exact .inl h
  · exact .inr ⟨h.ext hx, k⟩
theorem Can.bd {w : World} {n : Int} (h : Can w n) : -9223372036854775808 ≤ n ∧ n ≤ 9223372036854775807 := by
  rcases h with ⟨h, k⟩ | ⟨_, k⟩
  · omega
  · exact k
theorem fmtint_any (n : Int) (w : World) (h : Can w n) : Calls Tryz.prog 50 #[.int .i64 n, .int .i64 10] w fun e w' => e = .returned (.string (itoB n)) ∧ Ext w w' := by
  rcases h with ⟨h0, h1⟩ | ⟨ht, h0, h1⟩
  · obtain ⟨i, rfl⟩ : ∃ i : Nat, n = (i : Int) := ⟨n.toNat, by omega⟩
    refine (Tryz.strconv_FormatInt_10_small i (by omega) w).mono ?_
    rintro e w' ⟨rfl, rfl⟩
    refine ⟨ret_str ?_, Ext.refl _⟩
    unfold itoB Lib.itoa
    rw [if_neg (by omega)]
    rfl
  · refine (Tryz.strconv_FormatInt_10 n h0 h1 w ht.1).mono ?_
    rintro e w' ⟨rfl, k, os, rfl⟩
    exact ⟨rfl, ext_grow w k os⟩
/-- the library's variable holds some number -/
def Sh (w : World) : Prop := ∃ m, w.cell? ⟨0, 0, none⟩ = some (.int .i64 m)
theorem Sh.ext {w w' : World} (h : Sh w) (hx : Ext w w') : Sh w' := by
  obtain ⟨m, h⟩ := h
  exact ⟨m, hx.keep h⟩
def quoB (t : ByteArray) : ByteArray := ⟨(quo t.data.toList).toArray⟩
theorem quoB_size (t : ByteArray) : (quoB t).size ≤ 2 * t.size := by
  have := quo_len t.data.toList
  show ((quo t.data.toList).toArray).size ≤ 2 * t.data.size
  simpa using this
theorem countB_le (t : ByteArray) : Lib.countB t ⟨#[39]⟩ ≤ t.size + 1 := Lib.count_le t.data.toList [39]
theorem repl_any (t : ByteArray) (w : World) (h : Sh w) (hs : t.size ≤ 4000000) : Calls Tryz.prog 81 #[.string t, .string ⟨#[39]⟩, .string ⟨#[39, 39]⟩] w fun e w' => e = .returned (.string (quoB t)) ∧ Ext w w' := by
  obtain ⟨m, hm⟩ := h
  have hc := countB_le t
  have e2 : (⟨#[39, 39]⟩ : ByteArray).size = 2 := rfl
  refine (Tryz.strings_ReplaceAll t ⟨#[39]⟩ ⟨#[39, 39]⟩ m w (by omega) hm (Nat.le_refl 1) (by rw [e2]; omega)).mono ?_
  rintro e w' ⟨rfl, hx⟩
  refine ⟨ret_str ?_, hx⟩
  show (⟨(Lib.replaceAll t.data.toList [39] [39, 39]).toArray⟩ : ByteArray) = quoB t
  rw [repAll_quo]
  rfl

def fmtV (a : Val) : ByteArray :=
  if validV a = true then (if a.k = 0 then ⟨#[78, 85, 76, 76]⟩ else if a.k = 1 then itoB a.n else ⟨#[39]⟩ ++ quoB a.t ++ ⟨#[39]⟩) else ⟨#[]⟩
theorem validV_size {a : Val} (h : validV a = true) : a.t.size ≤ 16 := by
  unfold validV at h
  rw [empty_size] at h
  split at h
  · simp only [Bool.and_eq_true, decide_eq_true_eq] at h; omega
  · split at h
    · simp only [decide_eq_true_eq] at h; omega
    · split at h
      · simp only [Bool.and_eq_true, decide_eq_true_eq] at h; omega
      · cases h
theorem validV_k {a : Val} (h : validV a = true) : a.k = 0 ∨ a.k = 1 ∨ a.k = 2 := by
  unfold validV at h
  split at h
  · omega
  · split at h
    · omega
    · split at h
      · omega
      · cases h
theorem fmtV_size (w : World) (a : Val) (h : Can w a.n) : (fmtV a).size ≤ 40 := by
  have h1 := itoB_size a.n h.bd.1 h.bd.2
  have h2 := quoB_size a.t
  unfold fmtV
  split
  · rename_i hv
    have h3 := validV_size hv
    split
    · decide
    · split
      · omega
      · rw [ByteArray.size_append, ByteArray.size_append]
        show 1 + _ + 1 ≤ 40
        omega
  · decide

theorem format_any (k n : Int) (t : ByteArray) (w : World) (hs : t.size ≤ 4000000) (hw : Sh w) (hc : Can w n) :
    Calls Tryz.prog 48 #[.agg #[.int .i64 k, .int .i64 n, .string t]] w fun e w' => e = .returned (.string (fmtV ⟨k, n, t⟩)) ∧ Ext w w' := by
  have HE : Hid (fmtV ⟨k, n, t⟩ = if validV ⟨k, n, t⟩ = true then (if k = 0 then ⟨#[78, 85, 76, 76]⟩ else if k = 1 then itoB n else ⟨#[39]⟩ ++ quoB t ++ ⟨#[39]⟩) else ⟨#[]⟩) := rfl
  have HS : Hid (t.size ≤ 9223372036854775807) := by unfold Hid; omega
  have HW := hid hw
  have HC := hid hc
  clear hw hc
  cases hv : validV ⟨k, n, t⟩
  · have HV := hid hv
    go_enter Tryz.func48, Tryz.ntmps48
    go_wp2_with fail
    refine (valid_any k n t _ HS.out).mono ?_
    rintro e w1 ⟨rfl, hx1⟩
    rw [hv]
    go_wp2_with fail
    go_ret
    exact ⟨ret_str (by rw [HE.out, HV.out]; rfl), ((Ext.refl w).alloc _).trans hx1⟩
  · have HV := hid hv
    have hq := quoB_size t
    by_cases h0 : k = 0
    · have b0 : (k == 0) = true := by simp [h0]
      have H0 := hid h0
      clear h0
      go_enter Tryz.func48, Tryz.ntmps48
      go_wp2_with fail
      refine (valid_any k n t _ HS.out).mono ?_
      rintro e w1 ⟨rfl, hx1⟩
      obtain ⟨c0, c1, c2⟩ := box3 hx1
      rw [hv]
      clear hv
      go_wp2_with fail
      go_ret
      exact ⟨ret_str (by rw [HE.out, HV.out, if_pos rfl, if_pos H0.out]), ((Ext.refl w).alloc _).trans hx1⟩
    · have b0 : (k == 0) = false := by simp [h0]
      have H0 : Hid (¬ k = 0) := h0
      clear h0
      by_cases h1 : k = 1
      · have b1 : (k == 1) = true := by simp [h1]
        have H1 := hid h1
        clear h1
        go_enter Tryz.func48, Tryz.ntmps48
        go_wp2_with fail
        refine (valid_any k n t _ HS.out).mono ?_
        rintro e w1 ⟨rfl, hx1⟩
        obtain ⟨c0, c1, c2⟩ := box3 hx1
        rw [hv]
        clear hv
        go_wp2_with fail
        refine (fmtint_any n _ (HC.out.ext (((Ext.refl w).alloc _).trans hx1))).mono ?_
        rintro e w2 ⟨rfl, hx2⟩
        go_wp2_with fail
        go_ret
        exact ⟨ret_str (by rw [HE.out, HV.out, if_pos rfl, if_neg H0.out, if_pos H1.out]), (((Ext.refl w).alloc _).trans hx1).trans hx2⟩
      · have b1 : (k == 1) = false := by simp [h1]
        have H1 : Hid (¬ k = 1) := h1
        clear h1
        go_enter Tryz.func48, Tryz.ntmps48
        go_wp2_with fail
        refine (valid_any k n t _ HS.out).mono ?_
        rintro e w1 ⟨rfl, hx1⟩
        obtain ⟨c0, c1, c2⟩ := box3 hx1
        rw [hv]
        clear hv
        go_wp2_with fail
        refine (repl_any t _ (HW.out.ext (((Ext.refl w).alloc _).trans hx1)) hs).mono ?_
        rintro e w2 ⟨rfl, hx2⟩
        have HQ : Hid (fmtV ⟨k, n, t⟩ = ⟨#[39]⟩ ++ quoB t ++ ⟨#[39]⟩) := by unfold Hid; rw [HE.out, HV.out, if_pos rfl, if_neg H0.out, if_neg H1.out]
        clear HE
        generalize quoB t = Q at *
        go_wp2_with fail
        go_ret
        exact ⟨ret_str HQ.out.symm, (((Ext.refl w).alloc _).trans hx1).trans hx2⟩

end Go.Proofs.YtdjdhkbomhendaaGreatDoor
namespace Go.Proofs.YtdjdhkbomhendaaGreatDoor
set_option linter.unusedVariables false
set_option linter.unusedSimpArgs false
open Go.RowKit
set_option maxHeartbeats 1000000
set_option maxRecDepth 100000

/-- a slice of values, read -/
def ValsAt (w : World) (A : Option Addr) (l : List Val) : Prop :=
  ∀ (i : Nat) (a : Val), l[i]? = some a → ∃ b off, A = some ⟨b, off, none⟩ ∧ w.cell? ⟨b, off + i * 3, none⟩ = some (.int .i64 a.k) ∧ w.cell? ⟨b, off + i * 3 + 1, none⟩ = some (.int .i64 a.n) ∧
    w.cell? ⟨b, off + i * 3 + 2, none⟩ = some (.string a.t)
theorem ValsAt.ext {w w' : World} {A : Option Addr} {l : List Val} (h : ValsAt w A l) (hx : Ext w w') : ValsAt w' A l := fun i a ht => by
  obtain ⟨b, off, hA, h0, h1, h2⟩ := h i a ht
  exact ⟨b, off, hA, hx.keep h0, hx.keep h1, hx.keep h2⟩
theorem ownN_ext {w w' : World} {B e sz n : Nat} {v : Value} {xs : List Value} (h : w.ownsRow B e sz v n xs) (hx : Ext w w') : w'.ownsRow B e sz v n xs := by
  obtain ⟨h1, h2⟩ := h
  refine ⟨h1, ?_⟩
  rcases h2 with h2 | ⟨g, cap, cur, hv, hg, hh, r⟩
  · exact .inl h2
  · exact .inr ⟨g, cap, cur, hv, hg, (Below.block hx g (Array.getElem?_eq_some_iff.1 hh).1).trans hh, r⟩
theorem news_at (w : World) (cs : Array Value) (e : TypeId) (n : Nat) (hn : n = w.heap.size) : ∀ (j : Nat) (u : Value), cs.toList[j]? = some u → (w.alloc (.cells cs e)).cell? ((⟨n, 0, none⟩ : Addr).add j) = some u := by
  subst hn
  exact news_new w cs e

theorem itoa_ne (n : Int) : Lib.itoa n ≠ [] := by
  unfold Lib.itoa
  split
  · simp
  · intro h
    have := Lib.nDigits_pos n.toNat
    rw [← Lib.decDigits_length, h] at this
    simp at this
theorem fmtV_empty (a : Val) : (fmtV a).toList.isEmpty = !(validV a) := by
  rw [ByteArray.toList_eq]
  unfold fmtV
  cases hv : validV a
  · rfl
  · rw [if_pos rfl]
    split
    · rfl
    · split
      · show (Lib.itoa a.n).toArray.toList.isEmpty = _
        have := itoa_ne a.n
        cases h : Lib.itoa a.n
        · exact absurd h this
        · rfl
      · simp

def fmtS (l : List Val) : List ByteArray := l.map fmtV
def fmtRow (l : List Val) : ByteArray :=
  if (l.all validV) = true then ⟨#[40]⟩ ++ ⟨(Lib.join ((fmtS l).map (·.data.toList)) [44, 32]).toArray⟩ ++ ⟨#[41]⟩ else ⟨#[]⟩
theorem joinTail_len (sep : List UInt8) (M : Nat) : ∀ r : List (List UInt8), (∀ x ∈ r, x.length ≤ M) → (Lib.joinTail sep r).length ≤ r.length * (M + sep.length)
  | [], _ => by simp [Lib.joinTail]
  | x :: r, h => by
    have ih := joinTail_len sep M r (fun y hy => h y (List.mem_cons_of_mem _ hy))
    have hx := h x (List.mem_cons_self ..)
    have e : Lib.joinTail sep (x :: r) = (sep ++ x) ++ Lib.joinTail sep r := by simp [Lib.joinTail]
    rw [e, List.length_append, List.length_append, List.length_cons, Nat.succ_mul]
    omega
theorem join_len (sep : List UInt8) (M : Nat) : ∀ r : List (List UInt8), (∀ x ∈ r, x.length ≤ M) → (Lib.join r sep).length ≤ r.length * (M + sep.length)
  | [], _ => by simp [Lib.join_nil]
  | x :: r, h => by
    have ih := joinTail_len sep M r (fun y hy => h y (List.mem_cons_of_mem _ hy))
    have hx := h x (List.mem_cons_self ..)
    rw [Lib.join_cons, List.length_append, List.length_cons, Nat.succ_mul]
    omega

theorem info9 : (Tryz.prog.info? 9).map (fun i => (i.zero, i.size, i.bytes)) = some (some (.string ⟨#[]⟩), 1, 16) := by kernel_rfl
def strs (l : List ByteArray) : List Value := l.map Value.string

theorem formatrow_any (A : Option Addr) (l : List Val) (n c : Nat) (w : World) (hl : ValsAt w A l) (hn : l.length = n) (hm : n ≤ 4000000) (hs : ∀ a ∈ l, a.t.size ≤ 4000000) (hw : Sh w) (hc : ∀ a ∈ l, Can w a.n) :
    Calls Tryz.prog 64 #[.slice A n c] w fun e w' => e = .returned (.string (fmtRow l)) ∧ Ext w w' := by
  obtain ⟨i0, hi, hz0, hz1, hz2⟩ := info_parts info9
  have HN := hid hn
  have HS := hid hs
  have HC := hid hc
  have HW := hid hw
  have HL := hid hl
  clear hn hs hc hw hl
  go_enter Tryz.func64, Tryz.ntmps64
  go_wp2_with fail
  go_loopw [3, 9] (fun sv i wr => ∃ (k : Nat) (v : Value), k ≤ n ∧ i = .int .i64 k ∧ v = sv ∧ (l.take k).all validV = true ∧ wr.ownsRow w.heap.size 9 1 v k (strs (fmtS (l.take k))) ∧ Ext w wr) (fun _ i _ => n - (intOf i).toNat)
  case atStart => exact ⟨0, _, Nat.zero_le _, rfl, rfl, rfl, World.ownsRow_nil _ _ _ _, Ext.refl w⟩
  case round =>
    obtain ⟨k, v, hk, rfl, rfl, hv, hown, hxr⟩ := hrel
    have HV := hid hv
    have HOWN := hid hown
    clear hv hown
    by_cases hlt : k < n
    · obtain ⟨a, ha⟩ : ∃ a, l[k]? = some a := ⟨_, List.getElem?_eq_getElem (by rw [HN.out]; exact hlt)⟩
      obtain ⟨b, off, rfl, c0, c1, c2⟩ := (HL.out.ext hxr) k a ha
      have hsz := HS.out a (List.mem_of_getElem? ha)
      have hcn := hid (HC.out a (List.mem_of_getElem? ha))
      obtain ⟨F, hF⟩ : ∃ F, F = fmtV a := ⟨_, rfl⟩
      have hfa : ∀ W, Sh W → Can W a.n → Calls Tryz.prog 48 #[.agg #[.int .i64 a.k, .int .i64 a.n, .string a.t]] W fun e w' => e = .returned (.string F) ∧ Ext W w' := fun W h1 h2 => by rw [hF]; exact format_any a.k a.n a.t W hsz h1 h2
      have HE : Hid (F.toList.isEmpty = !(validV a)) := by rw [hF]; exact fmtV_empty a
      have HFA := hid hfa
      have HF := hid hF
      have HT : Hid (l.take (k + 1) = l.take k ++ [a]) := by
        obtain ⟨hi, rfl⟩ := List.getElem?_eq_some_iff.1 ha
        exact List.take_succ_eq_append_getElem hi
      have HA := hid ha
      have HXR := hid hxr
      have HK1 : Hid (k + 1 ≤ maxLen) := by unfold Hid maxLen; omega
      have HK2 : Hid ((k + 1) * 16 ≤ 140737488355328) := by unfold Hid; omega
      clear ha hxr hF hfa
      go_wp2_with fail
      refine (HFA.out _ (HW.out.ext (HXR.out.alloc _)) (hcn.out.ext (HXR.out.alloc _))).mono ?_
      rintro e w1 ⟨rfl, hx1⟩
      have HX1 : Hid (Ext w w1) := (HXR.out.alloc _).trans hx1
      have HO1 : Hid (w1.ownsRow w.heap.size 9 1 v k (strs (fmtS (l.take k)))) := ownN_ext HOWN.out (((Ext.refl wr).alloc _).trans hx1)
      have HSZ : Hid (w.heap.size ≤ w1.heap.size + 1) := by have := HX1.out.size; unfold Hid; omega
      clear hx1
      cases hv : validV a
      · have he : F.toList.isEmpty = true := by rw [HE.out, hv]; rfl
        have HR : Hid (fmtRow l = ⟨#[]⟩) := by
          unfold Hid fmtRow
          rw [if_neg]
          intro hall
          rw [List.all_eq_true] at hall
          have := hall a (List.mem_of_getElem? HA.out)
          rw [hv] at this
          cases this
        go_wp2_with fail
        go_ret
        exact ⟨ret_str HR.out.symm, HX1.out⟩
      · have he : F.toList.isEmpty = false := by rw [HE.out, hv]; rfl
        have HVA := hid hv
        clear hv
        go_wp2_with (at_builtin; refine wpList_append_own _ rfl _ _ 39 rfl w.heap.size 9 i0 (.string ⟨#[]⟩) 1 16 Tryz.underlying39 hi hz0 hz1 hz2 rfl (by decide) _ _ _ rfl (HO1.out.alloc _) ⟨_, 0, none⟩ 1 1 [Value.string F] rfl rfl (news_at _ _ _ _ (by simp)) (by intro u hu; simp at hu; subst hu; rfl) HK1.out HK2.out (by have := HSZ.out; simpa using this) ?_; intro v' w9 hown' hgrow _)
        go_roundw
        case rel =>
          refine ⟨k + 1, _, by omega, by go_num, rfl, ?_, ?_, Ext.grown (HX1.out.alloc _) hgrow (fun g hg => own_ge HO1.out hg)⟩
          · rw [HT.out, List.all_append, HV.out]
            simp [HVA.out]
          · rw [HT.out]
            have e : strs (fmtS (l.take k ++ [a])) = strs (fmtS (l.take k)) ++ [Value.string F] := by rw [HF.out]; simp [strs, fmtS]
            rw [e]
            exact hown'
        case measure => simp [intOf]; omega
    · obtain rfl : k = n := by omega
      have HXR := hid hxr
      have hlk : l.take k = l := List.take_of_length_le (by rw [HN.out]; exact Nat.le_refl _)
      have HV2 : Hid (l.all validV = true) := by have := HV.out; rw [hlk] at this; exact this
      have HR : Hid (fmtRow l = ⟨#[40]⟩ ++ ⟨(Lib.join ((fmtS l).map (·.data.toList)) [44, 32]).toArray⟩ ++ ⟨#[41]⟩) := by unfold Hid fmtRow; rw [if_pos HV2.out]
      have hown := HOWN.out
      rw [hlk] at hown
      have hlen : (fmtS l).length = k := by unfold fmtS; rw [List.length_map, HN.out]
      have HJ : Hid ((Lib.join ((fmtS l).map (·.data.toList)) [44, 32]).length ≤ 168000000) := by
        have h1 := join_len [44, 32] 40 ((fmtS l).map (·.data.toList)) (fun x hx => by
          rw [List.mem_map] at hx
          obtain ⟨y, hy, rfl⟩ := hx
          unfold fmtS at hy
          rw [List.mem_map] at hy
          obtain ⟨a, ha, rfl⟩ := hy
          exact fmtV_size w a (HC.out a ha))
        rw [List.length_map, hlen] at h1
        have h2 : k * (40 + [(44 : UInt8), 32].length) ≤ 4000000 * 42 := Nat.mul_le_mul hm (Nat.le_refl _)
        unfold Hid
        omega
      clear hlk hxr
      rcases hown.2 with ⟨rfl, h0⟩ | ⟨g, cap, cur, rfl, hg1, hg2, hg3, hg4, hg5, hg6⟩
      · have H0 := hid h0
        clear h0 hown hlen
        have HLN : Hid (l = []) := List.eq_nil_of_length_eq_zero (by rw [HN.out, H0.out])
        obtain rfl : k = 0 := H0.out
        go_wp2_with fail
        refine (Tryz.strings_Join_none none 0 _ _).mono ?_
        rintro e w2 ⟨rfl, rfl⟩
        go_wp2_with fail
        go_ret
        exact ⟨ret_str (by rw [HR.out, HLN.out]; rfl), HXR.out⟩
      · have hcl : ∀ (j : Nat) (x : ByteArray), (fmtS l)[j]? = some x → wr.cell? ⟨g, 0 + j, none⟩ = some (.string x) := fun j x hx => by
          have h1 := hown.cells (g := g) rfl j (.string x) (by unfold strs; rw [List.getElem?_map, hx]; rfl)
          have hadd : (⟨g, 0, none⟩ : Addr).add j = ⟨g, 0 + j, none⟩ := by unfold Addr.add; split <;> simp_all
          rwa [hadd] at h1
        have hgl : g < wr.heap.size := (Array.getElem?_eq_some_iff.1 hg2).1
        have hJC := Tryz.strings_Join g 0 cap (fmtS l) ⟨#[44, 32]⟩ wr hcl hgl (by rw [hlen]; omega) (by rw [hlen]; exact hg3) (by have := HJ.out; show (Lib.join ((fmtS l).map (·.data.toList)) [44, 32]).length ≤ _; omega)
        rw [hlen] at hJC
        have HJC := hid hJC
        clear hJC hcl hgl hown hlen hg1 hg2 hg3 hg4 hg5 hg6
        obtain ⟨J, hJ⟩ : ∃ J : ByteArray, J = ⟨(Lib.join ((fmtS l).map (·.data.toList)) [44, 32]).toArray⟩ := ⟨_, rfl⟩
        have hJs : J.size ≤ 168000000 := by
          rw [hJ]
          show ((Lib.join ((fmtS l).map (·.data.toList)) [44, 32]).toArray).size ≤ 168000000
          have := HJ.out
          simpa using this
        have HJ2 := hid hJ
        clear hJ
        go_wp2_with fail
        refine HJC.out.mono ?_
        rintro e w2 ⟨rfl, hx2⟩
        have e3 : (⟨(Lib.join ((fmtS l).map (·.data.toList)) (⟨#[44, 32]⟩ : ByteArray).data.toList).toArray⟩ : ByteArray) = J := HJ2.out.symm
        rw [e3]
        clear e3
        go_wp2_with fail
        go_ret
        exact ⟨ret_str (by rw [HR.out, HJ2.out]), HXR.out.trans hx2⟩

end Go.Proofs.YtdjdhkbomhendaaGreatDoor
