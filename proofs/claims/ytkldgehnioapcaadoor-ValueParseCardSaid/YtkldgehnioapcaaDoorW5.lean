/-
  Walks over the value package: Int, Text, Format.
-/
import Derived.Test.YtkldgehnioapcaaDoorW4
import Derived.Test.YtkldgehnioapcaaDoorQuo
import Derived.Lib.ItoaLen
import Derived.WalkSmall
namespace Go.Proofs.YtkldgehnioapcaaDoor
open Go.RowKit
set_option maxHeartbeats 1000000
set_option maxRecDepth 100000

theorem int_any (n : Int) (w : World) : Calls Tryd.prog 32 #[.int .i64 n] w fun e w' => e = .returned (.agg #[.int .i64 1, .int .i64 n, .string ⟨#[]⟩]) ∧ Ext w w' := by
  go_enter Tryd.func32, Tryd.ntmps32
  go_wp2
  exact bodyPost_ret (v := .agg #[.int .i64 1, .int .i64 n, .string ⟨#[]⟩]) (by simp [results, Tryd.results32, go_sem]) rfl ⟨rfl, (Ext.refl w).alloc _⟩
theorem text_any (t : ByteArray) (w : World) : Calls Tryd.prog 33 #[.string t] w fun e w' => e = .returned (.agg #[.int .i64 2, .int .i64 0, .string t]) ∧ Ext w w' := by
  go_enter Tryd.func33, Tryd.ntmps33
  go_wp2
  exact bodyPost_ret (v := .agg #[.int .i64 2, .int .i64 0, .string t]) (by simp [results, Tryd.results33, go_sem]) rfl ⟨rfl, (Ext.refl w).alloc _⟩

theorem ext_grow (w : World) (k : Nat) (os : Array Obj) : Ext w (Go.Sort.grow (w.drewN k) os) :=
  ⟨rfl, rfl, rfl, by simp [Go.Sort.grow], fun i hi => by
    show (w.heap ++ os)[i]? = w.heap[i]?
    rw [Array.getElem?_append_left hi]⟩
/-- the table of the powers of ten is as the library lays it -/
def Tab (w : World) : Prop := Lib.TabIs Tryd.prog w "internal/strconv.uint64pow10" .u64 Lib.pow10Tab ∧ 2 ≤ w.heap.size
theorem gTab : Tryd.prog.globalNamed "internal/strconv.uint64pow10" = some 1 := by kernel_rfl
theorem Tab.ext {w w' : World} (h : Tab w) (hx : Ext w w') : Tab w' :=
  ⟨var?_below hx gTab (by have := h.2; omega) h.1, Nat.le_trans h.2 hx.size⟩
def itoB (n : Int) : ByteArray := ⟨(Lib.itoa n).toArray⟩
theorem itoB_size (n : Int) (h0 : -9223372036854775808 ≤ n) (h1 : n ≤ 9223372036854775807) : (itoB n).size ≤ 21 := by
  have := Lib.itoa_length_le n h0 h1
  show ((Lib.itoa n).toArray).size ≤ 21
  simpa using this
/-- a number that FormatInt can be asked for: a small one, or the table is there -/
def Can (w : World) (n : Int) : Prop := (0 ≤ n ∧ n < 100) ∨ (Tab w ∧ -9223372036854775808 ≤ n ∧ n ≤ 9223372036854775807)
theorem Can.ext {w w' : World} {n : Int} (h : Can w n) (hx : Ext w w') : Can w' n := by
  rcases h with h | ⟨h, k⟩
  · exact .inl h
  · exact .inr ⟨h.ext hx, k⟩
theorem Can.bd {w : World} {n : Int} (h : Can w n) : -9223372036854775808 ≤ n ∧ n ≤ 9223372036854775807 := by
  rcases h with ⟨h, k⟩ | ⟨_, k⟩
  · omega
  · exact k
theorem fmtint_any (n : Int) (w : World) (h : Can w n) : Calls Tryd.prog 46 #[.int .i64 n, .int .i64 10] w fun e w' => e = .returned (.string (itoB n)) ∧ Ext w w' := by
  rcases h with ⟨h0, h1⟩ | ⟨ht, h0, h1⟩
  · obtain ⟨i, rfl⟩ : ∃ i : Nat, n = (i : Int) := ⟨n.toNat, by omega⟩
    refine (Tryd.strconv_FormatInt_10_small i (by omega) w).mono ?_
    rintro e w' ⟨rfl, rfl⟩
    refine ⟨ret_str ?_, Ext.refl _⟩
    unfold itoB Lib.itoa
    rw [if_neg (by omega)]
    rfl
  · refine (Tryd.strconv_FormatInt_10 n h0 h1 w ht.1).mono ?_
    rintro e w' ⟨rfl, k, os, rfl⟩
    exact ⟨rfl, ext_grow w k os⟩
/-- the library's variable holds some number -/
def Sh (w : World) : Prop := ∃ m, w.cell? ⟨0, 0, none⟩ = some (.int .i64 m)
theorem Sh.ext {w w' : World} (h : Sh w) (hx : Ext w w') : Sh w' := by
  obtain ⟨m, h⟩ := h
  exact ⟨m, hx.keep h⟩
def quoB (t : ByteArray) : ByteArray := ⟨(quo t.data.toList).toArray⟩
theorem quoB_size (t : ByteArray) : (quoB t).size ≤ 2 * t.size := by
  have := quo_len t.data.toList
  show ((quo t.data.toList).toArray).size ≤ 2 * t.data.size
  simpa using this
theorem countB_le (t : ByteArray) : Lib.countB t ⟨#[39]⟩ ≤ t.size + 1 := Lib.count_le t.data.toList [39]
theorem repl_any (t : ByteArray) (w : World) (h : Sh w) (hs : t.size ≤ 1000) : Calls Tryd.prog 47 #[.string t, .string ⟨#[39]⟩, .string ⟨#[39, 39]⟩] w fun e w' => e = .returned (.string (quoB t)) ∧ Ext w w' := by
  obtain ⟨m, hm⟩ := h
  have hc := countB_le t
  have e2 : (⟨#[39, 39]⟩ : ByteArray).size = 2 := rfl
  refine (Tryd.strings_ReplaceAll t ⟨#[39]⟩ ⟨#[39, 39]⟩ m w (by omega) hm (Nat.le_refl 1) (by rw [e2]; omega)).mono ?_
  rintro e w' ⟨rfl, hx⟩
  refine ⟨ret_str ?_, hx⟩
  show (⟨(Lib.replaceAll t.data.toList [39] [39, 39]).toArray⟩ : ByteArray) = quoB t
  rw [repAll_quo]
  rfl

def fmtV (a : Val) : ByteArray :=
  if validV a = true then (if a.k = 0 then ⟨#[78, 85, 76, 76]⟩ else if a.k = 1 then itoB a.n else ⟨#[39]⟩ ++ quoB a.t ++ ⟨#[39]⟩) else ⟨#[]⟩
theorem validV_size {a : Val} (h : validV a = true) : a.t.size ≤ 16 := by
  unfold validV at h
  rw [empty_size] at h
  split at h
  · simp only [Bool.and_eq_true, decide_eq_true_eq] at h; omega
  · split at h
    · simp only [decide_eq_true_eq] at h; omega
    · split at h
      · simp only [Bool.and_eq_true, decide_eq_true_eq] at h; omega
      · cases h
theorem validV_k {a : Val} (h : validV a = true) : a.k = 0 ∨ a.k = 1 ∨ a.k = 2 := by
  unfold validV at h
  split at h
  · omega
  · split at h
    · omega
    · split at h
      · omega
      · cases h
theorem fmtV_size (w : World) (a : Val) (h : Can w a.n) : (fmtV a).size ≤ 40 := by
  have h1 := itoB_size a.n h.bd.1 h.bd.2
  have h2 := quoB_size a.t
  unfold fmtV
  split
  · rename_i hv
    have h3 := validV_size hv
    split
    · decide
    · split
      · omega
      · rw [ByteArray.size_append, ByteArray.size_append]
        show 1 + _ + 1 ≤ 40
        omega
  · decide

theorem format_any (k n : Int) (t : ByteArray) (w : World) (hs : t.size ≤ 1000) (hw : Sh w) (hc : Can w n) :
    Calls Tryd.prog 26 #[.agg #[.int .i64 k, .int .i64 n, .string t]] w fun e w' => e = .returned (.string (fmtV ⟨k, n, t⟩)) ∧ Ext w w' := by
  have HE : Hid (fmtV ⟨k, n, t⟩ = if validV ⟨k, n, t⟩ = true then (if k = 0 then ⟨#[78, 85, 76, 76]⟩ else if k = 1 then itoB n else ⟨#[39]⟩ ++ quoB t ++ ⟨#[39]⟩) else ⟨#[]⟩) := rfl
  have HS : Hid (t.size ≤ 9223372036854775807) := by unfold Hid; omega
  have HW := hid hw
  have HC := hid hc
  clear hw hc
  cases hv : validV ⟨k, n, t⟩
  · have HV := hid hv
    go_enter Tryd.func26, Tryd.ntmps26
    go_wp2_with fail
    refine (valid_any k n t _ HS.out).mono ?_
    rintro e w1 ⟨rfl, hx1⟩
    rw [hv]
    go_wp2_with fail
    go_ret
    exact ⟨ret_str (by rw [HE.out, HV.out]; rfl), ((Ext.refl w).alloc _).trans hx1⟩
  · have HV := hid hv
    have hq := quoB_size t
    by_cases h0 : k = 0
    · have b0 : (k == 0) = true := by simp [h0]
      have H0 := hid h0
      clear h0
      go_enter Tryd.func26, Tryd.ntmps26
      go_wp2_with fail
      refine (valid_any k n t _ HS.out).mono ?_
      rintro e w1 ⟨rfl, hx1⟩
      obtain ⟨c0, c1, c2⟩ := box3 hx1
      rw [hv]
      clear hv
      go_wp2_with fail
      go_ret
      exact ⟨ret_str (by rw [HE.out, HV.out, if_pos rfl, if_pos H0.out]), ((Ext.refl w).alloc _).trans hx1⟩
    · have b0 : (k == 0) = false := by simp [h0]
      have H0 : Hid (¬ k = 0) := h0
      clear h0
      by_cases h1 : k = 1
      · have b1 : (k == 1) = true := by simp [h1]
        have H1 := hid h1
        clear h1
        go_enter Tryd.func26, Tryd.ntmps26
        go_wp2_with fail
        refine (valid_any k n t _ HS.out).mono ?_
        rintro e w1 ⟨rfl, hx1⟩
        obtain ⟨c0, c1, c2⟩ := box3 hx1
        rw [hv]
        clear hv
        go_wp2_with fail
        refine (fmtint_any n _ (HC.out.ext (((Ext.refl w).alloc _).trans hx1))).mono ?_
        rintro e w2 ⟨rfl, hx2⟩
        go_wp2_with fail
        go_ret
        exact ⟨ret_str (by rw [HE.out, HV.out, if_pos rfl, if_neg H0.out, if_pos H1.out]), (((Ext.refl w).alloc _).trans hx1).trans hx2⟩
      · have b1 : (k == 1) = false := by simp [h1]
        have H1 : Hid (¬ k = 1) := h1
        clear h1
        go_enter Tryd.func26, Tryd.ntmps26
        go_wp2_with fail
        refine (valid_any k n t _ HS.out).mono ?_
        rintro e w1 ⟨rfl, hx1⟩
        obtain ⟨c0, c1, c2⟩ := box3 hx1
        rw [hv]
        clear hv
        go_wp2_with fail
        refine (repl_any t _ (HW.out.ext (((Ext.refl w).alloc _).trans hx1)) hs).mono ?_
        rintro e w2 ⟨rfl, hx2⟩
        have HQ : Hid (fmtV ⟨k, n, t⟩ = ⟨#[39]⟩ ++ quoB t ++ ⟨#[39]⟩) := by unfold Hid; rw [HE.out, HV.out, if_pos rfl, if_neg H0.out, if_neg H1.out]
        clear HE
        generalize quoB t = Q at *
        go_wp2_with fail
        go_ret
        exact ⟨ret_str HQ.out.symm, (((Ext.refl w).alloc _).trans hx1).trans hx2⟩

end Go.Proofs.YtkldgehnioapcaaDoor
