/-
  Walks over the schedule package: Itoa, line, Format.
-/
import Derived.Test.YtcdinoepjimkmaaDoorW2
import Derived.Test.YtcdinoepjimkmaaDoorBld
import Derived.Test.YtcdinoepjimkmaaDoorShelf
import Derived.Lib.ItoaLen
import Derived.WalkSmall
namespace Go.Proofs.YtcdinoepjimkmaaDoor
open Go.RowKit
set_option maxHeartbeats 1000000
set_option maxRecDepth 100000

theorem ext_grow (w : World) (k : Nat) (os : Array Obj) : Ext w (Go.Sort.grow (w.drewN k) os) :=
  ⟨rfl, rfl, rfl, by simp [Go.Sort.grow], fun i hi => by
    show (w.heap ++ os)[i]? = w.heap[i]?
    rw [Array.getElem?_append_left hi]⟩
/-- the table of the powers of ten is as the library lays it -/
def Tab (w : World) : Prop := Lib.TabIs Tryd.prog w "internal/strconv.uint64pow10" .u64 Lib.pow10Tab ∧ 4 ≤ w.heap.size
theorem gTab : Tryd.prog.globalNamed "internal/strconv.uint64pow10" = some 3 := by kernel_rfl
theorem Tab.ext {w w' : World} (h : Tab w) (hx : Ext w w') : Tab w' :=
  ⟨var?_below hx gTab (by have := h.2; omega) h.1, Nat.le_trans h.2 hx.size⟩
def itoB (n : Int) : ByteArray := ⟨(Lib.itoa n).toArray⟩
theorem itoB_size (n : Int) (h0 : -9223372036854775808 ≤ n) (h1 : n ≤ 9223372036854775807) : (itoB n).size ≤ 21 := by
  have := Lib.itoa_length_le n h0 h1
  show ((Lib.itoa n).toArray).size ≤ 21
  simpa using this
/-- a number that Itoa can be asked for: a small one, or the table is there -/
def Can (w : World) (n : Int) : Prop := (0 ≤ n ∧ n < 100) ∨ (Tab w ∧ -9223372036854775808 ≤ n ∧ n ≤ 9223372036854775807)
theorem Can.ext {w w' : World} {n : Int} (h : Can w n) (hx : Ext w w') : Can w' n := by
  rcases h with h | ⟨h, k⟩
  · exact .inl h
  · exact .inr ⟨h.ext hx, k⟩
theorem Can.bd {w : World} {n : Int} (h : Can w n) : -9223372036854775808 ≤ n ∧ n ≤ 9223372036854775807 := by
  rcases h with ⟨h, k⟩ | ⟨_, k⟩
  · omega
  · exact k
theorem itoa_any (n : Int) (w : World) (h : Can w n) : Calls Tryd.prog 37 #[.int .i64 n] w fun e w' => e = .returned (.string (itoB n)) ∧ Ext w w' := by
  rcases h with ⟨h0, h1⟩ | ⟨ht, h0, h1⟩
  · obtain ⟨i, rfl⟩ : ∃ i : Nat, n = (i : Int) := ⟨n.toNat, by omega⟩
    refine (Tryd.strconv_Itoa_small i (by omega) w).mono ?_
    rintro e w' ⟨rfl, rfl⟩
    refine ⟨ret_str ?_, Ext.refl _⟩
    unfold itoB Lib.itoa
    rw [if_neg (by omega)]
    rfl
  · refine (Tryd.strconv_Itoa n h0 h1 w ht.1).mono ?_
    rintro e w' ⟨rfl, k, os, rfl⟩
    exact ⟨rfl, ext_grow w k os⟩

def lineB (a : Act) : ByteArray :=
  if a.k = 1 then ⟨#[115, 116, 101, 112, 32]⟩ ++ itoB a.s
  else if a.k = 2 then ⟨#[99, 104, 101, 99, 107, 112, 111, 105, 110, 116]⟩
  else if a.k = 4 then ⟨#[114, 101, 99, 111, 118, 101, 114]⟩
  else if a.wr = 0 then ⟨#[99, 114, 97, 115, 104]⟩
  else ⟨#[99, 114, 97, 115, 104, 32]⟩ ++ itoB a.wr ++ ⟨#[32]⟩ ++ itoB a.b
def CanA (w : World) (a : Act) : Prop := Can w a.s ∧ Can w a.wr ∧ Can w a.b
theorem CanA.ext {w w' : World} {a : Act} (h : CanA w a) (hx : Ext w w') : CanA w' a := ⟨h.1.ext hx, h.2.1.ext hx, h.2.2.ext hx⟩

theorem lineB_size (w : World) (a : Act) (h : CanA w a) : (lineB a).size ≤ 60 := by
  have h1 := itoB_size a.s h.1.bd.1 h.1.bd.2
  have h2 := itoB_size a.wr h.2.1.bd.1 h.2.1.bd.2
  have h3 := itoB_size a.b h.2.2.bd.1 h.2.2.bd.2
  unfold lineB
  split
  · rw [ByteArray.size_append]; show 5 + _ ≤ 60; omega
  · split
    · decide
    · split
      · decide
      · split
        · decide
        · rw [ByteArray.size_append, ByteArray.size_append, ByteArray.size_append]; show 6 + _ + 1 + _ ≤ 60; omega

theorem line_any (k s x b : Int) (w : World) (hc : CanA w ⟨k, s, x, b⟩) :
    Calls Tryd.prog 30 #[.agg #[.int .i64 k, .int .i64 s, .int .i64 x, .int .i64 b]] w fun e w' => e = .returned (.string (lineB ⟨k, s, x, b⟩)) ∧ Ext w w' := by
  have hs1 := itoB_size s hc.1.bd.1 hc.1.bd.2
  have hs2 := itoB_size x hc.2.1.bd.1 hc.2.1.bd.2
  have hs3 := itoB_size b hc.2.2.bd.1 hc.2.2.bd.2
  have hA1 : ∀ W, Ext w W → Calls Tryd.prog 37 #[.int .i64 s] W fun e w' => e = .returned (.string (itoB s)) ∧ Ext W w' := fun W hx => itoa_any s W (hc.1.ext hx)
  have hA2 : ∀ W, Ext w W → Calls Tryd.prog 37 #[.int .i64 x] W fun e w' => e = .returned (.string (itoB x)) ∧ Ext W w' := fun W hx => itoa_any x W (hc.2.1.ext hx)
  have hA3 : ∀ W, Ext w W → Calls Tryd.prog 37 #[.int .i64 b] W fun e w' => e = .returned (.string (itoB b)) ∧ Ext W w' := fun W hx => itoa_any b W (hc.2.2.ext hx)
  clear hc
  have E : Hid (lineB ⟨k, s, x, b⟩ = if k = 1 then ⟨#[115, 116, 101, 112, 32]⟩ ++ itoB s else if k = 2 then ⟨#[99, 104, 101, 99, 107, 112, 111, 105, 110, 116]⟩
    else if k = 4 then ⟨#[114, 101, 99, 111, 118, 101, 114]⟩ else if x = 0 then ⟨#[99, 114, 97, 115, 104]⟩ else ⟨#[99, 114, 97, 115, 104, 32]⟩ ++ itoB x ++ ⟨#[32]⟩ ++ itoB b) := rfl
  generalize itoB s = S1 at *
  generalize itoB x = S2 at *
  generalize itoB b = S3 at *
  by_cases h1 : k = 1
  · have e : Hid (lineB ⟨k, s, x, b⟩ = ⟨#[115, 116, 101, 112, 32]⟩ ++ S1) := by unfold Hid; rw [E.out, if_pos h1]
    have b1 : (k == 1) = true := by simpa using h1
    have H1 := hid h1
    clear h1 E
    go_enter Tryd.func30, Tryd.ntmps30
    go_wp2_with fail
    refine (hA1 _ ((Ext.refl w).alloc _)).mono ?_
    rintro e w1 ⟨rfl, hx1⟩
    clear hA1 hA2 hA3
    go_wp2_with fail
    go_ret
    exact ⟨ret_str e.out.symm, ((Ext.refl w).alloc _).trans hx1⟩
  · by_cases h2 : k = 2
    · have e : Hid (lineB ⟨k, s, x, b⟩ = ⟨#[99, 104, 101, 99, 107, 112, 111, 105, 110, 116]⟩) := by unfold Hid; rw [E.out, if_neg h1, if_pos h2]
      have b1 : (k == 1) = false := by simpa using h1
      have b2 : (k == 2) = true := by simpa using h2
      clear h1 h2 E hA1 hA2 hA3
      go_enter Tryd.func30, Tryd.ntmps30
      go_wp2_with fail
      go_ret
      exact ⟨ret_str e.out.symm, (Ext.refl w).alloc _⟩
    · by_cases h4 : k = 4
      · have e : Hid (lineB ⟨k, s, x, b⟩ = ⟨#[114, 101, 99, 111, 118, 101, 114]⟩) := by unfold Hid; rw [E.out, if_neg h1, if_neg h2, if_pos h4]
        have b1 : (k == 1) = false := by simpa using h1
        have b2 : (k == 2) = false := by simpa using h2
        have b4 : (k == 4) = true := by simpa using h4
        clear h1 h2 h4 E hA1 hA2 hA3
        go_enter Tryd.func30, Tryd.ntmps30
        go_wp2_with fail
        go_ret
        exact ⟨ret_str e.out.symm, (Ext.refl w).alloc _⟩
      · have b1 : (k == 1) = false := by simpa using h1
        have b2 : (k == 2) = false := by simpa using h2
        have b4 : (k == 4) = false := by simpa using h4
        by_cases h0 : x = 0
        · have e : Hid (lineB ⟨k, s, x, b⟩ = ⟨#[99, 114, 97, 115, 104]⟩) := by unfold Hid; rw [E.out, if_neg h1, if_neg h2, if_neg h4, if_pos h0]
          have b0 : (x == 0) = true := by simpa using h0
          clear h1 h2 h4 h0 E hA1 hA2 hA3
          go_enter Tryd.func30, Tryd.ntmps30
          go_wp2_with fail
          go_ret
          exact ⟨ret_str e.out.symm, (Ext.refl w).alloc _⟩
        · have e : Hid (lineB ⟨k, s, x, b⟩ = ⟨#[99, 114, 97, 115, 104, 32]⟩ ++ S2 ++ ⟨#[32]⟩ ++ S3) := by unfold Hid; rw [E.out, if_neg h1, if_neg h2, if_neg h4, if_neg h0]
          have b0 : (x == 0) = false := by simpa using h0
          obtain ⟨hn0, hn1, hn2, hn3⟩ := boxL w (.int .i64 k) (.int .i64 s) (.int .i64 x) (.int .i64 b) 29
          clear h1 h2 h4 h0 E hA1
          go_enter Tryd.func30, Tryd.ntmps30
          go_wp2_with fail
          refine wp_region_later (by kernel_rfl) (by kernel_rfl) ?_
          repeat (go_big_quiet_step ((first | (go_at_call_of 37 (Value.int .i64 x); exact later_of (hA2 _ (((Ext.refl w).alloc _).trans (Later.ext _)))) | (go_at_call_of 37 (Value.int .i64 b); exact later_of (hA3 _ (((Ext.refl w).alloc _).trans (Later.ext _)))))))
          refine wpQuiet_nil ?_
          intro w' hw'
          have hx := later_out hw'
          clear hw' hn0 hn1 hn2 hn3 hA2 hA3
          go_wp2_with fail
          go_ret
          exact ⟨ret_str e.out.symm, ((Ext.refl w).alloc _).trans hx⟩

end Go.Proofs.YtcdinoepjimkmaaDoor
