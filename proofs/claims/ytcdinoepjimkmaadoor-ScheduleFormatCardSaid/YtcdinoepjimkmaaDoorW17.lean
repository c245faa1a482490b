/-
  Walks over the schedule package: Parse, over any contract of parseLine.
-/
import Derived.Test.YtcdinoepjimkmaaDoorW14
import Derived.Test.YtcdinoepjimkmaaDoorShelf3
import Derived.Test.YtcdinoepjimkmaaDoorW4
namespace Go.Proofs.YtcdinoepjimkmaaDoor
open Go.RowKit
set_option linter.unusedVariables false
set_option maxHeartbeats 4000000
set_option maxRecDepth 100000

/-- what parseLine returns for a line -/
def LineOf (s : ByteArray) (v : Value) : Prop := ∃ (a : Act) (b : Bool), v = .tuple #[a.val, .bool b] ∧ lineP s.data.toList = if b = true then some a else none
def HasCap (w : World) : Prop := ∃ m : Int, w.cell? ⟨0, 0, none⟩ = some (.int .i64 m)
theorem HasCap.ext {w w' : World} (h : HasCap w) (hx : Ext w w') : HasCap w' := by
  obtain ⟨m, h⟩ := h
  exact ⟨m, hx.keep h⟩
theorem index10 : ∀ l : List UInt8, Lib.cut l [10] = (match cut10 l with | some (a, r) => (a, r, true) | none => (l, [], false)) := by
  intro l
  unfold Lib.cut
  rw [Lib.index_one]
  have hg := Lib.indexByte_ge l 10
  by_cases h : Lib.indexByte l 10 = -1
  · rw [if_neg (by omega)]
    have hn : cut10 l = none := by
      rw [cut10_none]
      intro hm
      have : ∀ l : List UInt8, (10 : UInt8) ∈ l → Lib.indexByte l 10 ≠ -1 := by
        intro l
        induction l with
        | nil => intro h; cases h
        | cons b l ih =>
          intro hm
          have hg := Lib.indexByte_ge l 10
          rw [Lib.indexByte]
          by_cases hb : b = 10
          · subst hb; simp
          · have e : (b == 10) = false := by simpa using hb
            rw [e]
            simp only [Bool.false_eq_true, if_false]
            have h1 := ih (by rcases List.mem_cons.1 hm with h | h; exact absurd h.symm hb; exact h)
            have e2 : (Lib.indexByte l 10 == -1) = false := by simpa using h1
            rw [e2]
            simp only [Bool.false_eq_true, if_false]
            omega
      exact this l hm h
    rw [hn]
  · obtain ⟨i, hi⟩ : ∃ i : Nat, Lib.indexByte l 10 = i := ⟨(Lib.indexByte l 10).toNat, by omega⟩
    obtain ⟨h1, h2⟩ := ib_some 10 l i hi
    rw [if_pos (by omega), hi]
    have hc : cut10 l = some (l.take i, l.drop (i + 1)) := by
      conv => lhs; rw [h2]
      exact cut10_app _ _ h1
    rw [hc]
    simp
def prL2 : Pr → List Act
  | .bad _ => []
  | .ok l => l
def prN : Pr → Nat
  | .bad n => n
  | .ok _ => 0
def prE : Pr → Int
  | .bad _ => 2
  | .ok _ => 0
/-- the schedule or the wrong line, as it is returned -/
def ParRes (x : Pr) (v : Value) (w : World) : Prop := ∃ A c, v = .tuple #[.slice A (prL2 x).length c, .int .i64 (prN x), .int .i64 (prE x)] ∧ ActsAt w A (prL2 x)
def sizeV : Value → Nat
  | .string t => t.size
  | _ => 0
theorem parse_any (s : ByteArray) (w : World) (hs : s.size ≤ 20000) (hsh : HasCap w)
    (HPL : Hid (∀ (t : ByteArray) (W : World), t.size ≤ 20000 → Ext w W → Calls Tryd.prog 33 #[.string t] W fun e w' => ∃ v, e = .returned v ∧ LineOf t v ∧ Ext W w')) :
    Calls Tryd.prog 20 #[.string s] w fun e w' => ∃ v, e = .returned v ∧ ParRes (prL s.data.toList 1) v w' ∧ Ext w w' := by
  obtain ⟨i0, hi, hz0, hz1, hz2⟩ := info_parts info29
  go_enter Tryd.func20, Tryd.ntmps20
  go_wp2_with fail
  go_loopw [0, 5, 6] (fun sv v nv wr => ∃ (t : ByteArray) (k : Nat) (out : List Act), sv = .string t ∧ nv = .int .i64 ((k + 1 : Nat) : Int) ∧ k + t.size ≤ s.size ∧ wr.ownsRow w.heap.size 29 4 v out.length (actc out) ∧ out.length = k ∧ Ext w wr ∧ prL s.data.toList 1 = (prL t.data.toList (k + 1)).pre out) (fun sv _ _ _ => sizeV sv)
  case atStart => exact ⟨s, 0, [], rfl, rfl, by omega, World.ownsRow_nil _ _ _ _, rfl, Ext.refl w, by cases prL s.data.toList 1 <;> rfl⟩
  case round =>
    obtain ⟨t, k, out, rfl, rfl, hks, hown, hol, hxr, hv⟩ := hrel
    have HV := hid hv
    clear hv
    have hz : t.data.toList.length = t.size := rfl
    by_cases ht : 0 < t.size
    · have be : (t.toList == []) = false := by
        rw [seq_list]
        apply decide_eq_false
        intro h
        rw [h] at hz
        simp at hz
        omega
      have be2 : t.toList.isEmpty = false := by
        rw [ByteArray.toList_eq]
        cases hl : t.data.toList with
        | nil => rw [hl] at hz; simp at hz; omega
        | cons c r => rfl
      obtain ⟨c, r, hcr⟩ : ∃ c r, t.data.toList = c :: r := by
        cases hl : t.data.toList with
        | nil => rw [hl] at hz; simp at hz; omega
        | cons c r => exact ⟨c, r, rfl⟩
      have HC : Hid (∀ W, Ext w W → Calls Tryd.prog 32 #[.string t, .string ⟨#[10]⟩] W fun e w' => e = .returned (match cut10 t.data.toList with | some (a, r) => .tuple #[.string ⟨a.toArray⟩, .string ⟨r.toArray⟩, .bool true] | none => .tuple #[.string t, .string ⟨#[]⟩, .bool false]) ∧ Ext W w') := by
        intro W hW
        obtain ⟨m, hm⟩ := hsh.ext hW
        refine (Tryd.strings_Cut t ⟨#[10]⟩ m W (by omega) hm).mono ?_
        rintro e w' ⟨rfl, n, rfl⟩
        refine ⟨?_, (Ext.refl W).drewN n⟩
        have h10 : (⟨#[10]⟩ : ByteArray).data.toList = [10] := rfl
        rw [h10, index10]
        cases hc : cut10 t.data.toList with
        | none =>
          show Ending.returned (.tuple #[.string ⟨t.data.toList.toArray⟩, .string ⟨([] : List UInt8).toArray⟩, .bool false]) = _
          have : (⟨t.data.toList.toArray⟩ : ByteArray) = t := b_ext rfl
          rw [this]
        | some q => rfl
      cases hc : cut10 t.data.toList with
      | none =>
        have HR : Hid (prL s.data.toList 1 = .bad (k + 1)) := by
          unfold Hid
          rw [HV.out, hcr, pr_cut c r (k + 1) (by rw [← hcr]; exact hc)]
          rfl
        rw [hc] at HC
        have HL := hid (fun W (h : Ext w W) => HPL.out t W (by omega) h)
        clear hc hcr
        go_wp2_with (first
          | (go_at_call 32; refine (HC.out _ hxr).mono ?_; rintro e w2 ⟨rfl, hx2⟩)
          | (go_at_call 33; refine (HL.out _ (hxr.trans hx2)).mono ?_; rintro e w3 ⟨v, rfl, ⟨a, b, rfl, hlp⟩, hx3⟩; unfold Act.val))
        go_ret3
        exact ⟨_, rfl, by rw [HR.out]; exact ⟨none, 0, rfl, fun i a h => by simp [prL2] at h⟩, ((hxr.trans hx2).trans hx3).alloc _⟩
      | some q =>
        obtain ⟨f, q⟩ := q
        have hlen := congrArg List.length (cut10_len _ _ _ hc)
        rw [hz, List.length_append, List.length_cons] at hlen
        have hfz : (⟨f.toArray⟩ : ByteArray).size = f.length := rfl
        have hqz : (⟨q.toArray⟩ : ByteArray).size = q.length := rfl
        have HL := hid (fun W (h : Ext w W) => HPL.out ⟨f.toArray⟩ W (by omega) h)
        have HS1 : Hid (lineP f = none → prL s.data.toList 1 = .bad (k + 1)) := by
          intro h
          rw [HV.out, hcr, pr_line c r f q (k + 1) (by rw [← hcr]; exact hc) h]
          rfl
        have HS2 : Hid (∀ a, lineP f = some a → prL s.data.toList 1 = (prL q (k + 1 + 1)).pre (out ++ [a])) := by
          intro a h
          rw [HV.out, hcr, pr_step c r f q (k + 1) a (by rw [← hcr]; exact hc) h, pr_pre]
        have HFL : Hid (∀ v, LineOf ⟨f.toArray⟩ v → ∃ (a : Act) (b : Bool), v = .tuple #[a.val, .bool b] ∧ lineP f = if b = true then some a else none) := fun v h => h
        have HQL : Hid ((⟨q.toArray⟩ : ByteArray).data.toList = q) := rfl
        rw [hc] at HC
        simp only at HC
        have hqs : (⟨q.toArray⟩ : ByteArray).size < t.size := by omega
        have hqk : k + 1 + (⟨q.toArray⟩ : ByteArray).size ≤ s.size := by omega
        clear hc hcr hlen hfz hqz
        generalize (⟨f.toArray⟩ : ByteArray) = F at *
        generalize (⟨q.toArray⟩ : ByteArray) = G at *
        go_wp2_with (first
          | (go_at_call 32; refine (HC.out _ hxr).mono ?_; rintro e w2 ⟨rfl, hx2⟩)
          | (go_at_call 33; refine (HL.out _ (hxr.trans hx2)).mono ?_; rintro e w3 ⟨v, rfl, hlo, hx3⟩; obtain ⟨a, b, rfl, hlp⟩ := HFL.out v hlo; unfold Act.val; have HO := hid (ownN_ext hown ((hx2.trans hx3).alloc (.cells #[.int .i64 a.k, .int .i64 a.s, .int .i64 a.wr, .int .i64 a.b] 29) |>.alloc (.cells #[.int .i64 a.k, .int .i64 a.s, .int .i64 a.wr, .int .i64 a.b] 29))); have hbe : w.heap.size ≤ w3.heap.size := (hxr.trans (hx2.trans hx3)).size; cases b)
          | (at_builtin; refine wpList_append_own _ rfl _ _ 24 rfl w.heap.size 29 i0 (.agg #[.int .i64 0, .int .i64 0, .int .i64 0, .int .i64 0]) 4 32 Tryd.underlying24 hi hz0 hz1 hz2 rfl (by decide) _ _ _ rfl HO.out ⟨_, 0, none⟩ 1 1 (Act.cells a) rfl rfl (news_at _ _ _ _ (by simp)) (by intro u hu; simp [Act.cells] at hu; rcases hu with rfl | rfl | rfl | rfl <;> rfl) (by unfold maxLen; omega) (by omega) (by simp; omega) ?_; intro v' w4 hown' hgrow _))
        · have HR := HS1.out (by rw [hlp]; rfl)
          go_ret3
          exact ⟨_, rfl, by rw [HR]; exact ⟨none, 0, rfl, fun i a h => by simp [prL2] at h⟩, ((hxr.trans hx2).trans hx3).alloc _⟩
        · have HR := HS2.out a (by rw [hlp]; rfl)
          go_roundw
          case rel =>
            refine ⟨G, k + 1, out ++ [a], rfl, by go_num, hqk, by rw [actc_snoc, List.length_append]; exact hown', by rw [List.length_append, hol]; rfl, Ext.grown ((hxr.trans (hx2.trans hx3)).alloc _ |>.alloc _) hgrow (fun g hg => own_ge hown hg), ?_⟩
            rw [HQL.out]
            exact HR
          case measure => simp [sizeV]; omega
    · have hl : t.data.toList = [] := List.eq_nil_of_length_eq_zero (by rw [hz]; omega)
      have be2 : t.toList.isEmpty = true := by rw [ByteArray.toList_eq, hl]; rfl
      have be : (t.toList == []) = true := by rw [seq_list]; exact decide_eq_true hl
      have HR : Hid (prL s.data.toList 1 = .ok out) := by unfold Hid; rw [HV.out, hl, pr_nil]; simp [Pr.pre]
      obtain ⟨A, c, rfl, hat, hlen⟩ := own_acts hown
      clear hl
      go_wp2_with fail
      go_ret3
      exact ⟨_, rfl, by rw [HR.out]; exact ⟨A, c, by rw [show (prL2 (Pr.ok out)).length = _ from hol]; rfl, hat⟩, hxr⟩
end Go.Proofs.YtcdinoepjimkmaaDoor
