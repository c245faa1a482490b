/-
  Walks over history: Few. · Sizes of small histories, and of what was parsed; no program in sight.
-/
import Derived.Test.YtdjdhkbomhendaaGreatDoorGl
import Derived.Test.YtdjdhkbomhendaaGreatDoorHAwkz
import Derived.Test.YtdjdhkbomhendaaGreatDoorGe
namespace Go.Proofs.YtdjdhkbomhendaaGreatDoor
open Go.RowKit
set_option linter.unusedVariables false
set_option linter.unusedSimpArgs false
set_option maxHeartbeats 4000000
set_option maxRecDepth 100000

def fewE (e : Ev) : Bool := decide (e.rows.length ≤ 20) && decide (e.wts.length ≤ 20) && e.rows.all shortR && e.wts.all (fun x => shortR x.row)
def fewH (l : List Ev) : Bool := l.all fewE && decide (l.length ≤ 40)
theorem Few_any (A : Option Addr) (l : List Ev) (n c : Nat) (w : World) (hl : EvsAt w A l) (hn : l.length = n) (hm : n ≤ 9223372036854775807) (hf : ∀ e ∈ l, Ev.fit e) :
    Calls Tryz.prog 12 #[.slice A n c] w fun r w' => r = .returned (.bool (fewH l)) ∧ Ext w w' := by
  have HL := hid hl
  have HN := hid hn
  have HF := hid hf
  clear hl hn hf
  go_enter Tryz.func12, Tryz.ntmps12
  go_wp2_with fail
  go_loopw [3] (fun iv wr => ∃ k : Nat, k ≤ n ∧ iv = .int .i64 k ∧ (l.take k).all fewE = true ∧ Ext w wr) (fun i _ => n - (intOf i).toNat)
  case atStart => exact ⟨0, Nat.zero_le _, rfl, rfl, Ext.refl w⟩
  case round =>
    obtain ⟨k, hk, rfl, hok, hxr⟩ := hrel
    have HOK := hid hok
    have HXr := hid hxr
    clear hok
    by_cases hlt : k < n
    · obtain ⟨e, he⟩ := rat_lt HN.out hlt
      obtain ⟨bq, off, vr, vw, rfl, q0, q1, q2, q3, q4, q5, q6, q7, q8, q9⟩ := (HL.out.ext hxr) k e he
      have hfit := HF.out e (List.mem_of_getElem? he)
      obtain ⟨A1, c1, rfl, hrs⟩ := q8
      obtain ⟨B1, d1, rfl, hws⟩ := q9
      have HRs := hid hrs
      have HWs := hid hws
      have HFit := hid hfit
      have HNo : Hid (fewE e = false → fewH l = false) := fun h => by
        unfold fewH
        rw [all_no he h]
        rfl
      have HYes : Hid (fewE e = true → (l.take (k + 1)).all fewE = true) := fun h => all_step he HOK.out h
      have HEd : Hid (fewE e = (decide (e.rows.length ≤ 20) && decide (e.wts.length ≤ 20) && e.rows.all shortR && e.wts.all (fun x => shortR x.row))) := rfl
      clear he hxr hrs hws hfit q0 q1 q2 q3 q4 q5
      have hk0 : (0 : Int) ≤ (k : Int) := by omega
      by_cases h1 : 20 < e.rows.length
      · have hN : Hid (fewH l = false) := HNo.out (by rw [HEd.out, show decide (e.rows.length ≤ 20) = false from decide_eq_false (by omega)]; simp)
        have b1 : (20 : Int) < (e.rows.length : Int) := by omega
        clear h1
        go_wp2_with fail
        go_ret
        exact ⟨ret_bool hN.out.symm, HXr.out⟩
      by_cases h2 : 20 < e.wts.length
      · have hN : Hid (fewH l = false) := HNo.out (by rw [HEd.out, show decide (e.wts.length ≤ 20) = false from decide_eq_false (by omega)]; simp)
        have b1 : ¬ (20 : Int) < (e.rows.length : Int) := by omega
        have b2 : (20 : Int) < (e.wts.length : Int) := by omega
        clear h1 h2
        go_wp2_with fail
        go_ret
        exact ⟨ret_bool hN.out.symm, HXr.out⟩
      have b1 : ¬ (20 : Int) < (e.rows.length : Int) := by omega
      have b2 : ¬ (20 : Int) < (e.wts.length : Int) := by omega
      have HE1 : Hid (decide (e.rows.length ≤ 20) = true) := decide_eq_true (by omega)
      have HE2 : Hid (decide (e.wts.length ≤ 20) = true) := decide_eq_true (by omega)
      clear h1 h2
      obtain ⟨rows, hrows⟩ : ∃ rows, e.rows = rows := ⟨_, rfl⟩
      obtain ⟨wts, hwts⟩ : ∃ wts, e.wts = wts := ⟨_, rfl⟩
      have HFr : Hid (∀ r ∈ rows, r.length ≤ 9223372036854775807) := by rw [← hrows]; exact HFit.out.2.2.1
      have HFw : Hid (∀ r ∈ wts, r.row.length ≤ 9223372036854775807) := by rw [← hwts]; exact HFit.out.2.2.2
      rw [hrows] at HRs HEd HE1 b1 q6
      rw [hwts] at HWs HEd HE2 b2 q7
      clear hrows hwts HFit
      obtain ⟨nr, hnr⟩ : ∃ nr, rows.length = nr := ⟨_, rfl⟩
      obtain ⟨nw, hnw⟩ : ∃ nw, wts.length = nw := ⟨_, rfl⟩
      have HNR := hid hnr
      have HNW := hid hnw
      rw [hnr] at q6 b1
      rw [hnw] at q7 b2
      clear hnr hnw
      have Q6 := hid q6
      have Q7 := hid q7
      generalize wr = W3 at *
      go_wp2_with fail
      go_loopw [4] (fun jv wr => ∃ j : Nat, j ≤ nr ∧ jv = .int .i64 j ∧ (rows.take j).all shortR = true ∧ Ext W3 wr) (fun i _ => nr - (intOf i).toNat)
      case atStart => exact ⟨0, Nat.zero_le _, rfl, rfl, Ext.refl _⟩
      case round =>
        obtain ⟨j, hj, rfl, hsh, hxj⟩ := hrel
        have HSh := hid hsh
        have HXj := hid hxj
        clear hsh
        replace q6 := hxj.keep Q6.out
        replace q7 := hxj.keep Q7.out
        by_cases hjt : j < nr
        · obtain ⟨r, hr⟩ := rat_lt HNR.out hjt
          obtain ⟨b2q, off2, v, rfl, u0, u1⟩ := (HRs.out.ext hxj) j r hr
          obtain ⟨A2, c2, rfl, hvv⟩ := u1
          have HC := hid (fun W (hW : Ext wr W) => short_any A2 r r.length c2 W (hvv.ext hW) rfl (HFr.out r (List.mem_of_getElem? hr)))
          have HSN : Hid (shortR r = false → rows.all shortR = false) := fun h => all_no hr h
          have HSY : Hid (shortR r = true → (rows.take (j + 1)).all shortR = true) := fun h => all_step hr HSh.out h
          clear hr hvv hxj
          generalize r.length = lr at *
          cases hs : shortR r
          · rw [hs] at HC HSN
            have hN : Hid (fewH l = false) := HNo.out (by rw [HEd.out, HSN.out rfl]; simp)
            clear HSN HSY hs
            go_wp2_with (go_at_call 26; (with_reducible refine (HC.out _ (Ext.refl _)).mono ?_); rintro _ w5 ⟨rfl, hx5⟩)
            go_ret
            exact ⟨ret_bool hN.out.symm, HXr.out.trans (HXj.out.trans hx5)⟩
          · rw [hs] at HC HSY
            have hY := hid (HSY.out rfl)
            clear HSN HSY hs
            go_wp2_with (go_at_call 26; (with_reducible refine (HC.out _ (Ext.refl _)).mono ?_); rintro _ w5 ⟨rfl, hx5⟩)
            go_roundw
            case rel => exact ⟨j + 1, by omega, by go_num, hY.out, HXj.out.trans hx5⟩
            case measure => simp [intOf]; omega
        · obtain rfl : j = nr := by omega
          have HALL : Hid (rows.all shortR = true) := all_end HNR.out HSh.out
          have HX4 := hid (HXr.out.trans hxj)
          clear hxj HSh
          go_wp2_with fail
          generalize wr = W4 at *
          have P7 := hid q7
          go_loopw [5] (fun jv wr => ∃ j : Nat, j ≤ nw ∧ jv = .int .i64 j ∧ (wts.take j).all (fun x => shortR x.row) = true ∧ Ext W4 wr) (fun i _ => nw - (intOf i).toNat)
          case atStart => exact ⟨0, Nat.zero_le _, rfl, rfl, Ext.refl _⟩
          case round =>
            obtain ⟨j2, hj2, rfl, hsh, hxj⟩ := hrel
            have HSh := hid hsh
            have HXj2 := hid hxj
            clear hsh
            replace q7 := hxj.keep P7.out
            by_cases hjt : j2 < nw
            · obtain ⟨x, hx⟩ := rat_lt HNW.out hjt
              obtain ⟨b2q, off2, v, rfl, u0, u1, u2, u3⟩ := (HWs.out.ext (HXj.out.trans hxj)) j2 x hx
              obtain ⟨A2, c2, rfl, hvv⟩ := u3
              have HC := hid (fun W (hW : Ext wr W) => short_any A2 x.row x.row.length c2 W (hvv.ext hW) rfl (HFw.out x (List.mem_of_getElem? hx)))
              have HSN : Hid (shortR x.row = false → wts.all (fun x => shortR x.row) = false) := fun h => all_no hx h
              have HSY : Hid (shortR x.row = true → (wts.take (j2 + 1)).all (fun x => shortR x.row) = true) := fun h => all_step hx HSh.out h
              clear hx hvv hxj
              generalize x.row.length = lr at *
              cases hs : shortR x.row
              · rw [hs] at HC HSN
                have hN : Hid (fewH l = false) := HNo.out (by rw [HEd.out, HSN.out rfl]; simp)
                clear HSN HSY hs
                go_wp2_with (go_at_call 26; (with_reducible refine (HC.out _ (Ext.refl _)).mono ?_); rintro _ w5 ⟨rfl, hx5⟩)
                go_ret
                exact ⟨ret_bool hN.out.symm, HX4.out.trans (HXj2.out.trans hx5)⟩
              · rw [hs] at HC HSY
                have hY := hid (HSY.out rfl)
                clear HSN HSY hs
                go_wp2_with (go_at_call 26; (with_reducible refine (HC.out _ (Ext.refl _)).mono ?_); rintro _ w5 ⟨rfl, hx5⟩)
                go_roundw
                case rel => exact ⟨j2 + 1, by omega, by go_num, hY.out, HXj2.out.trans hx5⟩
                case measure => simp [intOf]; omega
            · obtain rfl : j2 = nw := by omega
              have hY := hid (HYes.out (by rw [HEd.out, HE1.out, HE2.out, HALL.out, all_end HNW.out HSh.out]; rfl))
              have HX5 := hid (HX4.out.trans hxj)
              clear hxj HSh
              go_wp2_with fail
              go_roundw
              case rel => exact ⟨k + 1, by omega, by go_num, hY.out, HX5.out⟩
              case measure => simp [intOf]; omega
    · obtain rfl : k = n := by omega
      have HR : Hid (fewH l = decide ((k : Int) ≤ 40)) := by
        unfold Hid fewH
        rw [all_end HN.out HOK.out, HN.out, Bool.true_and]
        exact decide_eq_decide.2 (by omega)
      clear hxr
      go_wp2_with fail
      go_ret
      exact ⟨ret_bool HR.out.symm, HXr.out⟩
end Go.Proofs.YtdjdhkbomhendaaGreatDoor
namespace Go.Proofs.YtdjdhkbomhendaaGreatDoor
open Go.RowKit
set_option linter.unusedVariables false
set_option linter.unusedSimpArgs false
set_option maxHeartbeats 400000

/-- the numbers of an event are 64 bits wide -/
def Ev.bnd (e : Ev) : Prop := (i64 e.kd ∧ i64 e.ss ∧ i64 e.tx ∧ i64 e.st ∧ i64 e.er ∧ i64 e.ct) ∧ (∀ r ∈ e.rows, rowBd r) ∧ ∀ x ∈ e.wts, i64 x.tx ∧ i64 x.tb ∧ rowBd x.row
theorem short_sm {r : List Val} (h : shortR r = true) (hb : rowBd r) : smR r ∧ r.length ≤ 12 := by
  unfold shortR at h
  simp only [Bool.and_eq_true, decide_eq_true_eq, List.all_eq_true] at h
  obtain ⟨h1, h2⟩ := h
  have h3 : ∀ a ∈ r, a.t.size ≤ 4000000 := fun a ha => by
    first
      | (have := h1 a ha; omega)
      | (have := h2 a ha; omega)
  exact ⟨⟨by omega, hb, h3⟩, by omega⟩
theorem few_parts {l : List Ev} (h : fewH l = true) : l.length ≤ 40 ∧ ∀ e ∈ l, e.rows.length ≤ 20 ∧ e.wts.length ≤ 20 ∧ (∀ r ∈ e.rows, shortR r = true) ∧ ∀ x ∈ e.wts, shortR x.row = true := by
  unfold fewH at h
  simp only [Bool.and_eq_true, decide_eq_true_eq, List.all_eq_true] at h
  refine ⟨h.2, fun e he => ?_⟩
  have h2 := h.1 e he
  unfold fewE at h2
  simp only [Bool.and_eq_true, decide_eq_true_eq, List.all_eq_true] at h2
  exact ⟨h2.1.1.1, h2.1.1.2, h2.1.2, h2.2⟩
theorem few_sm {l : List Ev} (h : fewH l = true) (hb : ∀ e ∈ l, e.bnd) : ∀ e ∈ l, e.sm := fun e he => by
  obtain ⟨h1, h2, h3, h4⟩ := (few_parts h).2 e he
  obtain ⟨b1, b2, b3⟩ := hb e he
  exact ⟨b1, by omega, by omega, fun r hr => (short_sm (h3 r hr) (b2 r hr)).1, fun x hx => ⟨(b3 x hx).1, (b3 x hx).2.1, (short_sm (h4 x hx) (b3 x hx).2.2).1⟩⟩
theorem few_fmt {r : List Val} (h : shortR r = true) (hb : rowBd r) : (fmtRow r).size ≤ 506 := by
  have := fmtRow_sz hb
  have := (short_sm h hb).2
  omega
theorem few_text {l : List Ev} (h : fewH l = true) (hb : ∀ e ∈ l, e.bnd) : (textH l).size ≤ 999980 := by
  have hl : ∀ e ∈ l, e.lines.size ≤ 24000 := fun e he => by
    obtain ⟨h1, h2, h3, h4⟩ := (few_parts h).2 e he
    obtain ⟨b1, b2, b3⟩ := hb e he
    have k1 := head_sz (few_sm h hb e he)
    have k2 := fold_sz Wt.line 560 e.wts (e.head ++ nlB) fun x hx => by
      have m1 := few_fmt (h4 x hx) (b3 x hx).2.2
      have m2 := itoB_sz (b3 x hx).1
      have m3 := itoB_sz (b3 x hx).2.1
      unfold Wt.line
      rw [sz1, sz1, sz1, sz1, sz1, sz1]
      show 4 + _ + 1 + _ + 1 + _ + 1 ≤ _
      omega
    have k3 := fold_sz rowLn 560 e.rows (e.wts.foldl (fun a x => a ++ x.line) (e.head ++ nlB)) fun r hr => by
      have m1 := few_fmt (h3 r hr) (b2 r hr)
      unfold rowLn
      rw [sz1, sz1]
      show 4 + _ + 1 ≤ _
      omega
    unfold Ev.lines
    rw [sz1] at k2
    have : nlB.size = 1 := rfl
    omega
  have h1 := fold_sz Ev.lines 24000 l ⟨#[]⟩ hl
  have h2 := (few_parts h).1
  have e0 : (⟨#[]⟩ : ByteArray).size = 0 := rfl
  unfold textH
  omega
theorem bnd_bd {e : Ev} (h : e.bnd) : e.bd := by
  obtain ⟨⟨a, b, c, d, f, g⟩, h1, h2⟩ := h
  exact ⟨⟨b.2, c.2, d.2, f.2, g.2⟩, fun x hx => ⟨(h2 x hx).1.2, (h2 x hx).2.2⟩, h1⟩
theorem fold_ge {α : Type} (f : α → ByteArray) : ∀ (l : List α) (b : ByteArray), (∀ x ∈ l, 1 ≤ (f x).size) → b.size + l.length ≤ (l.foldl (fun a x => a ++ f x) b).size
  | [], b, _ => by simp
  | x :: l, b, h => by
    have h1 := fold_ge f l (b ++ f x) fun y hy => h y (List.mem_cons_of_mem _ hy)
    have h2 := h x (List.mem_cons_self ..)
    rw [List.foldl_cons, List.length_cons]
    rw [sz1] at h1
    omega
theorem fold_mem {α : Type} (f : α → ByteArray) : ∀ (l : List α) (b : ByteArray) (x : α), x ∈ l → (f x).size ≤ (l.foldl (fun a x => a ++ f x) b).size
  | [], b, x, h => by cases h
  | y :: l, b, x, h => by
    rw [List.foldl_cons]
    rcases List.mem_cons.1 h with rfl | h
    · have h1 : ∀ (l : List α) (b : ByteArray), b.size ≤ (l.foldl (fun a x => a ++ f x) b).size := fun l => by
        induction l with
        | nil => intro b; exact Nat.le_refl _
        | cons z l ih => intro b; rw [List.foldl_cons]; exact Nat.le_trans (by rw [sz1]; omega) (ih _)
      exact Nat.le_trans (by rw [sz1]; omega) (h1 l _)
    · exact fold_mem f l _ x h
theorem fold_base {α : Type} (f : α → ByteArray) : ∀ (l : List α) (b : ByteArray), b.size ≤ (l.foldl (fun a x => a ++ f x) b).size
  | [], b => Nat.le_refl _
  | y :: l, b => by rw [List.foldl_cons]; exact Nat.le_trans (by rw [sz1]; omega) (fold_base f l _)
theorem line_ge (x : Wt) : 1 ≤ x.line.size ∧ (fmtRow x.row).size ≤ x.line.size := by
  unfold Wt.line
  rw [sz1, sz1, sz1, sz1, sz1, sz1]
  have : nlB.size = 1 := rfl
  omega
theorem rowLn_ge (r : List Val) : 1 ≤ (rowLn r).size ∧ (fmtRow r).size ≤ (rowLn r).size := by
  unfold rowLn
  rw [sz1, sz1]
  have : nlB.size = 1 := rfl
  omega
theorem lines_ge (e : Ev) : 1 ≤ e.lines.size ∧ e.wts.length ≤ e.lines.size ∧ e.rows.length ≤ e.lines.size ∧ (∀ x ∈ e.wts, (fmtRow x.row).size ≤ e.lines.size) ∧ ∀ r ∈ e.rows, (fmtRow r).size ≤ e.lines.size := by
  have k1 := fold_ge Wt.line e.wts (e.head ++ nlB) fun x hx => (line_ge x).1
  have k2 := fold_ge rowLn e.rows (e.wts.foldl (fun a x => a ++ x.line) (e.head ++ nlB)) fun x hx => (rowLn_ge x).1
  have k3 := fold_base rowLn e.rows (e.wts.foldl (fun a x => a ++ x.line) (e.head ++ nlB))
  rw [sz1] at k1
  have : nlB.size = 1 := rfl
  refine ⟨?_, ?_, ?_, fun x hx => ?_, fun r hr => ?_⟩
  · unfold Ev.lines; omega
  · unfold Ev.lines; omega
  · unfold Ev.lines; omega
  · have := fold_mem Wt.line e.wts (e.head ++ nlB) x hx
    have := (line_ge x).2
    unfold Ev.lines
    omega
  · have := fold_mem rowLn e.rows (e.wts.foldl (fun a x => a ++ x.line) (e.head ++ nlB)) r hr
    have := (rowLn_ge r).2
    unfold Ev.lines
    omega
theorem join_ge (sep : List UInt8) (hs : 1 ≤ sep.length) : ∀ l : List (List UInt8), l.length ≤ (Lib.join l sep).length + 1
  | [] => by simp
  | x :: l => by
    rw [Lib.join_cons, List.length_append, Lib.joinTail_length, List.length_cons]
    have : l.length ≤ sep.length * l.length := Nat.le_mul_of_pos_left _ hs
    omega
theorem fmtRow_ge {r : List Val} (h : rowV r = true) : r.length ≤ (fmtRow r).size := by
  unfold fmtRow
  rw [if_pos (show r.all validV = true from h), sz1, sz1]
  have h1 := join_ge [44, 32] (by decide) ((fmtS r).map (·.data.toList))
  rw [List.length_map] at h1
  have h2 : (fmtS r).length = r.length := by unfold fmtS; rw [List.length_map]
  have e1 : (⟨#[40]⟩ : ByteArray).size = 1 := rfl
  have e2 : (⟨#[41]⟩ : ByteArray).size = 1 := rfl
  show _ ≤ 1 + ((Lib.join ((fmtS r).map (·.data.toList)) [44, 32]).toArray).size + 1
  rw [List.size_toArray]
  omega
/-- what was parsed is small -/
theorem back_sm {l : List Ev} {n : Nat} (hn : n ≤ 4000) (h1 : okH l = true) (h2 : ∀ e ∈ l, e.bd) (h3 : (textH l).size ≤ n) : l.length ≤ n ∧ (∀ e ∈ l, e.sm) ∧ ∀ e ∈ l, e.bnd := by
  have hl : l.length ≤ n := by
    have := fold_ge Ev.lines l ⟨#[]⟩ fun x hx => (lines_ge x).1
    have e0 : (⟨#[]⟩ : ByteArray).size = 0 := rfl
    unfold textH at h3
    omega
  have hb : ∀ e ∈ l, e.bnd ∧ e.sm := fun e he => by
    have hz := fold_mem Ev.lines l ⟨#[]⟩ e he
    have hok : e.ok = true := by
      unfold okH at h1
      exact List.all_eq_true.1 h1 e he
    obtain ⟨c1, c2, c3⟩ := h2 e he
    obtain ⟨g1, g2, g3, g4, g5⟩ := lines_ge e
    have hle : e.lines.size ≤ n := Nat.le_trans hz h3
    obtain ⟨o1, o2, o3⟩ : (0 ≤ e.kd ∧ e.kd ≤ 13 ∧ 0 ≤ e.ss ∧ 0 ≤ e.tx ∧ 0 ≤ e.st ∧ 0 ≤ e.er ∧ 0 ≤ e.ct) ∧ (∀ r ∈ e.rows, rowV r = true) ∧ ∀ x ∈ e.wts, x.ok = true := by
      obtain ⟨⟨k1, k2, k3, k4⟩, _, _, k5, k6⟩ := ev_ok.1 hok
      change 1 ≤ e.kd at k1
      change e.kd ≤ 13 at k2
      change 11 ≤ e.kd → e.ss = 0 ∧ e.tx = 0 ∧ e.st = 0 ∧ e.er = 0 ∧ e.ct = 0 at k3
      change e.kd < 11 → 0 ≤ e.ss ∧ e.ss < 8 ∧ 1 ≤ e.tx ∧ 0 ≤ e.st ∧ (e.kd = 7 ∨ e.kd = 10 → 1 ≤ e.er ∧ e.er ≤ 17) ∧ (e.kd ≠ 7 → e.kd ≠ 10 → e.er = 0) ∧ 0 ≤ e.ct ∧ (e.kd ≠ 5 → e.ct = 0) at k4
      refine ⟨?_, fun r hr => List.all_eq_true.1 k6 r hr, fun x hx => List.all_eq_true.1 k5 x hx⟩
      by_cases h11 : 11 ≤ e.kd
      · obtain ⟨a1, a2, a3, a4, a5⟩ := k3 h11
        omega
      · obtain ⟨a1, a2, a3, a4, a5, a6, a7, a8⟩ := k4 (by omega)
        by_cases h7 : e.kd = 7 ∨ e.kd = 10
        · have := a5 h7
          omega
        · have := a6 (fun h => h7 (.inl h)) (fun h => h7 (.inr h))
          omega
    have vz : ∀ r : List Val, rowV r = true → ∀ a ∈ r, a.t.size ≤ 4000000 := fun r hr a ha => by
      have := validV_size (List.all_eq_true.1 hr a ha)
      omega
    obtain ⟨d1, d2, d3, d4, d5⟩ := c1
    have hw : ∀ x ∈ e.wts, i64 x.tx ∧ i64 x.tb ∧ rowV x.row = true := fun x hx => by
      obtain ⟨t1, t2, t3, t4, t5⟩ := ok_wt.1 (o3 x hx)
      have := (c2 x hx).1
      exact ⟨⟨by omega, by omega⟩, ⟨by omega, by omega⟩, t5⟩
    have hi : i64 e.kd ∧ i64 e.ss ∧ i64 e.tx ∧ i64 e.st ∧ i64 e.er ∧ i64 e.ct := by
      refine ⟨⟨?_, ?_⟩, ⟨?_, ?_⟩, ⟨?_, ?_⟩, ⟨?_, ?_⟩, ⟨?_, ?_⟩, ⟨?_, ?_⟩⟩ <;> omega
    exact ⟨⟨hi, c3, fun x hx => ⟨(hw x hx).1, (hw x hx).2.1, (c2 x hx).2⟩⟩, hi, by omega, by omega,
      fun r hr => ⟨by have := fmtRow_ge (o2 r hr); have := g5 r hr; omega, c3 r hr, vz r (o2 r hr)⟩,
      fun x hx => ⟨(hw x hx).1, (hw x hx).2.1, by have := fmtRow_ge (hw x hx).2.2; have := g4 x hx; omega, (c2 x hx).2, vz x.row (hw x hx).2.2⟩⟩
  exact ⟨hl, fun e he => (hb e he).2, fun e he => (hb e he).1⟩
theorem smE_fit {e : Ev} (h : e.sm) : e.fit :=
  ⟨by have := h.2.1; omega, by have := h.2.2.1; omega, fun r hr => by have := (h.2.2.2.1 r hr).1; omega, fun x hx => by have := (h.2.2.2.2 x hx).2.2.1; omega⟩
theorem okH_app (a b : List Ev) : okH (a ++ b) = (okH a && okH b) := by unfold okH; rw [List.all_append]
theorem textH_app2 (a b : List Ev) : textH (a ++ b) = textH a ++ textH b := by
  apply t_inj
  unfold textH
  rw [ByteArray.data_append, Array.toList_append, fold_app, fold_app, fold_app, List.flatMap_append]
  simp
end Go.Proofs.YtdjdhkbomhendaaGreatDoor
