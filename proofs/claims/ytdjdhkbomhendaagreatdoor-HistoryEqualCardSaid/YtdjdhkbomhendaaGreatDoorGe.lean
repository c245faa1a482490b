/-
  The value that the reference reads out of a literal. · A formatted history is parsed back; no program in sight. · What was parsed is formatted back; no program in sight. · Equality of histories, outcomes; the reference's step; no program in sight. · Histories in memory, read.
-/
import Derived.Test.YtdjdhkbomhendaaGreatDoorGc
import Derived.Test.YtdjdhkbomhendaaGreatDoorGd
import Derived.Test.YtdjdhkbomhendaaGreatDoorGb
namespace Go.Proofs.YtdjdhkbomhendaaGreatDoor
set_option linter.unusedVariables false
set_option linter.unusedSimpArgs false
set_option maxHeartbeats 400000

def rvf (acc : Int) (b : UInt8) : Int := if b.toNat = 45 then acc else 10 * acc + (b.toNat : Int) - 48
def rv (l : List UInt8) : Int := l.foldl rvf 0
theorem rv_app (l : List UInt8) (b : UInt8) : rv (l ++ [b]) = rvf (rv l) b := by simp [rv]
theorem rv_dec (u : Nat) : rv (Lib.decDigits u) = u := by
  induction u using Nat.strongRecOn with
  | _ u ih =>
    have hb : ∀ d, d < 10 → (UInt8.ofNat (48 + d)).toNat = 48 + d := fun d hd => by simp [UInt8.toNat_ofNat']; omega
    by_cases h9 : u < 10
    · rw [dec_small h9]
      show rvf 0 _ = _
      unfold rvf
      rw [hb u h9, if_neg (by omega)]
      omega
    · rw [dec_big h9, rv_app, ih (u / 10) (by omega)]
      unfold rvf
      rw [hb _ (Nat.mod_lt _ (by omega)), if_neg (by omega)]
      omega
theorem rv_itoa (n : Int) : rv (Lib.itoa n) = n.natAbs := by
  unfold Lib.itoa
  split
  · have : rv (45 :: Lib.decDigits n.natAbs) = rv (Lib.decDigits n.natAbs) := by
      show List.foldl rvf (rvf 0 45) _ = _
      rfl
    rw [this, rv_dec]
  · rw [rv_dec]
    omega
theorem prs_cand (c : Val) (s : ByteArray) (h0 : -9223372036854775808 ≤ c.n) (h1 : c.n ≤ 9223372036854775807) (hc : ∀ v, validV v = true → -9223372036854775808 ≤ v.n → v.n ≤ 9223372036854775807 → fmtV v = s → c = v)
    (hv : s = ⟨#[]⟩ → validV c = true) : prs s = if fmtV c = s then (c, 0) else (⟨0, 0, ⟨#[]⟩⟩, 2) := by
  by_cases hf : fmtV c = s
  · rw [if_pos hf]
    cases hvc : validV c
    · have e := fmtV_no hvc
      rw [hf] at e
      rw [hv e] at hvc
      cases hvc
    · rw [← hf]
      exact prs_of c hvc h0 h1
  · rw [if_neg hf]
    unfold prs
    refine if_neg fun hp => ?_
    cases hvp : validV (pc s)
    · have e := fmtV_no hvp
      rw [hp] at e
      subst e
      exact pc_empty hp
    · have := hc (pc s) hvp (pc_bd s).1 (pc_bd s).2 hp
      rw [← this] at hp
      exact hf hp
theorem itoa_head (n : Int) : ∃ c r, Lib.itoa n = c :: r ∧ (if n < 0 then c = 45 else 48 ≤ c.toNat) ∧ c ≠ 39 := by
  unfold Lib.itoa
  by_cases hn : n < 0
  · rw [if_pos hn]
    exact ⟨45, _, rfl, by rw [if_pos hn], by decide⟩
  · rw [if_neg hn]
    obtain ⟨c, r, e, h1, h2⟩ := dec_head n.toNat
    refine ⟨c, r, e, by rw [if_neg hn]; exact h1, fun e => ?_⟩
    subst e
    revert h1
    decide
theorem text_of {v : Val} (h : validV v = true) (hk : v.k = 2) : v.n = 0 ∧ (fmtV v).data.toList = 39 :: (quo v.t.data.toList ++ [39]) := by
  refine ⟨?_, ?_⟩
  · unfold validV at h
    rw [if_neg (by omega), if_neg (by omega), if_pos hk] at h
    simp only [Bool.and_eq_true, decide_eq_true_eq] at h
    exact h.1.1
  · rw [fmtV_of h, if_neg (by omega), if_neg (by omega), ByteArray.data_append, Array.toList_append, ByteArray.data_append, Array.toList_append]
    simp [quoB]
theorem int_of {v : Val} (h : validV v = true) (hk : v.k = 1) : v.t = ⟨#[]⟩ ∧ (fmtV v).data.toList = Lib.itoa v.n := by
  refine ⟨?_, ?_⟩
  · unfold validV at h
    rw [if_neg (by omega), if_pos hk] at h
    exact empty_of h
  · rw [fmtV_of h, if_neg (by omega), if_pos hk]
    rfl
theorem null_of {v : Val} (h : validV v = true) (hk : v.k = 0) : v = ⟨0, 0, ⟨#[]⟩⟩ ∧ fmtV v = ⟨#[78, 85, 76, 76]⟩ := by
  refine ⟨?_, ?_⟩
  · unfold validV at h
    rw [if_pos hk] at h
    simp only [Bool.and_eq_true, decide_eq_true_eq] at h
    obtain ⟨k, n, t⟩ := v
    dsimp only at hk h
    rw [hk, h.1, empty_of h.2]
  · rw [fmtV_of h, if_pos hk]
theorem rd_null (s : ByteArray) (hs : s = ⟨#[78, 85, 76, 76]⟩) : prs s = if fmtV ⟨0, 0, ⟨#[]⟩⟩ = s then (⟨0, 0, ⟨#[]⟩⟩, 0) else (⟨0, 0, ⟨#[]⟩⟩, 2) := by
  refine prs_cand ⟨0, 0, ⟨#[]⟩⟩ s (by decide) (by decide) (fun v hv h0 h1 hf => ?_) (fun _ => by decide)
  have := cand v s hv h0 h1 hf
  subst hs
  rw [pc_no no_null, if_neg (by decide)] at this
  exact this
theorem rd_text (s X : ByteArray) (hs : s.data.toList.head? = some 39) (hX : ∀ t : List UInt8, s.data.toList = 39 :: (quo t ++ [39]) → X.data.toList = t) : prs s = if fmtV ⟨2, 0, X⟩ = s then (⟨2, 0, X⟩, 0) else (⟨0, 0, ⟨#[]⟩⟩, 2) := by
  refine prs_cand ⟨2, 0, X⟩ s (by show (_ : Int) ≤ 0; omega) (by show (0 : Int) ≤ _; omega) (fun v hv h0 h1 hf => ?_) (fun e => by rw [e] at hs; cases hs)
  subst hf
  rcases validV_k hv with h | h | h
  · rw [(null_of hv h).2] at hs
    exact absurd hs (by decide)
  · obtain ⟨c, r, e, _, h2⟩ := itoa_head v.n
    rw [(int_of hv h).2, e] at hs
    simp only [List.head?_cons, Option.some.injEq] at hs
    exact absurd hs h2
  · obtain ⟨hn, ht⟩ := text_of hv h
    have := t_inj (hX _ ht)
    obtain ⟨k, n, t⟩ := v
    dsimp only at h hn this
    rw [h, hn, this]
theorem rd_int (s : ByteArray) (n : Int) (h0 : -9223372036854775808 ≤ n) (h1 : n ≤ 9223372036854775807) (hs : ¬ s = ⟨#[78, 85, 76, 76]⟩) (hq : ¬ s.data.toList.head? = some 39)
    (hn : ∀ m : Int, -9223372036854775808 ≤ m → m ≤ 9223372036854775807 → s.data.toList = Lib.itoa m → n = m) : prs s = if fmtV ⟨1, n, ⟨#[]⟩⟩ = s then (⟨1, n, ⟨#[]⟩⟩, 0) else (⟨0, 0, ⟨#[]⟩⟩, 2) := by
  refine prs_cand ⟨1, n, ⟨#[]⟩⟩ s h0 h1 (fun v hv k0 k1 hf => ?_) (fun _ => by rfl)
  subst hf
  rcases validV_k hv with h | h | h
  · exact absurd (null_of hv h).2 hs
  · obtain ⟨ht, e⟩ := int_of hv h
    have := hn v.n k0 k1 e
    obtain ⟨k, n', t⟩ := v
    dsimp only at h ht this
    rw [h, ht, this]
  · exact absurd (by rw [(text_of hv h).2]; rfl) hq

theorem quo_lt (t : List UInt8) (j : Nat) (h : j < t.length) : (quo (t.take j)).length < (quo t).length := by
  have e : quo t = quo (t.take j) ++ quo (t.drop j) := by rw [← quo_app, List.take_append_drop]
  rw [e, List.length_append]
  have : 0 < (quo (t.drop j)).length := by
    rw [List.drop_eq_getElem_cons h, quo]
    split <;> simp
  omega

end Go.Proofs.YtdjdhkbomhendaaGreatDoor
namespace Go.Proofs.YtdjdhkbomhendaaGreatDoor
open Go.RowKit
set_option linter.unusedVariables false
set_option linter.unusedSimpArgs false
set_option maxHeartbeats 400000

def bare0 (e : Ev) : Ev := { e with rows := [], wts := [] }
theorem ev_ok {e : Ev} : e.ok = true ↔ okE (bare0 e) ∧ (e.kd = 2 ↔ e.wts ≠ []) ∧ (e.rows ≠ [] → e.kd = 4) ∧ e.wts.all Wt.ok = true ∧ e.rows.all rowV = true := by
  obtain ⟨kd, ss, tx, st, er, ct, rows, wts⟩ := e
  rw [← chk_ok (e := bare0 ⟨kd, ss, tx, st, er, ct, rows, wts⟩) rfl rfl]
  unfold chk bare0
  dsimp only
  have hW : wts ≠ [] ↔ 0 < wts.length := List.length_pos_iff.symm
  have hR : rows ≠ [] ↔ 0 < rows.length := List.length_pos_iff.symm
  rw [hW, hR]
  by_cases h3 : kd < 1 ∨ 13 < kd
  · have : kd ≠ 2 := by omega
    rw [if_neg this]
    unfold Ev.ok
    dsimp only
    rw [if_pos h3, if_pos h3]
    simp
  · by_cases h4 : 11 ≤ kd
    · have : kd ≠ 2 := by omega
      have h5 : kd ≠ 4 := by omega
      rw [if_neg this]
      unfold Ev.ok Ev.bare
      dsimp only
      rw [if_neg h3, if_neg h3, if_pos h4, if_pos h4]
      simp [this, h5]
      constructor
      · rintro ⟨⟨a, b⟩, c⟩
        subst b c
        simp [a]
      · rintro ⟨a, b, c, _⟩
        exact ⟨⟨a, c⟩, b⟩
    · by_cases h2 : kd = 2
      · subst h2
        rw [if_pos rfl]
        simp [Ev.ok, chk_wait]
        simp only [and_assoc]
      · rw [if_neg h2]
        unfold Ev.ok
        dsimp only
        rw [if_neg h3, if_neg h3, if_neg h4, if_neg h4]
        have h2' : (kd == 2) = false := by simp [h2]
        simp [h2', h2]
        simp only [and_assoc]
        by_cases hk : kd = 4 <;> by_cases hr : rows = [] <;> simp [hk, hr]
/-- the bounds of an event -/
def Ev.bd (e : Ev) : Prop := e.hi ∧ (∀ x ∈ e.wts, Wt.hi x) ∧ ∀ r ∈ e.rows, rowBd r
def evLines (e : Ev) : List (List UInt8) := e.head.data.toList :: (e.wts.map (fun x => x.txt.data.toList) ++ e.rows.map fun r => (rowTxt r).data.toList)
def nlJ (l : List (List UInt8)) : List UInt8 := l.flatMap (· ++ [10])
theorem fold_app {α : Type} (f : α → ByteArray) : ∀ (l : List α) (a : ByteArray), (l.foldl (fun a x => a ++ f x) a).data.toList = a.data.toList ++ l.flatMap fun x => (f x).data.toList
  | [], a => by simp
  | x :: l, a => by rw [List.foldl_cons, fold_app f l, ByteArray.data_append, Array.toList_append, List.flatMap_cons, List.append_assoc]
theorem lines_list (e : Ev) : e.lines.data.toList = nlJ (evLines e) := by
  unfold Ev.lines nlJ evLines
  rw [fold_app rowLn, fold_app Wt.line]
  simp only [List.flatMap_cons, List.flatMap_append, List.flatMap_map, ByteArray.data_append, Array.toList_append, List.append_assoc, line_txt, line_row]
  rfl
theorem text_list (l : List Ev) : (textH l).data.toList = nlJ (l.flatMap evLines) := by
  unfold textH
  rw [fold_app Ev.lines]
  unfold nlJ
  rw [List.flatMap_assoc]
  show [] ++ _ = _
  rw [List.nil_append]
  congr 1
  funext e
  exact lines_list e
theorem nums_nl (n : Int) : (10 : UInt8) ∉ (itoB n).data.toList := fun h => (num_stop (n := n) h).2.2.2.2 rfl
theorem kw_nl {k : Int} (h0 : 1 ≤ k) (h1 : k ≤ 13) : (10 : UInt8) ∉ (kwB k).data.toList := by
  have : k = 1 ∨ k = 2 ∨ k = 3 ∨ k = 4 ∨ k = 5 ∨ k = 6 ∨ k = 7 ∨ k = 8 ∨ k = 9 ∨ k = 10 ∨ k = 11 ∨ k = 12 ∨ k = 13 := by omega
  rcases this with rfl | rfl | rfl | rfl | rfl | rfl | rfl | rfl | rfl | rfl | rfl | rfl | rfl <;> decide
theorem join_nl (s : List UInt8) (hs : (10 : UInt8) ∉ s) (l : List (List UInt8)) (h : ∀ w ∈ l, (10 : UInt8) ∉ w) : (10 : UInt8) ∉ Lib.join l s := by
  cases l with
  | nil => rw [Lib.join_nil]; simp
  | cons a r =>
    rw [Lib.join_cons]
    intro hc
    rcases List.mem_append.1 hc with hc | hc
    · exact h a (by simp) hc
    · unfold Lib.joinTail at hc
      rw [List.mem_flatten] at hc
      obtain ⟨w, hw, hc⟩ := hc
      rw [List.mem_map] at hw
      obtain ⟨v, hv, rfl⟩ := hw
      rcases List.mem_append.1 hc with hc | hc
      · exact hs hc
      · exact h v (by simp [hv]) hc
theorem head_nl {e : Ev} (h0 : 1 ≤ e.kd) (h1 : e.kd ≤ 13) : (10 : UInt8) ∉ e.head.data.toList := by
  rw [head_join]
  refine join_nl _ (by decide) _ fun w hw => ?_
  rcases List.mem_cons.1 hw with rfl | hw
  · exact kw_nl h0 h1
  · rw [List.mem_map] at hw
    obtain ⟨n, _, rfl⟩ := hw
    exact nums_nl n
theorem quo_nl : ∀ t : List UInt8, (10 : UInt8) ∉ t → (10 : UInt8) ∉ quo t
  | [], _ => by rw [quo]; simp
  | c :: t, h => by
    have ih := quo_nl t fun hc => h (by simp [hc])
    have hc : c ≠ 10 := fun e => h (by simp [e])
    rw [quo]
    split <;> simp [ih, hc.symm]
theorem fmtV_nl {v : Val} (h : validV v = true) : (10 : UInt8) ∉ (fmtV v).data.toList := by
  rcases validV_k h with hk | hk | hk
  · rw [(null_of h hk).2]; decide
  · rw [(int_of h hk).2]
    exact nums_nl v.n
  · rw [(text_of h hk).2]
    have ht : (10 : UInt8) ∉ v.t.data.toList := by
      unfold validV at h
      rw [if_neg (by omega), if_neg (by omega), if_pos hk] at h
      simp only [Bool.and_eq_true, decide_eq_true_eq] at h
      intro hc
      obtain ⟨i, hi, hc⟩ := List.getElem_of_mem hc
      have hi' : i < v.t.size := by simpa using hi
      have hp := prn_no v.t i hi' (.inl (by
        have : v.t[i] = 10 := hc
        rw [this]; decide))
      rw [h.1.2] at hp
      cases hp
    have := quo_nl _ ht
    simp [this]
theorem row_nl {r : List Val} (h : rowV r = true) : (10 : UInt8) ∉ (fmtRow r).data.toList := by
  rw [row_list h]
  have := join_nl [44, 32] (by decide) (r.map fun v => (fmtV v).data.toList) fun w hw => by
    rw [List.mem_map] at hw
    obtain ⟨v, hv, rfl⟩ := hw
    exact fmtV_nl (List.all_eq_true.1 h v hv)
  simp [this]
theorem txt_nl {x : Wt} (h : x.ok = true) : (10 : UInt8) ∉ x.txt.data.toList := by
  rw [txt_list]
  have := row_nl (ok_wt.1 h).2.2.2.2
  simp only [List.mem_append, List.mem_cons, not_or]
  exact ⟨by decide, by decide, nums_nl _, by decide, nums_nl _, by decide, this⟩
theorem rowTxt_nl {r : List Val} (h : rowV r = true) : (10 : UInt8) ∉ (rowTxt r).data.toList := by
  rw [rowTxt_list]
  have := row_nl h
  simp [rowW, this]
theorem evLines_nl {e : Ev} (h : e.ok = true) : ∀ l ∈ evLines e, (10 : UInt8) ∉ l := by
  obtain ⟨h1, h2, h3, h4, h5⟩ := ev_ok.1 h
  intro l hl
  unfold evLines at hl
  rcases List.mem_cons.1 hl with rfl | hl
  · exact head_nl h1.1 h1.2.1
  · rcases List.mem_append.1 hl with hl | hl
    · rw [List.mem_map] at hl
      obtain ⟨x, hx, rfl⟩ := hl
      exact txt_nl (List.all_eq_true.1 h4 x hx)
    · rw [List.mem_map] at hl
      obtain ⟨x, hx, rfl⟩ := hl
      exact rowTxt_nl (List.all_eq_true.1 h5 x hx)
theorem stepH_last (out : List Ev) (e : Ev) (l : List UInt8) : stepH (out ++ [e]) l =
    if e.kd = 2 ∧ (rsnP l).isSome = true then some (out ++ [{ e with wts := e.wts ++ (rsnP l).toList }])
    else if e.kd = 4 ∧ (rowL l).isSome = true then some (out ++ [{ e with rows := e.rows ++ (rowL l).toList }])
    else if opn e = true then none else hdrS (out ++ [e]) l := by
  unfold stepH
  rw [List.getLast?_concat, List.dropLast_concat]
theorem stepH_head {out : List Ev} {e : Ev} (h : okE (bare0 e)) (hb : e.hi) (ho : opnL out = false) : stepH out e.head.data.toList = some (out ++ [bare0 e]) := by
  have hh : hdrP e.head.data.toList = some (bare0 e) := hdrP_head (e := bare0 e) h rfl rfl hb
  obtain ⟨n1, n2⟩ := rsn_no hh
  have hs : hdrS out e.head.data.toList = some (out ++ [bare0 e]) := by unfold hdrS; rw [hh]
  unfold opnL at ho
  unfold stepH
  split
  · exact hs
  · rename_i x hx
    rw [hx] at ho
    rw [n1, n2, if_neg (by simp), if_neg (by simp), if_neg (by rw [show opn x = false from ho]; decide), hs]
theorem fold_wts (out : List Ev) : ∀ (b : List Wt) (e : Ev), e.kd = 2 → (∀ x ∈ b, Wt.ok x = true ∧ x.hi) → (b.map fun x => x.txt.data.toList).foldlM stepH (out ++ [e]) = some (out ++ [{ e with wts := e.wts ++ b }])
  | [], e, hk, h => by rw [List.append_nil]; rfl
  | x :: b, e, hk, h => by
    have h1 := h x (by simp)
    have hr := rsnP_txt h1.1 h1.2
    rw [List.map_cons, List.foldlM_cons, stepH_last, hr, if_pos ⟨hk, rfl⟩]
    have := fold_wts out b { e with wts := e.wts ++ [x] } hk fun y hy => h y (by simp [hy])
    show (b.map fun x => x.txt.data.toList).foldlM stepH (out ++ [{ e with wts := e.wts ++ [x] }]) = _
    rw [this]
    simp
theorem fold_rows (out : List Ev) : ∀ (b : List (List Val)) (e : Ev), e.kd = 4 → (∀ x ∈ b, rowV x = true ∧ rowBd x) → (b.map fun x => (rowTxt x).data.toList).foldlM stepH (out ++ [e]) = some (out ++ [{ e with rows := e.rows ++ b }])
  | [], e, hk, h => by rw [List.append_nil]; rfl
  | x :: b, e, hk, h => by
    have h1 := h x (by simp)
    have hr := rowL_txt h1.1 h1.2
    rw [List.map_cons, List.foldlM_cons, stepH_last, hr, if_neg (by rw [hk]; simp), if_pos ⟨hk, rfl⟩]
    have := fold_rows out b { e with rows := e.rows ++ [x] } hk fun y hy => h y (by simp [hy])
    show (b.map fun x => (rowTxt x).data.toList).foldlM stepH (out ++ [{ e with rows := e.rows ++ [x] }]) = _
    rw [this]
    simp
theorem fold_ev {out : List Ev} {e : Ev} (h : e.ok = true) (hb : e.bd) (ho : opnL out = false) : (evLines e).foldlM stepH out = some (out ++ [e]) := by
  obtain ⟨h1, h2, h3, h4, h5⟩ := ev_ok.1 h
  unfold evLines
  rw [List.foldlM_cons, stepH_head h1 hb.1 ho]
  show List.foldlM stepH (out ++ [bare0 e]) _ = _
  by_cases k2 : e.kd = 2
  · have hr : e.rows = [] := Decidable.byContradiction fun hr => by have := h3 hr; omega
    rw [hr, List.map_nil, List.append_nil, fold_wts out e.wts (bare0 e) k2 fun x hx => ⟨List.all_eq_true.1 h4 x hx, hb.2.1 x hx⟩]
    obtain ⟨kd, ss, tx, st, er, ct, rows, wts⟩ := e
    dsimp only at hr
    subst hr
    rfl
  · have hw : e.wts = [] := Decidable.byContradiction fun hw => k2 (h2.2 hw)
    rw [hw, List.map_nil, List.nil_append]
    by_cases k4 : e.kd = 4
    · rw [fold_rows out e.rows (bare0 e) k4 fun x hx => ⟨List.all_eq_true.1 h5 x hx, hb.2.2 x hx⟩]
      obtain ⟨kd, ss, tx, st, er, ct, rows, wts⟩ := e
      dsimp only at hw
      subst hw
      rfl
    · have hr : e.rows = [] := Decidable.byContradiction fun hr => k4 (h3 hr)
      rw [hr, List.map_nil]
      obtain ⟨kd, ss, tx, st, er, ct, rows, wts⟩ := e
      dsimp only at hw hr
      subst hw hr
      rfl
theorem opn_ok {out : List Ev} {e : Ev} (h : e.ok = true) : opnL (out ++ [e]) = false := by
  obtain ⟨h1, h2, h3, h4, h5⟩ := ev_ok.1 h
  unfold opnL
  rw [List.getLast?_concat]
  show opn e = false
  unfold opn
  by_cases k2 : e.kd = 2
  · have := List.length_pos_iff.2 (h2.1 k2)
    simp
    intro _
    exact h2.1 k2
  · simp [k2]
theorem fold_all : ∀ (l out : List Ev), okH l = true → (∀ e ∈ l, e.bd) → opnL out = false → (l.flatMap evLines).foldlM stepH out = some (out ++ l) ∧ opnL (out ++ l) = false
  | [], out, h, hb, ho => by rw [List.append_nil]; exact ⟨rfl, ho⟩
  | e :: l, out, h, hb, ho => by
    have h1 : e.ok = true := List.all_eq_true.1 h e (by simp)
    have h2 : okH l = true := List.all_eq_true.2 fun x hx => List.all_eq_true.1 h x (by simp [hx])
    have ih := fold_all l (out ++ [e]) h2 (fun x hx => hb x (by simp [hx])) (opn_ok h1)
    rw [List.append_assoc] at ih
    rw [List.flatMap_cons, List.foldlM_append, fold_ev h1 (hb e (by simp)) ho]
    exact ih
theorem prsG_lines : ∀ (ls : List (List UInt8)) (f n : Nat) (out o : List Ev), (∀ l ∈ ls, (10 : UInt8) ∉ l) → ls.length < f → ls.foldlM stepH out = some o → opnL o = false → prsG f (nlJ ls) n out = (o, 0, 0)
  | [], f, n, out, o, h, hf, hs, ho => by
    obtain ⟨f, rfl⟩ : ∃ g, f = g + 1 := ⟨f - 1, by simp at hf; omega⟩
    obtain rfl : out = o := Option.some.inj hs
    rw [prsG, if_pos (show nlJ [] = [] from rfl), if_neg (by rw [ho]; decide)]
  | l :: ls, f, n, out, o, h, hf, hs, ho => by
    obtain ⟨f, rfl⟩ : ∃ g, f = g + 1 := ⟨f - 1, by simp at hf; omega⟩
    have e : nlJ (l :: ls) = l ++ 10 :: nlJ ls := by unfold nlJ; rw [List.flatMap_cons, List.append_assoc]; rfl
    rw [List.foldlM_cons] at hs
    cases hc : stepH out l with
    | none => rw [hc] at hs; cases hs
    | some o1 =>
      rw [hc] at hs
      rw [prsG, if_neg (by rw [e]; simp), e, cutW_app 10 _ l (h l (by simp)), if_neg (by simp)]
      dsimp only
      rw [hc]
      exact prsG_lines ls f (n + 1) o1 o (fun x hx => h x (by simp [hx])) (by simp at hf; omega) hs ho
theorem nlJ_len : ∀ ls : List (List UInt8), ls.length ≤ (nlJ ls).length
  | [] => Nat.zero_le _
  | l :: ls => by
    have := nlJ_len ls
    unfold nlJ at this ⊢
    rw [List.flatMap_cons, List.length_append, List.length_append, List.length_singleton, List.length_cons]
    omega
/-- what is formatted is parsed back -/
theorem prsH_text {l : List Ev} (h : okH l = true) (hb : ∀ e ∈ l, e.bd) : prsH (textH l) = (l, 0, 0) := by
  obtain ⟨h1, h2⟩ := fold_all l [] h hb rfl
  rw [List.nil_append] at h1 h2
  unfold prsH
  rw [text_list]
  refine prsG_lines _ _ _ _ _ (fun x hx => ?_) ?_ h1 h2
  · rw [List.mem_flatMap] at hx
    obtain ⟨e, he, hx⟩ := hx
    exact evLines_nl (List.all_eq_true.1 h e he) x hx
  · have := nlJ_len (l.flatMap evLines)
    omega
/-- different valid histories have different texts -/
theorem textH_inj {a b : List Ev} (ha : okH a = true) (hb : okH b = true) (ba : ∀ e ∈ a, e.bd) (bb : ∀ e ∈ b, e.bd) (h : textH a = textH b) : a = b := by
  have h1 := prsH_text ha ba
  rw [h, prsH_text hb bb] at h1
  exact (congrArg Prod.fst h1).symm
end Go.Proofs.YtdjdhkbomhendaaGreatDoor
namespace Go.Proofs.YtdjdhkbomhendaaGreatDoor
open Go.RowKit
set_option linter.unusedVariables false
set_option linter.unusedSimpArgs false
set_option maxHeartbeats 400000

/-- an event under way -/
def okW (e : Ev) : Prop := okE (bare0 e) ∧ (e.wts ≠ [] → e.kd = 2) ∧ (e.rows ≠ [] → e.kd = 4) ∧ e.wts.all Wt.ok = true ∧ e.rows.all rowV = true
theorem okW_ok {e : Ev} (h : okW e) (ho : opn e = false) : e.ok = true := by
  obtain ⟨h1, h2, h3, h4, h5⟩ := h
  refine ev_ok.2 ⟨h1, ⟨fun hk hw => ?_, h2⟩, h3, h4, h5⟩
  unfold opn at ho
  rw [hk, hw] at ho
  cases ho
def InvP (out : List Ev) : Prop := (∀ e ∈ out, okW e ∧ e.bd) ∧ ∀ e ∈ out.dropLast, opn e = false
theorem inv_concat {a : List Ev} {e : Ev} : InvP (a ++ [e]) ↔ (∀ x ∈ a, (okW x ∧ x.bd) ∧ opn x = false) ∧ okW e ∧ e.bd := by
  unfold InvP
  rw [List.dropLast_concat]
  constructor
  · rintro ⟨h1, h2⟩
    exact ⟨fun x hx => ⟨h1 x (by simp [hx]), h2 x hx⟩, h1 e (by simp)⟩
  · rintro ⟨h1, h2⟩
    refine ⟨fun x hx => ?_, fun x hx => (h1 x hx).2⟩
    rcases List.mem_append.1 hx with hx | hx
    · exact (h1 x hx).1
    · rw [List.mem_singleton] at hx
      subst hx
      exact h2
theorem textH_app (a b : List Ev) : (textH (a ++ b)).data.toList = (textH a).data.toList ++ (textH b).data.toList := by
  rw [text_list, text_list, text_list]
  unfold nlJ
  rw [List.flatMap_append, List.flatMap_append]
theorem textH_one (e : Ev) : (textH [e]).data.toList = nlJ (evLines e) := by
  rw [text_list]
  simp
theorem nlJ_app (a b : List (List UInt8)) : nlJ (a ++ b) = nlJ a ++ nlJ b := by
  unfold nlJ
  rw [List.flatMap_append]
theorem hdrS_inv {out o : List Ev} {l : List UInt8} (h : hdrS out l = some o) (hi : InvP out) (ho : opnL out = false) : InvP o ∧ (textH o).data.toList = (textH out).data.toList ++ (l ++ [10]) := by
  unfold hdrS at h
  split at h
  · rename_i e he
    obtain rfl := Option.some.inj h
    obtain ⟨h1, h2, h3, h4, h5⟩ := hdrP_some he
    refine ⟨inv_concat.2 ⟨fun x hx => ⟨hi.1 x hx, ?_⟩, ⟨h1, fun h => absurd h3 h, fun h => absurd h2 h, by rw [h3]; rfl, by rw [h2]; rfl⟩, h4, (fun x hx => by rw [h3] at hx; cases hx), (fun x hx => by rw [h2] at hx; cases hx)⟩, ?_⟩
    · rcases List.eq_nil_or_concat out with rfl | ⟨a, y, rfl⟩
      · cases hx
      · rw [List.concat_eq_append] at *
        rcases List.mem_append.1 hx with hx | hx
        · exact ((inv_concat.1 hi).1 x hx).2
        · rw [List.mem_singleton] at hx
          subst hx
          unfold opnL at ho
          rw [List.getLast?_concat] at ho
          exact ho
    · rw [textH_app, textH_one]
      unfold evLines nlJ
      rw [h3, h2, h5]
      simp
  · cases h
theorem stepH_inv {out o : List Ev} {l : List UInt8} (h : stepH out l = some o) (hi : InvP out) : InvP o ∧ (textH o).data.toList = (textH out).data.toList ++ (l ++ [10]) := by
  rcases List.eq_nil_or_concat out with rfl | ⟨a, e, rfl⟩
  · exact hdrS_inv h hi rfl
  · rw [List.concat_eq_append] at *
    obtain ⟨i1, i2, i3⟩ := inv_concat.1 hi
    rw [stepH_last] at h
    split at h
    · rename_i hc
      obtain rfl := Option.some.inj h
      cases hr : rsnP l with
      | none => rw [hr] at hc; cases hc.2
      | some x =>
        obtain ⟨r1, r2, r3⟩ := rsnP_some hr
        obtain ⟨w1, w2, w3, w4, w5⟩ := i2
        have hrow : e.rows = [] := Decidable.byContradiction fun hr => by have := w3 hr; omega
        refine ⟨inv_concat.2 ⟨i1, ⟨w1, fun _ => hc.1, w3, ?_, w5⟩, i3.1, fun y hy => ?_, i3.2.2⟩, ?_⟩
        · show (e.wts ++ [x]).all Wt.ok = true
          rw [List.all_append, w4]
          simp [r1]
        · rcases List.mem_append.1 hy with hy | hy
          · exact i3.2.1 y hy
          · have : y = x := by simpa using hy
            subst this
            exact r2
        · rw [textH_app, textH_app, textH_one, textH_one]
          unfold evLines
          rw [hrow]
          show _ ++ nlJ (e.head.data.toList :: ((e.wts ++ [x]).map (fun x => x.txt.data.toList) ++ [])) = _
          rw [List.append_nil, List.map_nil, List.append_nil, List.map_append, ← List.cons_append, nlJ_app]
          simp [nlJ, r3]
    · split at h
      · rename_i hc
        obtain rfl := Option.some.inj h
        cases hr : rowL l with
        | none => rw [hr] at hc; cases hc.2
        | some x =>
          obtain ⟨r1, r2, r3⟩ := rowL_some hr
          obtain ⟨w1, w2, w3, w4, w5⟩ := i2
          refine ⟨inv_concat.2 ⟨i1, ⟨w1, w2, fun _ => hc.1, w4, ?_⟩, i3.1, i3.2.1, fun y hy => ?_⟩, ?_⟩
          · show (e.rows ++ [x]).all rowV = true
            rw [List.all_append, w5]
            simp [r1]
          · rcases List.mem_append.1 hy with hy | hy
            · exact i3.2.2 y hy
            · have : y = x := by simpa using hy
              subst this
              exact r2
          · rw [textH_app, textH_app, textH_one, textH_one]
            unfold evLines
            show _ ++ nlJ (e.head.data.toList :: (e.wts.map (fun x => x.txt.data.toList) ++ (e.rows ++ [x]).map fun r => (rowTxt r).data.toList)) = _
            rw [List.map_append, ← List.append_assoc, ← List.cons_append, nlJ_app]
            simp [nlJ, r3]
      · split at h
        · cases h
        · rename_i ho
          refine hdrS_inv h hi ?_
          unfold opnL
          rw [List.getLast?_concat]
          simpa using ho
/-- what was parsed is formatted back -/
theorem prsG_back : ∀ (f : Nat) (s : List UInt8) (n : Nat) (out : List Ev), s.length < f → InvP out →
    (∃ l, prsG f s n out = (l, 0, 0) ∧ okH l = true ∧ (∀ e ∈ l, e.bd) ∧ (textH l).data.toList = (textH out).data.toList ++ s) ∨ ∃ k : Int, prsG f s n out = ([], k, 2) ∧ 1 ≤ k
  | 0, s, n, out, hf, hi => by omega
  | f + 1, s, n, out, hf, hi => by
    rw [prsG]
    by_cases hs : s = []
    · rw [if_pos hs]
      by_cases ho : opnL out = true
      · rw [if_pos ho]
        exact .inr ⟨_, rfl, by omega⟩
      · rw [if_neg ho]
        refine .inl ⟨out, rfl, ?_, fun e he => (hi.1 e he).2, by rw [hs, List.append_nil]⟩
        rcases List.eq_nil_or_concat out with rfl | ⟨a, e, rfl⟩
        · rfl
        · rw [List.concat_eq_append] at *
          obtain ⟨i1, i2, i3⟩ := inv_concat.1 hi
          refine List.all_eq_true.2 fun x hx => ?_
          rcases List.mem_append.1 hx with hx | hx
          · exact okW_ok (i1 x hx).1.1 (i1 x hx).2
          · rw [List.mem_singleton] at hx
            subst hx
            refine okW_ok i2 ?_
            unfold opnL at ho
            rw [List.getLast?_concat] at ho
            simpa using ho
    · rw [if_neg hs]
      rcases cutW_cases 10 s with ⟨h1, h2⟩ | ⟨w, r, h1, h2, h3⟩
      · rw [h2, if_pos rfl]
        exact .inr ⟨_, rfl, by omega⟩
      · rw [h3, if_neg (by simp)]
        dsimp only
        cases hc : stepH out w with
        | none => exact .inr ⟨_, rfl, by omega⟩
        | some o =>
          obtain ⟨j1, j2⟩ := stepH_inv hc hi
          have hlen : r.length < f := by
            rw [h2, List.length_append, List.length_cons] at hf
            omega
          rcases prsG_back f r (n + 1) o hlen j1 with ⟨l, k1, k2, k3, k4⟩ | h
          · refine .inl ⟨l, k1, k2, k3, ?_⟩
            rw [k4, j2, h2]
            simp
          · exact .inr h
theorem prsH_back (s : ByteArray) : (∃ l, prsH s = (l, 0, 0) ∧ okH l = true ∧ (∀ e ∈ l, e.bd) ∧ textH l = s) ∨ ∃ k : Int, prsH s = ([], k, 2) ∧ 1 ≤ k := by
  rcases prsG_back (s.data.toList.length + 1) s.data.toList 0 [] (by omega) ⟨(fun e he => by cases he), (fun e he => by cases he)⟩ with ⟨l, h1, h2, h3, h4⟩ | h
  · exact .inl ⟨l, h1, h2, h3, t_inj h4⟩
  · exact .inr h
end Go.Proofs.YtdjdhkbomhendaaGreatDoor
namespace Go.Proofs.YtdjdhkbomhendaaGreatDoor
open Go.RowKit
set_option linter.unusedVariables false
set_option linter.unusedSimpArgs false
set_option maxHeartbeats 400000

theorem rowL_ref (l : List UInt8) : rowL l = if (cutW 32 l).1 = rowW then refRow (cutW 32 l).2.1 else none := by
  cases hr : rowL l with
  | some r =>
    obtain ⟨h1, h2, h3⟩ := rowL_some hr
    rw [← h3, rowTxt_list, cut_at (show (32 : UInt8) ∉ rowW by decide), if_pos rfl, refRow_rowOf, rowOf_fmt h1 h2]
  | none =>
    by_cases hw : (cutW 32 l).1 = rowW
    · rw [if_pos hw]
      cases hc : refRow (cutW 32 l).2.1 with
      | none => rfl
      | some r =>
        exfalso
        have h1 : rowOf ⟨(cutW 32 l).2.1.toArray⟩ = some r := by rw [← refRow_rowOf]; exact hc
        obtain ⟨c1, c2, c3⟩ := rowOf_ok h1
        have hl : (rowTxt r).data.toList = l := by
          rw [rowTxt_list, c3]
          rcases cutW_cases 32 l with ⟨_, e⟩ | ⟨w, q, _, e, e2⟩
          · exfalso
            have := row_list c1
            rw [c3, e] at this
            cases this
          · rw [e2] at hw ⊢
            dsimp only at hw ⊢
            rw [← hw]
            exact e.symm
        have := rowL_txt c1 c2
        rw [hl, hr] at this
        cases this
    · rw [if_neg hw]
/-- the reference: an event with a further reason or row -/
def moreP (e : Ev) (l : List UInt8) : Option Ev :=
  if (cutW 32 l).1 = rowW ∧ e.kd = 4 then match refRow (cutW 32 l).2.1 with
    | some r => some { e with rows := e.rows ++ [r] }
    | none => none
  else if (cutW 32 l).1 ≠ forW ∨ e.kd ≠ 2 then none
  else match refRsn l with
    | some x => some { e with wts := e.wts ++ [x] }
    | none => none
def refS (out : List Ev) (l : List UInt8) : Option (List Ev) :=
  match out.getLast? with
  | none => match refHdr l with
    | some e => some (out ++ [e])
    | none => none
  | some x => match moreP x l with
    | some y => some (out.dropLast ++ [y])
    | none => if opn x = true then none else match refHdr l with
      | some e => some (out ++ [e])
      | none => none
theorem moreP_eq (x : Ev) (l : List UInt8) : moreP x l =
    if x.kd = 2 ∧ (rsnP l).isSome = true then some { x with wts := x.wts ++ (rsnP l).toList }
    else if x.kd = 4 ∧ (rowL l).isSome = true then some { x with rows := x.rows ++ (rowL l).toList } else none := by
  unfold moreP
  rw [refRsn_rsnP]
  by_cases k2 : x.kd = 2
  · have k4 : ¬ x.kd = 4 := by omega
    simp only [if_neg (show ¬ ((cutW 32 l).1 = rowW ∧ x.kd = 4) from fun h => k4 h.2), if_neg (show ¬ (x.kd = 4 ∧ (rowL l).isSome = true) from fun h => k4 h.1)]
    cases hr : rsnP l with
    | some y =>
      simp only [if_neg (show ¬ ((cutW 32 l).1 ≠ forW ∨ x.kd ≠ 2) by rintro (h | h); exact h (rsn_word hr); exact h k2), if_pos (show x.kd = 2 ∧ (some y).isSome = true from ⟨k2, rfl⟩)]
      rfl
    | none =>
      simp only [if_neg (show ¬ (x.kd = 2 ∧ (none : Option Wt).isSome = true) by simp)]
      split <;> rfl
  · simp only [if_neg (show ¬ (x.kd = 2 ∧ (rsnP l).isSome = true) from fun h => k2 h.1), if_pos (show (cutW 32 l).1 ≠ forW ∨ x.kd ≠ 2 from .inr k2)]
    by_cases k4 : x.kd = 4
    · have hL := rowL_ref l
      by_cases hw : (cutW 32 l).1 = rowW
      · rw [if_pos hw] at hL
        rw [hL]
        simp only [if_pos (show (cutW 32 l).1 = rowW ∧ x.kd = 4 from ⟨hw, k4⟩)]
        cases refRow (cutW 32 l).2.1 with
        | some r => simp only [if_pos (show x.kd = 4 ∧ (some r).isSome = true from ⟨k4, rfl⟩)]; rfl
        | none => simp only [if_neg (show ¬ (x.kd = 4 ∧ (none : Option (List Val)).isSome = true) by simp)]
      · rw [if_neg hw] at hL
        rw [hL]
        simp only [if_neg (show ¬ ((cutW 32 l).1 = rowW ∧ x.kd = 4) from fun h => hw h.1), if_neg (show ¬ (x.kd = 4 ∧ (none : Option (List Val)).isSome = true) by simp)]
    · simp only [if_neg (show ¬ ((cutW 32 l).1 = rowW ∧ x.kd = 4) from fun h => k4 h.2), if_neg (show ¬ (x.kd = 4 ∧ (rowL l).isSome = true) from fun h => k4 h.1)]
theorem refS_stepH (out : List Ev) (l : List UInt8) : refS out l = stepH out l := by
  unfold refS stepH hdrS
  rw [refHdr_hdrP]
  cases out.getLast? with
  | none => rfl
  | some x =>
    dsimp only
    rw [moreP_eq]
    by_cases c1 : x.kd = 2 ∧ (rsnP l).isSome = true
    · simp only [if_pos c1]
    · simp only [if_neg c1]
      by_cases c2 : x.kd = 4 ∧ (rowL l).isSome = true
      · simp only [if_pos c2]
      · simp only [if_neg c2]
        cases hdrP l <;> rfl
def eqV (a b : Val) : Bool := decide (a.k = b.k) && decide (a.n = b.n) && decide (a.t = b.t)
theorem eqV_iff {a b : Val} : eqV a b = true ↔ a = b := by
  obtain ⟨k, n, t⟩ := a
  obtain ⟨k', n', t'⟩ := b
  unfold eqV
  simp [and_assoc]
def eqL {α : Type} (f : α → α → Bool) : List α → List α → Bool
  | [], [] => true
  | a :: l, b :: m => f a b && eqL f l m
  | _, _ => false
theorem eqL_iff {α : Type} {f : α → α → Bool} (h : ∀ a b, f a b = true ↔ a = b) : ∀ l m : List α, eqL f l m = true ↔ l = m
  | [], [] => by simp [eqL]
  | [], b :: m => by simp [eqL]
  | a :: l, [] => by simp [eqL]
  | a :: l, b :: m => by simp [eqL, h, eqL_iff h l m]
def eqR (a b : List Val) : Bool := eqL eqV a b
def eqW (a b : Wt) : Bool := decide (a.tx = b.tx) && decide (a.tb = b.tb) && eqR a.row b.row
def eqE (a b : Ev) : Bool := decide (a.kd = b.kd) && decide (a.ss = b.ss) && decide (a.tx = b.tx) && decide (a.st = b.st) && decide (a.er = b.er) && decide (a.ct = b.ct) && eqL eqR a.rows b.rows && eqL eqW a.wts b.wts
def eqH (a b : List Ev) : Bool := eqL eqE a b
theorem eqR_iff {a b : List Val} : eqR a b = true ↔ a = b := eqL_iff (fun _ _ => eqV_iff) a b
theorem eqW_iff {a b : Wt} : eqW a b = true ↔ a = b := by
  obtain ⟨k, n, t⟩ := a
  obtain ⟨k', n', t'⟩ := b
  unfold eqW
  simp [eqR_iff, and_assoc]
theorem eqE_iff {a b : Ev} : eqE a b = true ↔ a = b := by
  obtain ⟨kd, ss, tx, st, er, ct, rows, wts⟩ := a
  obtain ⟨kd', ss', tx', st', er', ct', rows', wts'⟩ := b
  unfold eqE
  simp [eqL_iff (fun _ _ => eqR_iff), eqL_iff (fun _ _ => eqW_iff), and_assoc]
theorem eqH_iff {a b : List Ev} : eqH a b = true ↔ a = b := eqL_iff (fun _ _ => eqE_iff) a b
/-- the committed transactions -/
def commP (l : List Ev) : List Int := (l.filter fun e => e.kd == 8).map Ev.tx
/-- one step of the outcomes -/
def outS (t : Int) (s : Bool × List Int) (p : Ev × Nat) : Bool × List Int :=
  if p.1.tx ≠ t then s
  else if p.1.kd = 1 then (true, [])
  else if 4 ≤ p.1.kd ∧ p.1.kd ≤ 7 ∧ s.1 = true then (s.1, s.2 ++ [(p.2 : Int)])
  else s
def outP (l : List Ev) (t : Int) : Bool × List Int := l.zipIdx.foldl (outS t) (false, [])
end Go.Proofs.YtdjdhkbomhendaaGreatDoor
namespace Go.Proofs.YtdjdhkbomhendaaGreatDoor
set_option linter.unusedVariables false
open Go.RowKit

/-- a row's slice -/
def RowAt (w : World) (v : Value) (l : List Val) : Prop := ∃ A c, v = .slice A l.length c ∧ ValsAt w A l
theorem RowAt.ext {w w' : World} {v : Value} {l : List Val} (h : RowAt w v l) (hx : Ext w w') : RowAt w' v l := by
  obtain ⟨A, c, h1, h2⟩ := h
  exact ⟨A, c, h1, h2.ext hx⟩
/-- a slice of rows, read -/
def RowsAt (w : World) (A : Option Addr) (l : List (List Val)) : Prop :=
  ∀ (i : Nat) (r : List Val), l[i]? = some r → ∃ b off v, A = some ⟨b, off, none⟩ ∧ w.cell? ⟨b, off + i, none⟩ = some v ∧ RowAt w v r
theorem RowsAt.ext {w w' : World} {A : Option Addr} {l : List (List Val)} (h : RowsAt w A l) (hx : Ext w w') : RowsAt w' A l := fun i r hr => by
  obtain ⟨b, off, v, h1, h2, h3⟩ := h i r hr
  exact ⟨b, off, v, h1, hx.keep h2, h3.ext hx⟩
/-- a slice of reasons, read -/
def WtsAt (w : World) (A : Option Addr) (l : List Wt) : Prop :=
  ∀ (i : Nat) (x : Wt), l[i]? = some x → ∃ b off v, A = some ⟨b, off, none⟩ ∧ w.cell? ⟨b, off + i * 3, none⟩ = some (.int .i64 x.tx) ∧ w.cell? ⟨b, off + i * 3 + 1, none⟩ = some (.int .i64 x.tb) ∧
    w.cell? ⟨b, off + i * 3 + 2, none⟩ = some v ∧ RowAt w v x.row
theorem WtsAt.ext {w w' : World} {A : Option Addr} {l : List Wt} (h : WtsAt w A l) (hx : Ext w w') : WtsAt w' A l := fun i r hr => by
  obtain ⟨b, off, v, h1, h2, h3, h4, h5⟩ := h i r hr
  exact ⟨b, off, v, h1, hx.keep h2, hx.keep h3, hx.keep h4, h5.ext hx⟩
/-- the slices of an event -/
def RsAt (w : World) (v : Value) (l : List (List Val)) : Prop := ∃ A c, v = .slice A l.length c ∧ RowsAt w A l
def WsAt (w : World) (v : Value) (l : List Wt) : Prop := ∃ A c, v = .slice A l.length c ∧ WtsAt w A l
theorem RsAt.ext {w w' : World} {v : Value} {l : List (List Val)} (h : RsAt w v l) (hx : Ext w w') : RsAt w' v l := by
  obtain ⟨A, c, h1, h2⟩ := h
  exact ⟨A, c, h1, h2.ext hx⟩
theorem WsAt.ext {w w' : World} {v : Value} {l : List Wt} (h : WsAt w v l) (hx : Ext w w') : WsAt w' v l := by
  obtain ⟨A, c, h1, h2⟩ := h
  exact ⟨A, c, h1, h2.ext hx⟩
/-- a slice of events, read -/
def EvsAt (w : World) (A : Option Addr) (l : List Ev) : Prop :=
  ∀ (i : Nat) (e : Ev), l[i]? = some e → ∃ b off vr vw, A = some ⟨b, off, none⟩ ∧ w.cell? ⟨b, off + i * 8, none⟩ = some (.int .i64 e.kd) ∧ w.cell? ⟨b, off + i * 8 + 1, none⟩ = some (.int .i64 e.ss) ∧
    w.cell? ⟨b, off + i * 8 + 2, none⟩ = some (.int .i64 e.tx) ∧ w.cell? ⟨b, off + i * 8 + 3, none⟩ = some (.int .i64 e.st) ∧ w.cell? ⟨b, off + i * 8 + 4, none⟩ = some (.int .i64 e.er) ∧
    w.cell? ⟨b, off + i * 8 + 5, none⟩ = some (.int .i64 e.ct) ∧ w.cell? ⟨b, off + i * 8 + 6, none⟩ = some vr ∧ w.cell? ⟨b, off + i * 8 + 7, none⟩ = some vw ∧ RsAt w vr e.rows ∧ WsAt w vw e.wts
theorem EvsAt.ext {w w' : World} {A : Option Addr} {l : List Ev} (h : EvsAt w A l) (hx : Ext w w') : EvsAt w' A l := fun i e he => by
  obtain ⟨b, off, vr, vw, h0, h1, h2, h3, h4, h5, h6, h7, h8, h9, h10⟩ := h i e he
  exact ⟨b, off, vr, vw, h0, hx.keep h1, hx.keep h2, hx.keep h3, hx.keep h4, hx.keep h5, hx.keep h6, hx.keep h7, hx.keep h8, h9.ext hx, h10.ext hx⟩
/-- an event's value -/
def evV (e : Ev) (vr vw : Value) : Value := .agg #[.int .i64 e.kd, .int .i64 e.ss, .int .i64 e.tx, .int .i64 e.st, .int .i64 e.er, .int .i64 e.ct, vr, vw]
end Go.Proofs.YtdjdhkbomhendaaGreatDoor
