/-
  Histories: plain functions on events and their texts; no program in sight. · The row of a text, as a plain function; no program in sight. · The row of a text: sound and complete; the reference's reading of a row; no program in sight. · The reference's reading of a row reads what the program reads; no program in sight. · Words of a line, numbers of a word; no program in sight. · The first line of an event, as a plain function; no program in sight. · The reference's first line, and the reasons, as plain functions; no program in sight. · The reasons of a wait, as plain functions; no program in sight. · One line of a history, as a plain function; no program in sight.
-/
import Derived.Test.YtdjdhkbomhendaaGreatDoorGc
import Derived.Lib.SplitLaws
import Derived.Lib.IndexBytes
import Derived.Lib.SlicesS
namespace Go.Proofs.YtdjdhkbomhendaaGreatDoor
open Go.RowKit
set_option linter.unusedVariables false
set_option maxHeartbeats 400000

/-- a reason of a wait -/
structure Wt where
  tx : Int
  tb : Int
  row : List Val
/-- an event -/
structure Ev where
  kd : Int
  ss : Int
  tx : Int
  st : Int
  er : Int
  ct : Int
  rows : List (List Val)
  wts : List Wt
def rowV (r : List Val) : Bool := r.all validV
def Wt.ok (x : Wt) : Bool := decide (1 ≤ x.tx) && decide (0 ≤ x.tb) && decide (x.tb < 8) && decide (0 < x.row.length) && rowV x.row
def Ev.bare (e : Ev) : Bool := e.ss == 0 && e.tx == 0 && e.st == 0 && e.er == 0 && e.ct == 0 && decide (e.rows.length = 0) && decide (e.wts.length = 0)
/-- an event is valid -/
def Ev.ok (e : Ev) : Bool :=
  if e.kd < 1 ∨ 13 < e.kd then false
  else if 11 ≤ e.kd then e.bare
  else
    let failed := e.kd == 7 || e.kd == 10
    (decide (0 ≤ e.ss) && decide (e.ss < 8) && decide (1 ≤ e.tx) && decide (0 ≤ e.st)) &&
      !((failed && (decide (e.er < 1) || decide (17 < e.er))) || (!failed && e.er != 0)) && !(decide (e.ct < 0) || (e.kd != 5 && e.ct != 0)) &&
      !(((e.kd == 2) != decide (0 < e.wts.length)) || (e.kd != 4 && decide (0 < e.rows.length))) && e.wts.all Wt.ok && e.rows.all rowV
/-- the names of the kinds -/
def kwB (k : Int) : ByteArray :=
  if k = 1 then ⟨#[98, 101, 103, 105, 110]⟩ else if k = 2 then ⟨#[119, 97, 105, 116]⟩ else if k = 3 then ⟨#[103, 114, 97, 110, 116]⟩ else if k = 4 then ⟨#[114, 111, 119, 115]⟩ else if k = 5 then ⟨#[99, 111, 117, 110, 116]⟩ else if k = 6 then ⟨#[100, 111, 110, 101]⟩ else if k = 7 then ⟨#[101, 114, 114, 111, 114]⟩ else if k = 8 then ⟨#[99, 111, 109, 109, 105, 116]⟩
  else if k = 9 then ⟨#[114, 111, 108, 108, 98, 97, 99, 107]⟩ else if k = 10 then ⟨#[97, 98, 111, 114, 116]⟩ else if k = 11 then ⟨#[99, 104, 101, 99, 107, 112, 111, 105, 110, 116]⟩ else if k = 12 then ⟨#[99, 114, 97, 115, 104]⟩ else if k = 13 then ⟨#[114, 101, 99, 111, 118, 101, 114]⟩ else ⟨#[]⟩
def spN (n : Int) : ByteArray := ⟨#[32]⟩ ++ itoB n
/-- the first line of an event, without its end -/
def Ev.head (e : Ev) : ByteArray :=
  let a := if e.kd < 11 then kwB e.kd ++ spN e.ss ++ spN e.tx ++ spN e.st else kwB e.kd
  let b := if e.kd = 5 then a ++ spN e.ct else a
  if e.er = 0 then b else b ++ spN e.er
def nlB : ByteArray := ⟨#[10]⟩
def Wt.line (x : Wt) : ByteArray := ⟨#[102, 111, 114, 32]⟩ ++ itoB x.tx ++ ⟨#[32]⟩ ++ itoB x.tb ++ ⟨#[32]⟩ ++ fmtRow x.row ++ nlB
def rowLn (r : List Val) : ByteArray := ⟨#[114, 111, 119, 32]⟩ ++ fmtRow r ++ nlB
/-- the lines of an event -/
def Ev.lines (e : Ev) : ByteArray := e.rows.foldl (fun a r => a ++ rowLn r) (e.wts.foldl (fun a x => a ++ x.line) (e.head ++ nlB))
/-- the text of a history -/
def textH (l : List Ev) : ByteArray := l.foldl (fun a e => a ++ e.lines) ⟨#[]⟩
def okH (l : List Ev) : Bool := l.all Ev.ok
end Go.Proofs.YtdjdhkbomhendaaGreatDoor
namespace Go.Proofs.YtdjdhkbomhendaaGreatDoor
open Go.RowKit
set_option linter.unusedVariables false
set_option maxHeartbeats 400000

/-- behind the first quote: the letters up to the closing quote, with it -/
def quoLen : List UInt8 → Nat
  | [] => 0
  | [c] => 1
  | c :: d :: r => if c = 39 then (if d = 39 then 2 + quoLen r else 1) else 1 + quoLen (d :: r)
def stopLen : List UInt8 → Nat
  | [] => 0
  | c :: r => if c = 44 ∨ c = 41 then 0 else 1 + stopLen r
/-- the length of the literal with which a text begins -/
def litLen : List UInt8 → Nat
  | [] => 0
  | c :: r => if c = 39 then 1 + quoLen r else stopLen (c :: r)
theorem quoLen_one (rest : List UInt8) (h : rest.head? ≠ some 39) : quoLen (39 :: rest) = 1 := by
  cases rest with
  | nil => rfl
  | cons d r =>
    have : d ≠ 39 := fun e => h (by rw [e]; rfl)
    rw [quoLen, if_pos rfl, if_neg this]
theorem quoLen_other (c : UInt8) (r : List UInt8) (h : c ≠ 39) : quoLen (c :: r) = 1 + quoLen r := by
  cases r with
  | nil => rfl
  | cons d r => rw [quoLen, if_neg h]
theorem quoLen_quo (rest : List UInt8) (h : rest.head? ≠ some 39) : ∀ t : List UInt8, quoLen (quo t ++ 39 :: rest) = (quo t).length + 1
  | [] => by rw [quo, List.nil_append]; exact quoLen_one rest h
  | c :: t => by
    have ih := quoLen_quo rest h t
    rw [quo]
    by_cases hc : c = 39
    · rw [if_pos hc, List.cons_append, List.cons_append, quoLen, if_pos rfl, if_pos rfl, ih]
      simp only [List.length_cons]
      omega
    · rw [if_neg hc, List.cons_append, quoLen_other c _ hc, ih]
      simp only [List.length_cons]
      omega
theorem stopLen_app (rest : List UInt8) (hr : rest = [] ∨ rest.head? = some 44 ∨ rest.head? = some 41) : ∀ a : List UInt8, (∀ c ∈ a, c ≠ 44 ∧ c ≠ 41) → stopLen (a ++ rest) = a.length
  | [], _ => by
    rw [List.nil_append]
    cases rest with
    | nil => rfl
    | cons d r =>
      have hd : d = 44 ∨ d = 41 := by simpa using hr
      rw [stopLen, if_pos hd]; rfl
  | c :: a, h => by
    have ih := stopLen_app rest hr a fun x hx => h x (by simp [hx])
    have hc := h c (by simp)
    rw [List.cons_append, stopLen, if_neg (by rintro (e | e); exact hc.1 e; exact hc.2 e), ih, List.length_cons]
    omega
theorem dec_mem : ∀ (u : Nat) (c : UInt8), c ∈ Lib.decDigits u → 48 ≤ c.toNat ∧ c.toNat ≤ 57 := by
  intro u
  induction u using Nat.strongRecOn with
  | _ u ih =>
    intro c hc
    by_cases h : u < 10
    · rw [dec_small h] at hc
      have : c = UInt8.ofNat (48 + u) := by simpa using hc
      subst this
      rw [UInt8.toNat_ofNat', Nat.mod_eq_of_lt (by omega)]
      omega
    · rw [dec_big h, List.mem_append] at hc
      rcases hc with hc | hc
      · exact ih (u / 10) (by omega) c hc
      · have : c = UInt8.ofNat (48 + u % 10) := by simpa using hc
        subst this
        rw [UInt8.toNat_ofNat', Nat.mod_eq_of_lt (by omega)]
        omega
theorem itoa_mem (n : Int) (c : UInt8) (h : c ∈ Lib.itoa n) : c = 45 ∨ 48 ≤ c.toNat ∧ c.toNat ≤ 57 := by
  unfold Lib.itoa at h
  split at h
  · rcases List.mem_cons.1 h with h | h
    · exact .inl h
    · exact .inr (dec_mem _ c h)
  · exact .inr (dec_mem _ c h)
theorem num_stop {n : Int} {c : UInt8} (h : c ∈ Lib.itoa n) : c ≠ 44 ∧ c ≠ 41 ∧ c ≠ 39 ∧ c ≠ 32 ∧ c ≠ 10 := by
  rcases itoa_mem n c h with rfl | h
  · decide
  · refine ⟨?_, ?_, ?_, ?_, ?_⟩ <;> (rintro rfl; revert h; decide)
theorem itoa_cons (n : Int) : ∃ c r, Lib.itoa n = c :: r := by
  cases h : Lib.itoa n with
  | nil => exact absurd h (itoa_ne n)
  | cons c r => exact ⟨c, r, rfl⟩
/-- the literal of a valid value -/
theorem fmt_cases {v : Val} (h : validV v = true) : (fmtV v).data.toList = [78, 85, 76, 76] ∨ (fmtV v).data.toList = Lib.itoa v.n ∨ (fmtV v).data.toList = 39 :: (quo v.t.data.toList ++ [39]) := by
  rw [fmtV_of h]
  split
  · exact .inl rfl
  · split
    · exact .inr (.inl rfl)
    · refine .inr (.inr ?_)
      simp only [ByteArray.data_append, Array.toList_append]
      rfl
theorem litLen_fmt {v : Val} (h : validV v = true) (rest : List UInt8) (hr : rest = [] ∨ rest.head? = some 44 ∨ rest.head? = some 41) : litLen ((fmtV v).data.toList ++ rest) = (fmtV v).data.toList.length := by
  rcases fmt_cases h with e | e | e
  · rw [e]
    show litLen (78 :: ([85, 76, 76] ++ rest)) = _
    rw [litLen, if_neg (by decide)]
    exact stopLen_app rest hr [78, 85, 76, 76] (by decide)
  · rw [e]
    obtain ⟨c, r, hc⟩ := itoa_cons v.n
    have h1 := stopLen_app rest hr (Lib.itoa v.n) fun c hc => ⟨(num_stop hc).1, (num_stop hc).2.1⟩
    have h2 := num_stop (n := v.n) (c := c) (by rw [hc]; simp)
    rw [hc] at h1 ⊢
    rw [List.cons_append, litLen, if_neg h2.2.2.1]
    exact h1
  · rw [e, List.cons_append, litLen, if_pos rfl, List.append_assoc]
    show 1 + quoLen (quo v.t.data.toList ++ 39 :: rest) = _
    rw [quoLen_quo rest (by rcases hr with rfl | hr | hr; simp; rw [hr]; decide; rw [hr]; decide)]
    simp only [List.length_cons, List.length_append, List.length_nil]
    omega
/-- a prefix cut off -/
def cutP (p s : List UInt8) : List UInt8 × Bool := if p.isPrefixOf s = true then (s.drop p.length, true) else (s, false)
theorem cutP_app (p s : List UInt8) : cutP p (p ++ s) = (s, true) := by
  unfold cutP
  rw [if_pos (by rw [List.isPrefixOf_iff_prefix]; exact List.prefix_append p s), List.drop_left]
def rowGo : Nat → List UInt8 → List Val → List Val × Bool
  | 0, _, acc => (acc, false)
  | f + 1, rest, acc =>
    if rest = [41] then (acc, true)
    else
      let c := if acc.length = 0 then (rest, true) else cutP [44, 32] rest
      let p := prs ⟨(c.1.take (litLen c.1)).toArray⟩
      if (c.2 && p.2 == 0) = true then rowGo f (c.1.drop (litLen c.1)) (acc ++ [p.1]) else (acc ++ [p.1], false)
def rowP (s : List UInt8) : List Val × Bool := if (cutP [40] s).2 = true then rowGo (s.length + 1) (cutP [40] s).1 [] else ([], false)
def rowOf (s : ByteArray) : Option (List Val) := if (rowP s.data.toList).2 = true ∧ fmtRow (rowP s.data.toList).1 = s then some (rowP s.data.toList).1 else none
def rowBd (l : List Val) : Prop := ∀ a ∈ l, -9223372036854775808 ≤ a.n ∧ a.n ≤ 9223372036854775807
theorem fmtL (v : Val) : (⟨(fmtV v).data.toList.toArray⟩ : ByteArray) = fmtV v := by
  apply t_inj; rfl
theorem rowGo_tail : ∀ (l : List Val) (acc : List Val) (f : Nat), acc.length ≠ 0 → l.length < f → rowV l = true → rowBd l → rowGo f (Lib.joinTail [44, 32] (l.map fun v => (fmtV v).data.toList) ++ [41]) acc = (acc ++ l, true)
  | [], acc, f, ha, hf, hv, hb => by
    obtain ⟨f, rfl⟩ : ∃ g, f = g + 1 := ⟨f - 1, by simp at hf; omega⟩
    rw [rowGo, if_pos (by simp [Lib.joinTail]), List.append_nil]
  | v :: l, acc, f, ha, hf, hv, hb => by
    obtain ⟨f, rfl⟩ : ∃ g, f = g + 1 := ⟨f - 1, by simp at hf; omega⟩
    have hv1 : validV v = true := List.all_eq_true.1 hv v (by simp)
    have hv2 : rowV l = true := List.all_eq_true.2 fun x hx => List.all_eq_true.1 hv x (by simp [hx])
    have hb1 := hb v (by simp)
    have ih := rowGo_tail l (acc ++ [v]) f (by simp) (by simp at hf; omega) hv2 fun a ha => hb a (by simp [ha])
    have hs : Lib.joinTail [44, 32] ((v :: l).map fun v => (fmtV v).data.toList) ++ [41] = [44, 32] ++ ((fmtV v).data.toList ++ (Lib.joinTail [44, 32] (l.map fun v => (fmtV v).data.toList) ++ [41])) := by
      simp [Lib.joinTail]
    rw [hs, rowGo, if_neg (by simp), if_neg ha, cutP_app]
    have hr : (Lib.joinTail [44, 32] (l.map fun v => (fmtV v).data.toList) ++ [41]) = [] ∨ (Lib.joinTail [44, 32] (l.map fun v => (fmtV v).data.toList) ++ [41]).head? = some 44 ∨ (Lib.joinTail [44, 32] (l.map fun v => (fmtV v).data.toList) ++ [41]).head? = some 41 := by
      cases l with
      | nil => right; right; simp [Lib.joinTail]
      | cons a l => right; left; simp [Lib.joinTail]
    simp only
    rw [litLen_fmt hv1 _ hr, List.take_left, List.drop_left, fmtL, prs_of v hv1 hb1.1 hb1.2]
    simp only [Bool.true_and, beq_self_eq_true, if_true]
    rw [ih]
    simp
end Go.Proofs.YtdjdhkbomhendaaGreatDoor
namespace Go.Proofs.YtdjdhkbomhendaaGreatDoor
open Go.RowKit
set_option linter.unusedVariables false
set_option maxHeartbeats 400000

theorem rowOf_some {s : ByteArray} {r : List Val} (h : rowOf s = some r) : fmtRow r = s := by
  unfold rowOf at h
  split at h
  · rename_i h1
    obtain rfl := Option.some.inj h
    exact h1.2
  · cases h
theorem row_list {l : List Val} (h : rowV l = true) : (fmtRow l).data.toList = 40 :: (Lib.join (l.map fun v => (fmtV v).data.toList) [44, 32] ++ [41]) := by
  unfold fmtRow
  rw [if_pos (show l.all validV = true from h)]
  simp only [ByteArray.data_append, Array.toList_append]
  unfold fmtS
  rw [List.map_map]
  rfl
theorem fmt_ne {v : Val} (h : validV v = true) : ∃ c r, (fmtV v).data.toList = c :: r := by
  cases hc : (fmtV v).data.toList with
  | cons c r => exact ⟨c, r, rfl⟩
  | nil => exact absurd (t_inj hc : fmtV v = ⟨#[]⟩) (fmtV_ne h)
theorem tail_len (l : List Val) : 2 * l.length ≤ (Lib.joinTail [44, 32] (l.map fun v => (fmtV v).data.toList)).length := by
  rw [Lib.joinTail_length]
  simp
theorem tail_head (l : List Val) : (Lib.joinTail [44, 32] (l.map fun v => (fmtV v).data.toList) ++ [41]) = [] ∨ (Lib.joinTail [44, 32] (l.map fun v => (fmtV v).data.toList) ++ [41]).head? = some 44 ∨ (Lib.joinTail [44, 32] (l.map fun v => (fmtV v).data.toList) ++ [41]).head? = some 41 := by
  cases l with
  | nil => right; right; simp [Lib.joinTail]
  | cons a l => right; left; simp [Lib.joinTail]
theorem rowOf_fmt {l : List Val} (hv : rowV l = true) (hb : rowBd l) : rowOf (fmtRow l) = some l := by
  have hL := row_list hv
  have hP : rowP (fmtRow l).data.toList = (l, true) := by
    rw [hL]
    unfold rowP
    have hc := cutP_app [40] (Lib.join (l.map fun v => (fmtV v).data.toList) [44, 32] ++ [41])
    rw [show [40] ++ (Lib.join (l.map fun v => (fmtV v).data.toList) [44, 32] ++ [41]) = 40 :: (Lib.join (l.map fun v => (fmtV v).data.toList) [44, 32] ++ [41]) from rfl] at hc
    rw [hc]
    simp only [if_true]
    cases l with
    | nil => rw [rowGo, if_pos (by simp [Lib.join_nil])]
    | cons v l =>
      have hv1 : validV v = true := List.all_eq_true.1 hv v (by simp)
      have hv2 : rowV l = true := List.all_eq_true.2 fun x hx => List.all_eq_true.1 hv x (by simp [hx])
      have hb1 := hb v (by simp)
      obtain ⟨c, r, hcr⟩ := fmt_ne hv1
      have hj : Lib.join ((v :: l).map fun v => (fmtV v).data.toList) [44, 32] ++ [41] = (fmtV v).data.toList ++ (Lib.joinTail [44, 32] (l.map fun v => (fmtV v).data.toList) ++ [41]) := by
        rw [List.map_cons, Lib.join_cons, List.append_assoc]
      rw [hj]
      have hne : (fmtV v).data.toList ++ (Lib.joinTail [44, 32] (l.map fun v => (fmtV v).data.toList) ++ [41]) ≠ [41] := by
        intro h
        have := congrArg List.length h
        rw [hcr] at this
        simp only [List.length_append, List.length_cons, List.length_nil] at this
        omega
      rw [rowGo, if_neg hne]
      simp only [List.length_nil, if_true]
      rw [litLen_fmt hv1 _ (tail_head l), List.take_left, List.drop_left, fmtL, prs_of v hv1 hb1.1 hb1.2]
      simp only [Bool.true_and, beq_self_eq_true, if_true]
      have := tail_len l
      rw [rowGo_tail l _ _ (by simp) (by simp only [List.length_cons, List.length_append]; omega) hv2 fun a ha => hb a (by simp [ha])]
      rfl
  unfold rowOf
  rw [hP]
  simp
/-- the reference: the first comma outside of quotes -/
def refScan : Bool → List UInt8 → Nat
  | _, [] => 0
  | b, c :: r => if b = false ∧ c = 44 then 0 else 1 + refScan (if c = 39 then !b else b) r
theorem scan_in (rest : List UInt8) : ∀ t : List UInt8, refScan true (quo t ++ rest) = (quo t).length + refScan true rest
  | [] => by rw [quo, List.nil_append, List.length_nil, Nat.zero_add]
  | c :: t => by
    have ih := scan_in rest t
    rw [quo]
    by_cases hc : c = 39
    · rw [if_pos hc, List.cons_append, List.cons_append, refScan, if_neg (by simp), if_pos rfl, refScan, if_neg (by rintro ⟨_, h⟩; revert h; decide), if_pos rfl]
      show 1 + (1 + refScan true (quo t ++ rest)) = _
      rw [ih]
      simp only [List.length_cons]
      omega
    · rw [if_neg hc, List.cons_append, refScan, if_neg (by simp), if_neg hc, ih]
      simp only [List.length_cons]
      omega
theorem scan_out (rest : List UInt8) : ∀ a : List UInt8, (∀ c ∈ a, c ≠ 44 ∧ c ≠ 39) → refScan false (a ++ rest) = a.length + refScan false rest
  | [], _ => by rw [List.nil_append, List.length_nil, Nat.zero_add]
  | c :: a, h => by
    have hc := h c (by simp)
    rw [List.cons_append, refScan, if_neg (by rintro ⟨_, e⟩; exact hc.1 e), if_neg hc.2, scan_out rest a fun x hx => h x (by simp [hx]), List.length_cons]
    omega
theorem scan_stop (rest : List UInt8) (hr : rest = [] ∨ rest.head? = some 44) : refScan false rest = 0 := by
  cases rest with
  | nil => rfl
  | cons c r =>
    have : c = 44 := by simpa using hr
    rw [refScan, if_pos ⟨rfl, this⟩]
theorem refScan_fmt {v : Val} (h : validV v = true) (rest : List UInt8) (hr : rest = [] ∨ rest.head? = some 44) : refScan false ((fmtV v).data.toList ++ rest) = (fmtV v).data.toList.length := by
  rcases fmt_cases h with e | e | e
  · rw [e, scan_out rest _ (by decide), scan_stop rest hr]; rfl
  · rw [e, scan_out rest _ fun c hc => ⟨(num_stop hc).1, (num_stop hc).2.2.1⟩, scan_stop rest hr]; rfl
  · rw [e, List.cons_append, refScan, if_neg (by rintro ⟨_, h⟩; revert h; decide), if_pos rfl, List.append_assoc]
    show 1 + refScan true (quo v.t.data.toList ++ ([39] ++ rest)) = _
    rw [scan_in]
    show 1 + (_ + refScan true (39 :: rest)) = _
    rw [refScan, if_neg (by simp), if_pos rfl]
    show 1 + (_ + (1 + refScan false rest)) = _
    rw [scan_stop rest hr]
    simp only [List.length_cons, List.length_append, List.length_nil]
    omega
end Go.Proofs.YtdjdhkbomhendaaGreatDoor
namespace Go.Proofs.YtdjdhkbomhendaaGreatDoor
open Go.RowKit
set_option linter.unusedVariables false
set_option maxHeartbeats 400000

theorem prs_ok {s : ByteArray} (h : (prs s).2 = 0) : fmtV (prs s).1 = s ∧ validV (prs s).1 = true ∧ -9223372036854775808 ≤ (prs s).1.n ∧ (prs s).1.n ≤ 9223372036854775807 := by
  unfold prs at h ⊢
  by_cases hf : fmtV (pc s) = s
  · rw [if_pos hf]
    refine ⟨hf, ?_, (pc_bd s).1, (pc_bd s).2⟩
    cases hv : validV (pc s)
    · have e := fmtV_no hv
      rw [hf] at e
      subst e
      exact absurd hf pc_empty
    · rfl
  · rw [if_neg hf] at h
    exact absurd h (by decide)
theorem prs_bd (s : ByteArray) : -9223372036854775808 ≤ (prs s).1.n ∧ (prs s).1.n ≤ 9223372036854775807 := by
  unfold prs
  split
  · exact pc_bd s
  · exact ⟨by decide, by decide⟩
theorem rowGo_bd : ∀ (f : Nat) (rest : List UInt8) (acc : List Val), rowBd acc → rowBd (rowGo f rest acc).1
  | 0, rest, acc, h => h
  | f + 1, rest, acc, h => by
    rw [rowGo]
    split
    · exact h
    · have h2 : ∀ s : ByteArray, rowBd (acc ++ [(prs s).1]) := fun s a ha => by
        rcases List.mem_append.1 ha with ha | ha
        · exact h a ha
        · rw [List.mem_singleton] at ha
          subst ha
          exact prs_bd s
      generalize (if acc.length = 0 then (rest, true) else cutP [44, 32] rest) = c
      show rowBd (if _ = true then _ else _ : List Val × Bool).1
      split
      · exact rowGo_bd f _ _ (h2 _)
      · exact h2 _
theorem rowOf_ok {s : ByteArray} {r : List Val} (h : rowOf s = some r) : rowV r = true ∧ rowBd r ∧ fmtRow r = s := by
  have hf := rowOf_some h
  unfold rowOf at h
  split at h
  · rename_i h1
    obtain rfl := Option.some.inj h
    refine ⟨?_, ?_, hf⟩
    · cases hv : rowV (rowP s.data.toList).1
      · have e : fmtRow (rowP s.data.toList).1 = ⟨#[]⟩ := by
          unfold fmtRow
          exact if_neg (show ¬ ((rowP s.data.toList).1).all validV = true by unfold rowV at hv; rw [hv]; decide)
        rw [hf] at e
        subst e
        exact absurd h1.1 (by decide)
      · rfl
    · unfold rowP
      split
      · exact rowGo_bd _ _ _ fun a ha => by cases ha
      · exact fun a ha => by cases ha
  · cases h
theorem scan_end : ∀ (l : List UInt8) (b : Bool), l.drop (refScan b l) = [] ∨ (l.drop (refScan b l)).head? = some 44
  | [], b => .inl rfl
  | c :: r, b => by
    rw [refScan]
    split
    · rename_i h
      exact .inr (by rw [List.drop_zero, h.2]; rfl)
    · rw [show 1 + refScan (if c = 39 then !b else b) r = refScan (if c = 39 then !b else b) r + 1 by omega, List.drop_succ_cons]
      exact scan_end r _
/-- the reference's loop over a row's values -/
def refGo : Nat → List UInt8 → List Val → Option (List Val)
  | 0, _, _ => none
  | f + 1, rest, acc =>
    if rest = [] then some acc
    else if (prs ⟨(rest.take (refScan false rest)).toArray⟩).2 = 0 then
      if rest.drop (refScan false rest) = [] then refGo f [] (acc ++ [(prs ⟨(rest.take (refScan false rest)).toArray⟩).1])
      else if (rest.drop (refScan false rest)).length < 3 ∨ (rest.drop (refScan false rest))[1]? ≠ some 32 then none
      else refGo f ((rest.drop (refScan false rest)).drop 2) (acc ++ [(prs ⟨(rest.take (refScan false rest)).toArray⟩).1])
    else none
def refRow (s : List UInt8) : Option (List Val) := if s.length < 2 ∨ s.head? ≠ some 40 ∨ s.getLast? ≠ some 41 then none else refGo s.length (s.drop 1).dropLast []
abbrev jnV (l : List Val) : List UInt8 := Lib.join (l.map fun v => (fmtV v).data.toList) [44, 32]
theorem jnV_cons (v : Val) (l : List Val) : jnV (v :: l) = (fmtV v).data.toList ++ Lib.joinTail [44, 32] (l.map fun v => (fmtV v).data.toList) := by
  rw [jnV, List.map_cons, Lib.join_cons]
theorem jt_cons (v : Val) (l : List Val) : Lib.joinTail [44, 32] ((v :: l).map fun v => (fmtV v).data.toList) = 44 :: 32 :: jnV (v :: l) := by
  rw [jnV_cons]
  simp [Lib.joinTail]
theorem refGo_some : ∀ (f : Nat) (rest : List UInt8) (acc r : List Val), refGo f rest acc = some r → ∃ l, r = acc ++ l ∧ rowV l = true ∧ rowBd l ∧ rest = jnV l
  | 0, rest, acc, r, h => by cases h
  | f + 1, rest, acc, r, h => by
    rw [refGo] at h
    by_cases h0 : rest = []
    · rw [if_pos h0] at h
      obtain rfl := Option.some.inj h
      exact ⟨[], by rw [List.append_nil], rfl, (fun a ha => by cases ha), by rw [h0]; rfl⟩
    · rw [if_neg h0] at h
      by_cases hp : (prs ⟨(rest.take (refScan false rest)).toArray⟩).2 = 0
      · rw [if_pos hp] at h
        obtain ⟨hf, hv, hb⟩ := prs_ok hp
        have hL : (fmtV (prs ⟨(rest.take (refScan false rest)).toArray⟩).1).data.toList = rest.take (refScan false rest) := by rw [hf]
        have hR : rest = (fmtV (prs ⟨(rest.take (refScan false rest)).toArray⟩).1).data.toList ++ rest.drop (refScan false rest) := by rw [hL, List.take_append_drop]
        generalize prs ⟨(rest.take (refScan false rest)).toArray⟩ = p at *
        by_cases hd : rest.drop (refScan false rest) = []
        · rw [if_pos hd] at h
          obtain ⟨l, e1, e2, e3, e4⟩ := refGo_some f [] _ r h
          cases l with
          | cons a l =>
            exfalso
            have h3 : validV a = true := List.all_eq_true.1 e2 a (by simp)
            obtain ⟨c, t, hc⟩ := fmt_ne h3
            rw [jnV_cons, hc] at e4
            cases e4
          | nil =>
            refine ⟨[p.1], by rw [e1, List.append_nil], by unfold rowV; simp [hv], fun a ha => ?_, ?_⟩
            · rw [List.mem_singleton] at ha
              subst ha
              exact hb
            · rw [jnV_cons]
              rw [hd] at hR
              rw [hR]
              rfl
        · rw [if_neg hd] at h
          by_cases hq : (rest.drop (refScan false rest)).length < 3 ∨ (rest.drop (refScan false rest))[1]? ≠ some 32
          · rw [if_pos hq] at h
            cases h
          · rw [if_neg hq] at h
            obtain ⟨l, e1, e2, e3, e4⟩ := refGo_some f _ _ r h
            have h44 := (scan_end rest false).resolve_left hd
            generalize rest.drop (refScan false rest) = d at *
            obtain ⟨q1, q2⟩ := not_or.1 hq
            rcases d with _ | ⟨c0, _ | ⟨c1, _ | ⟨c2, d⟩⟩⟩
            · cases h44
            · exact absurd (show 1 < 3 by decide) q1
            · exact absurd (show 2 < 3 by decide) q1
            · have k0 : c0 = 44 := by simpa using h44
              have k1 : c1 = 32 := by simpa using q2
              subst k0
              subst k1
              rw [show List.drop 2 (44 :: 32 :: c2 :: d) = c2 :: d from rfl] at e4
              cases l with
              | nil => cases e4
              | cons a l =>
                refine ⟨p.1 :: a :: l, by rw [e1, List.append_assoc]; rfl, ?_, fun x hx => ?_, ?_⟩
                · show (validV p.1 && rowV (a :: l)) = true
                  rw [hv, e2]
                  rfl
                · rcases List.mem_cons.1 hx with rfl | hx
                  · exact hb
                  · exact e3 x hx
                · rw [jnV_cons, jt_cons, ← e4]
                  exact hR
      · rw [if_neg hp] at h
        cases h
theorem refGo_fmt : ∀ (l acc : List Val) (f : Nat), rowV l = true → rowBd l → l.length < f → refGo f (jnV l) acc = some (acc ++ l)
  | [], acc, f, hv, hb, hf => by
    obtain ⟨f, rfl⟩ : ∃ g, f = g + 1 := ⟨f - 1, by simp at hf; omega⟩
    rw [refGo, if_pos (show jnV [] = [] from rfl), List.append_nil]
  | v :: l, acc, f, hv, hb, hf => by
    obtain ⟨f, rfl⟩ : ∃ g, f = g + 1 := ⟨f - 1, by simp at hf; omega⟩
    have hv1 : validV v = true := List.all_eq_true.1 hv v (by simp)
    have hv2 : rowV l = true := List.all_eq_true.2 fun x hx => List.all_eq_true.1 hv x (by simp [hx])
    have hb1 := hb v (by simp)
    have ih := refGo_fmt l (acc ++ [v]) f hv2 (fun a ha => hb a (by simp [ha])) (by simp at hf; omega)
    obtain ⟨c, t, hc⟩ := fmt_ne hv1
    have hT : Lib.joinTail [44, 32] (l.map fun v => (fmtV v).data.toList) = [] ∨ (Lib.joinTail [44, 32] (l.map fun v => (fmtV v).data.toList)).head? = some 44 := by
      cases l with
      | nil => exact .inl rfl
      | cons a l => exact .inr (by rw [jt_cons]; rfl)
    rw [jnV_cons, refGo, if_neg (by rw [hc]; simp), refScan_fmt hv1 _ hT, List.take_left, List.drop_left, fmtL, prs_of v hv1 hb1.1 hb1.2]
    rw [if_pos rfl]
    cases l with
    | nil =>
      rw [if_pos (show Lib.joinTail [44, 32] ([].map fun v => (fmtV v).data.toList) = [] from rfl)]
      rw [show jnV [] = [] from rfl] at ih
      rw [ih, List.append_assoc]
      rfl
    | cons a l =>
      have ha : validV a = true := List.all_eq_true.1 hv2 a (by simp)
      obtain ⟨c', t', hc'⟩ := fmt_ne ha
      rw [jt_cons, if_neg (by simp), if_neg]
      · rw [show List.drop 2 (44 :: 32 :: jnV (a :: l)) = jnV (a :: l) from rfl, ih, List.append_assoc]
        rfl
      · rw [not_or]
        refine ⟨?_, by simp⟩
        rw [jnV_cons, hc']
        simp only [List.length_cons, List.length_append]
        omega
theorem jn_short : ∀ (l : List Val), rowV l = true → l.length ≤ (jnV l).length
  | [], _ => Nat.zero_le _
  | v :: l, h => by
    obtain ⟨c, t, hc⟩ := fmt_ne (List.all_eq_true.1 h v (by simp) : validV v = true)
    have := tail_len l
    rw [jnV_cons, hc]
    simp only [List.length_cons, List.length_append]
    omega
theorem refRow_rowOf (s : ByteArray) : refRow s.data.toList = rowOf s := by
  cases hr : rowOf s with
  | some r =>
    obtain ⟨hv, hb, rfl⟩ := rowOf_ok hr
    have hL := row_list hv
    rw [hL]
    unfold refRow
    have hx : (40 :: (jnV r ++ [41])).length = (jnV r).length + 2 := by simp
    rw [if_neg (by
      rw [hx]
      rintro (h | h | h)
      · omega
      · exact h rfl
      · exact h (by rw [show (40 : UInt8) :: (jnV r ++ [41]) = (40 :: jnV r) ++ [41] from rfl, List.getLast?_append]; rfl))]
    rw [List.drop_succ_cons, List.drop_zero, List.dropLast_append_of_ne_nil (by simp)]
    rw [show jnV r ++ [41].dropLast = jnV r by simp]
    have := jn_short r hv
    rw [refGo_fmt r [] _ hv hb (by rw [hx]; omega), List.nil_append]
  | none =>
    cases hc : refRow s.data.toList with
    | none => rfl
    | some r =>
      exfalso
      unfold refRow at hc
      split at hc
      · cases hc
      · rename_i h
        obtain ⟨h1, h2⟩ := not_or.1 h
        obtain ⟨h2, h3⟩ := not_or.1 h2
        obtain ⟨l, e1, e2, e3, e4⟩ := refGo_some _ _ _ _ hc
        rw [List.nil_append] at e1
        subst e1
        have hs : fmtRow r = s := by
          apply t_inj
          rw [row_list e2]
          show 40 :: (jnV r ++ [41]) = s.data.toList
          rw [← e4]
          have k2 := Decidable.not_not.1 h2
          have k3 := Decidable.not_not.1 h3
          generalize s.data.toList = t at *
          cases t with
          | nil => cases k2
          | cons c t =>
            have : c = 40 := by simpa using k2
            subst this
            have ht : t ≠ [] := by
              rintro rfl
              exact h1 (by decide)
            rw [List.drop_succ_cons, List.drop_zero]
            congr 1
            rw [List.getLast?_cons] at k3
            have k4 : t.getLast ht = 41 := by
              rw [List.getLast?_eq_some_getLast ht] at k3
              simpa using k3
            rw [← k4, List.dropLast_concat_getLast]
        have := rowOf_fmt e2 e3
        rw [hs, hr] at this
        cases this
end Go.Proofs.YtdjdhkbomhendaaGreatDoor
namespace Go.Proofs.YtdjdhkbomhendaaGreatDoor
open Go.RowKit
set_option linter.unusedVariables false
set_option maxHeartbeats 400000

/-- the text up to the first c, what follows it, and whether there is one -/
def cutW (c : UInt8) : List UInt8 → List UInt8 × List UInt8 × Bool
  | [] => ([], [], false)
  | x :: r => if x = c then ([], r, true) else (x :: (cutW c r).1, (cutW c r).2.1, (cutW c r).2.2)
theorem cutW_app (c : UInt8) (rest : List UInt8) : ∀ w : List UInt8, c ∉ w → cutW c (w ++ c :: rest) = (w, rest, true)
  | [], _ => by rw [List.nil_append, cutW, if_pos rfl]
  | x :: w, h => by
    have hx : x ≠ c := fun e => h (by simp [e])
    rw [List.cons_append, cutW, if_neg hx, cutW_app c rest w fun hc => h (by simp [hc])]
theorem cutW_none (c : UInt8) : ∀ w : List UInt8, c ∉ w → cutW c w = (w, [], false)
  | [], _ => rfl
  | x :: w, h => by
    have hx : x ≠ c := fun e => h (by simp [e])
    rw [cutW, if_neg hx, cutW_none c w fun hc => h (by simp [hc])]
theorem cutW_cases (c : UInt8) : ∀ l : List UInt8, (c ∉ l ∧ cutW c l = (l, [], false)) ∨ ∃ w r, c ∉ w ∧ l = w ++ c :: r ∧ cutW c l = (w, r, true)
  | [] => .inl ⟨by simp, rfl⟩
  | x :: l => by
    by_cases hx : x = c
    · subst hx
      exact .inr ⟨[], l, by simp, rfl, by rw [cutW, if_pos rfl]⟩
    · rcases cutW_cases c l with ⟨h1, h2⟩ | ⟨w, r, h1, h2, h3⟩
      · refine .inl ⟨fun h => ?_, by rw [cutW, if_neg hx, h2]⟩
        rcases List.mem_cons.1 h with h | h
        · exact hx h.symm
        · exact h1 h
      · refine .inr ⟨x :: w, r, fun h => ?_, by rw [h2]; rfl, by rw [cutW, if_neg hx, h3]⟩
        rcases List.mem_cons.1 h with h | h
        · exact hx h.symm
        · exact h1 h
theorem idx1_none (c : UInt8) : ∀ l : List UInt8, c ∉ l → Lib.index l [c] = -1
  | [], _ => rfl
  | x :: l, h => by
    have hx : x ≠ c := fun e => h (by simp [e])
    rw [Lib.index, if_neg (by simp [List.isPrefixOf, Ne.symm hx]), idx1_none c l fun hc => h (by simp [hc])]
    rfl
theorem idx1_at (c : UInt8) (r : List UInt8) : ∀ w : List UInt8, c ∉ w → Lib.index (w ++ c :: r) [c] = w.length
  | [], _ => by rw [List.nil_append, Lib.index, if_pos (by simp [List.isPrefixOf])]; rfl
  | x :: w, h => by
    have hx : x ≠ c := fun e => h (by simp [e])
    rw [List.cons_append, Lib.index, if_neg (by simp [List.isPrefixOf, Ne.symm hx]), idx1_at c r w fun hc => h (by simp [hc])]
    have : ((w.length : Int) == -1) = false := by simp
    rw [this]
    simp
theorem cut_cutW (c : UInt8) (l : List UInt8) : Lib.cut l [c] = cutW c l := by
  rcases cutW_cases c l with ⟨h1, h2⟩ | ⟨w, r, h1, rfl, h3⟩
  · rw [h2, Lib.cut, idx1_none c l h1]
    rfl
  · rw [h3, Lib.cut, idx1_at c r w h1, if_pos (by omega)]
    rw [Int.toNat_natCast, List.take_left, List.length_singleton, ← List.drop_drop, List.drop_left]
    rfl
/-- the pieces of a text, at most n + 1 -/
def splitW (c : UInt8) : Nat → List UInt8 → List (List UInt8)
  | 0, l => [l]
  | n + 1, l => if (cutW c l).2.2 = true then (cutW c l).1 :: splitW c n (cutW c l).2.1 else [l]
theorem splitK_W (c : UInt8) : ∀ (n : Nat) (l : List UInt8), Lib.splitK [c] 0 n l = splitW c n l
  | 0, l => rfl
  | n + 1, l => by
    rcases cutW_cases c l with ⟨h1, h2⟩ | ⟨w, r, h1, rfl, h3⟩
    · rw [splitW, h2, Lib.splitK, idx1_none c l h1]
      rfl
    · rw [splitW, h3, Lib.splitK, idx1_at c r w h1, if_neg (by simp), if_pos rfl, ← splitK_W c n]
      rw [Int.toNat_natCast, Nat.add_zero, List.take_left, List.length_singleton, ← List.drop_drop, List.drop_left]
      rfl
theorem splitW_join (c : UInt8) : ∀ (n : Nat) (l : List UInt8), Lib.join (splitW c n l) [c] = l ∧ ∃ a r, splitW c n l = a :: r
  | 0, l => ⟨by rw [splitW, Lib.join_one], _, _, rfl⟩
  | n + 1, l => by
    rcases cutW_cases c l with ⟨h1, h2⟩ | ⟨w, r, h1, rfl, h3⟩
    · rw [splitW, h2]
      exact ⟨Lib.join_one _ _, _, _, rfl⟩
    · rw [splitW, h3, if_pos rfl]
      obtain ⟨i1, a, t, i2⟩ := splitW_join c n r
      refine ⟨?_, _, _, rfl⟩
      rw [i2, Lib.join_cons] at i1
      rw [i2, Lib.join_cons]
      have : Lib.joinTail [c] (a :: t) = c :: (a ++ Lib.joinTail [c] t) := by simp [Lib.joinTail]
      rw [this, i1]
/-- words without the separator (the last one may hold it, if the count ends there) are found again -/
theorem splitW_words (c : UInt8) : ∀ (n : Nat) (a : List UInt8) (r : List (List UInt8)), (∀ w ∈ a :: r, c ∉ w) → r.length ≤ n → splitW c n (Lib.join (a :: r) [c]) = a :: r
  | n, a, [], h, hn => by
    rw [Lib.join_one]
    cases n with
    | zero => rfl
    | succ n =>
      rw [splitW, cutW_none c a (h a (by simp))]
      rfl
  | 0, a, b :: r, h, hn => by simp at hn
  | n + 1, a, b :: r, h, hn => by
    have : Lib.join (a :: b :: r) [c] = a ++ c :: Lib.join (b :: r) [c] := by rw [Lib.join_cons, Lib.join_cons]; simp [Lib.joinTail]
    rw [this, splitW, cutW_app c _ a (h a (by simp)), if_pos rfl, splitW_words c n b r (fun w hw => h w (by simp at hw; simp; right; exact hw)) (by simp at hn; omega)]
/-- three words, and a rest that may hold anything -/
theorem splitW_three (a b d e : List UInt8) (c : UInt8) (ha : c ∉ a) (hb : c ∉ b) (hd : c ∉ d) : splitW c 3 (a ++ c :: (b ++ c :: (d ++ c :: e))) = [a, b, d, e] := by
  rw [splitW, cutW_app c _ a ha, if_pos rfl, splitW, cutW_app c _ b hb, if_pos rfl, splitW, cutW_app c _ d hd, if_pos rfl]
  rfl
theorem count_join (c : UInt8) : ∀ (r : List (List UInt8)) (a : List UInt8), r.length ≤ (Lib.join (a :: r) [c]).count c
  | [], a => Nat.zero_le _
  | b :: r, a => by
    have := count_join c r b
    have e : Lib.join (a :: b :: r) [c] = a ++ c :: Lib.join (b :: r) [c] := by rw [Lib.join_cons, Lib.join_cons]; simp [Lib.joinTail]
    rw [e, List.count_append, List.count_cons_self, List.length_cons]
    omega
/-- all words of a line -/
def wordsW (l : List UInt8) : List (List UInt8) := splitW 32 (l.count 32) l
theorem wordsW_words (a : List UInt8) (r : List (List UInt8)) (h : ∀ w ∈ a :: r, (32 : UInt8) ∉ w) : wordsW (Lib.join (a :: r) [32]) = a :: r :=
  splitW_words 32 _ a r h (count_join 32 r a)
/-- the number with a decimal form -/
def numP (s : ByteArray) : Option Int := match Lib.parseIntB 64 s.data.toList with
  | .ok v => if 0 ≤ v ∧ itoB v = s then some v else none
  | _ => none
theorem numP_some {s : ByteArray} {n : Int} : numP s = some n ↔ 0 ≤ n ∧ n ≤ 9223372036854775807 ∧ itoB n = s := by
  unfold numP
  constructor
  · intro h
    split at h
    · rename_i v hv
      split at h
      · rename_i h1
        obtain rfl := Option.some.inj h
        exact ⟨h1.1, (ok_bd hv).2, h1.2⟩
      · cases h
    · cases h
  · rintro ⟨h0, h1, rfl⟩
    have : Lib.parseIntB 64 (itoB n).data.toList = .ok n := pi_itoa n (by omega) h1
    rw [this]
    exact if_pos ⟨h0, rfl⟩
theorem itoB_inj {m n : Int} (hm : -9223372036854775808 ≤ m ∧ m ≤ 9223372036854775807) (hn : -9223372036854775808 ≤ n ∧ n ≤ 9223372036854775807) (h : itoB m = itoB n) : m = n := by
  have h1 : Lib.parseIntB 64 (itoB m).data.toList = .ok m := pi_itoa m hm.1 hm.2
  have h2 : Lib.parseIntB 64 (itoB n).data.toList = .ok n := pi_itoa n hn.1 hn.2
  rw [h, h2] at h1
  injection h1 with h1
  exact h1.symm
end Go.Proofs.YtdjdhkbomhendaaGreatDoor
namespace Go.Proofs.YtdjdhkbomhendaaGreatDoor
open Go.RowKit
set_option linter.unusedVariables false
set_option maxHeartbeats 400000

def chk (e : Ev) : Ev := if e.kd = 2 then { e with wts := [⟨1, 0, [⟨0, 0, ⟨#[]⟩⟩]⟩] } else e
/-- a valid event without its reasons and rows -/
def okE (e : Ev) : Prop := 1 ≤ e.kd ∧ e.kd ≤ 13 ∧ (11 ≤ e.kd → e.ss = 0 ∧ e.tx = 0 ∧ e.st = 0 ∧ e.er = 0 ∧ e.ct = 0) ∧
  (e.kd < 11 → 0 ≤ e.ss ∧ e.ss < 8 ∧ 1 ≤ e.tx ∧ 0 ≤ e.st ∧ (e.kd = 7 ∨ e.kd = 10 → 1 ≤ e.er ∧ e.er ≤ 17) ∧ (e.kd ≠ 7 → e.kd ≠ 10 → e.er = 0) ∧ 0 ≤ e.ct ∧ (e.kd ≠ 5 → e.ct = 0))
theorem chk_wait : Wt.ok ⟨1, 0, [⟨0, 0, ⟨#[]⟩⟩]⟩ = true := by decide
theorem chk_ok {e : Ev} (hr : e.rows = []) (hw : e.wts = []) : (chk e).ok = true ↔ okE e := by
  obtain ⟨kd, ss, tx, st, er, ct, rows, wts⟩ := e
  dsimp only at hr hw
  subst hr
  subst hw
  unfold chk okE
  dsimp only
  by_cases h2 : kd = 2
  · subst h2
    rw [if_pos rfl]
    simp [Ev.ok, chk_wait]
    omega
  · rw [if_neg h2]
    unfold Ev.ok Ev.bare
    dsimp only
    by_cases h3 : kd < 1 ∨ 13 < kd
    · rw [if_pos h3]
      constructor
      · intro h; cases h
      · rintro ⟨h, h', _⟩; omega
    · rw [if_neg h3]
      by_cases h4 : 11 ≤ kd
      · rw [if_pos h4]
        simp
        omega
      · rw [if_neg h4]
        have h2' : (kd == 2) = false := by simp [h2]
        by_cases h7 : kd = 7
        · subst h7
          simp
          omega
        · by_cases h10 : kd = 10
          · subst h10
            simp
            omega
          · have h7' : (kd == 7) = false := by simp [h7]
            have h10' : (kd == 10) = false := by simp [h10]
            by_cases h5 : kd = 5
            · subst h5
              simp
              omega
            · have h5' : (kd != 5) = true := by simp [h5]
              simp [h2', h7', h10', h5']
              omega
def kindOf (w : List UInt8) : Int :=
  if w = (kwB 1).data.toList then 1 else if w = (kwB 2).data.toList then 2 else if w = (kwB 3).data.toList then 3 else if w = (kwB 4).data.toList then 4 else if w = (kwB 5).data.toList then 5
  else if w = (kwB 6).data.toList then 6 else if w = (kwB 7).data.toList then 7 else if w = (kwB 8).data.toList then 8 else if w = (kwB 9).data.toList then 9 else if w = (kwB 10).data.toList then 10
  else if w = (kwB 11).data.toList then 11 else if w = (kwB 12).data.toList then 12 else if w = (kwB 13).data.toList then 13 else 0
theorem kindOf_kw {k : Int} (h0 : 1 ≤ k) (h1 : k ≤ 13) : kindOf (kwB k).data.toList = k := by
  have : k = 1 ∨ k = 2 ∨ k = 3 ∨ k = 4 ∨ k = 5 ∨ k = 6 ∨ k = 7 ∨ k = 8 ∨ k = 9 ∨ k = 10 ∨ k = 11 ∨ k = 12 ∨ k = 13 := by omega
  rcases this with rfl | rfl | rfl | rfl | rfl | rfl | rfl | rfl | rfl | rfl | rfl | rfl | rfl <;> decide
theorem kindOf_some {w : List UInt8} (h : 1 ≤ kindOf w) : (kwB (kindOf w)).data.toList = w ∧ kindOf w ≤ 13 := by
  by_cases e1 : w = (kwB 1).data.toList
  · rw [e1, kindOf_kw (by decide) (by decide)]
    exact ⟨rfl, by decide⟩
  by_cases e2 : w = (kwB 2).data.toList
  · rw [e2, kindOf_kw (by decide) (by decide)]
    exact ⟨rfl, by decide⟩
  by_cases e3 : w = (kwB 3).data.toList
  · rw [e3, kindOf_kw (by decide) (by decide)]
    exact ⟨rfl, by decide⟩
  by_cases e4 : w = (kwB 4).data.toList
  · rw [e4, kindOf_kw (by decide) (by decide)]
    exact ⟨rfl, by decide⟩
  by_cases e5 : w = (kwB 5).data.toList
  · rw [e5, kindOf_kw (by decide) (by decide)]
    exact ⟨rfl, by decide⟩
  by_cases e6 : w = (kwB 6).data.toList
  · rw [e6, kindOf_kw (by decide) (by decide)]
    exact ⟨rfl, by decide⟩
  by_cases e7 : w = (kwB 7).data.toList
  · rw [e7, kindOf_kw (by decide) (by decide)]
    exact ⟨rfl, by decide⟩
  by_cases e8 : w = (kwB 8).data.toList
  · rw [e8, kindOf_kw (by decide) (by decide)]
    exact ⟨rfl, by decide⟩
  by_cases e9 : w = (kwB 9).data.toList
  · rw [e9, kindOf_kw (by decide) (by decide)]
    exact ⟨rfl, by decide⟩
  by_cases e10 : w = (kwB 10).data.toList
  · rw [e10, kindOf_kw (by decide) (by decide)]
    exact ⟨rfl, by decide⟩
  by_cases e11 : w = (kwB 11).data.toList
  · rw [e11, kindOf_kw (by decide) (by decide)]
    exact ⟨rfl, by decide⟩
  by_cases e12 : w = (kwB 12).data.toList
  · rw [e12, kindOf_kw (by decide) (by decide)]
    exact ⟨rfl, by decide⟩
  by_cases e13 : w = (kwB 13).data.toList
  · rw [e13, kindOf_kw (by decide) (by decide)]
    exact ⟨rfl, by decide⟩
  exfalso
  rw [kindOf, if_neg e1, if_neg e2, if_neg e3, if_neg e4, if_neg e5, if_neg e6, if_neg e7, if_neg e8, if_neg e9, if_neg e10, if_neg e11, if_neg e12, if_neg e13] at h
  exact absurd h (by decide)
/-- how many numbers follow the name of a kind -/
def numK (k : Int) : Nat := if 11 ≤ k then 0 else if k = 5 ∨ k = 7 ∨ k = 10 then 4 else 3
def allN : List (List UInt8) → Option (List Int)
  | [] => some []
  | w :: r => match numP ⟨w.toArray⟩ with
    | none => none
    | some n => match allN r with
      | none => none
      | some l => some (n :: l)
def mkE (k : Int) (l : List Int) : Ev := ⟨k, l.getD 0 0, l.getD 1 0, l.getD 2 0, if k = 5 then 0 else l.getD 3 0, if k = 5 then l.getD 3 0 else 0, [], []⟩
def hdrP (l : List UInt8) : Option Ev :=
  match wordsW l with
  | [] => none
  | w :: r => if 1 ≤ kindOf w ∧ r.length = numK (kindOf w) then
      match allN r with
      | none => none
      | some ns => if (chk (mkE (kindOf w) ns)).ok = true then some (mkE (kindOf w) ns) else none
    else none
def numsOf (e : Ev) : List Int := (if e.kd < 11 then [e.ss, e.tx, e.st] else []) ++ (if e.kd = 5 then [e.ct] else []) ++ (if e.er = 0 then [] else [e.er])
theorem head_join (e : Ev) : e.head.data.toList = Lib.join ((kwB e.kd).data.toList :: (numsOf e).map fun n => (itoB n).data.toList) [32] := by
  rw [Lib.join_cons]
  unfold Ev.head numsOf
  by_cases h1 : e.kd < 11 <;> by_cases h2 : e.kd = 5 <;> by_cases h3 : e.er = 0 <;> simp [h1, h2, h3, spN, Lib.joinTail, ByteArray.data_append]
theorem allN_some : ∀ (r : List (List UInt8)) (ns : List Int), allN r = some ns → r = ns.map (fun n => (itoB n).data.toList) ∧ ∀ n ∈ ns, 0 ≤ n ∧ n ≤ 9223372036854775807
  | [], ns, h => by
    obtain rfl := Option.some.inj h
    exact ⟨rfl, fun n hn => by cases hn⟩
  | w :: r, ns, h => by
    rw [allN] at h
    split at h
    · cases h
    · rename_i n hn
      split at h
      · cases h
      · rename_i l hl
        obtain rfl := Option.some.inj h
        obtain ⟨h1, h2⟩ := allN_some r l hl
        obtain ⟨k0, k1, k2⟩ := numP_some.1 hn
        refine ⟨by rw [List.map_cons, ← h1, k2], fun m hm => ?_⟩
        rcases List.mem_cons.1 hm with rfl | hm
        · exact ⟨k0, k1⟩
        · exact h2 m hm
theorem allN_map : ∀ ns : List Int, (∀ n ∈ ns, 0 ≤ n ∧ n ≤ 9223372036854775807) → allN (ns.map fun n => (itoB n).data.toList) = some ns
  | [], _ => rfl
  | n :: ns, h => by
    have h1 := h n (by simp)
    have : numP ⟨(itoB n).data.toList.toArray⟩ = some n := numP_some.2 ⟨h1.1, h1.2, by apply t_inj; rfl⟩
    rw [List.map_cons, allN, this, allN_map ns fun m hm => h m (by simp [hm])]
theorem allN_length : ∀ (r : List (List UInt8)) (ns : List Int), allN r = some ns → ns.length = r.length := fun r ns h => by
  rw [(allN_some r ns h).1, List.length_map]
/-- the upper bounds of the numbers -/
def Ev.hi (e : Ev) : Prop := e.ss ≤ 9223372036854775807 ∧ e.tx ≤ 9223372036854775807 ∧ e.st ≤ 9223372036854775807 ∧ e.er ≤ 9223372036854775807 ∧ e.ct ≤ 9223372036854775807
theorem nums_mk {k : Int} {ns : List Int} (hl : ns.length = numK k) (h : okE (mkE k ns)) : numsOf (mkE k ns) = ns := by
  obtain ⟨h1, h2, h3, h4⟩ := h
  change 1 ≤ k at h1
  change k ≤ 13 at h2
  unfold numK at hl
  by_cases k11 : 11 ≤ k
  · rw [if_pos k11] at hl
    obtain rfl := List.eq_nil_of_length_eq_zero hl
    unfold numsOf mkE
    simp
    omega
  · rw [if_neg k11] at hl
    have h5 := h4 (show k < 11 by omega)
    by_cases k4 : k = 5 ∨ k = 7 ∨ k = 10
    · rw [if_pos k4] at hl
      match ns, hl, h5 with
      | [a, b, c, d], hl, h5 =>
        unfold numsOf mkE
        rcases k4 with rfl | rfl | rfl
        · simp
        · have : 1 ≤ d := (h5.2.2.2.2.1 (.inl rfl)).1
          simp
          omega
        · have : 1 ≤ d := (h5.2.2.2.2.1 (.inr rfl)).1
          simp
          omega
    · rw [if_neg k4] at hl
      match ns, hl with
      | [a, b, c], hl =>
        unfold numsOf mkE
        have k5 : k ≠ 5 := fun e => k4 (.inl e)
        have k10 : k < 11 := by omega
        simp [k5, k10]
theorem mk_nums {e : Ev} (hr : e.rows = []) (hw : e.wts = []) (h : okE e) : mkE e.kd (numsOf e) = e ∧ (numsOf e).length = numK e.kd := by
  obtain ⟨kd, ss, tx, st, er, ct, rows, wts⟩ := e
  dsimp only at hr hw
  subst hr
  subst hw
  obtain ⟨h1, h2, h3, h4⟩ := h
  dsimp only at h1 h2 h3 h4
  unfold numsOf mkE numK
  dsimp only
  by_cases k11 : 11 ≤ kd
  · obtain ⟨rfl, rfl, rfl, rfl, rfl⟩ := h3 k11
    have a1 : ¬ kd < 11 := by omega
    have a2 : kd ≠ 5 := by omega
    simp [a1, a2, k11]
  · obtain ⟨b1, b2, b3, b4, b5, b6, b7, b8⟩ := h4 (by omega)
    have a1 : kd < 11 := by omega
    by_cases k5 : kd = 5
    · subst k5
      have := b6 (by decide) (by decide)
      subst this
      simp
    · have := b8 k5
      subst this
      by_cases k7 : kd = 7 ∨ kd = 10
      · have := (b5 k7).1
        have a3 : er ≠ 0 := by omega
        simp [a1, k5, k7, k11, a3]
      · have := b6 (fun e => k7 (.inl e)) (fun e => k7 (.inr e))
        subst this
        simp [a1, k5, k7, k11]
theorem nums_no (n : Int) : (32 : UInt8) ∉ (itoB n).data.toList := fun h => (num_stop (n := n) h).2.2.2.1 rfl
theorem kw_no {k : Int} (h0 : 1 ≤ k) (h1 : k ≤ 13) : (32 : UInt8) ∉ (kwB k).data.toList := by
  have : k = 1 ∨ k = 2 ∨ k = 3 ∨ k = 4 ∨ k = 5 ∨ k = 6 ∨ k = 7 ∨ k = 8 ∨ k = 9 ∨ k = 10 ∨ k = 11 ∨ k = 12 ∨ k = 13 := by omega
  rcases this with rfl | rfl | rfl | rfl | rfl | rfl | rfl | rfl | rfl | rfl | rfl | rfl | rfl <;> decide
theorem hdrP_some {l : List UInt8} {e : Ev} (h : hdrP l = some e) : okE e ∧ e.rows = [] ∧ e.wts = [] ∧ e.hi ∧ e.head.data.toList = l := by
  obtain ⟨hj, w, r, hw⟩ := splitW_join 32 (l.count 32) l
  change wordsW l = w :: r at hw
  change Lib.join (wordsW l) [32] = l at hj
  unfold hdrP at h
  rw [hw] at h hj
  dsimp only at h
  split at h
  · rename_i h1
    split at h
    · cases h
    · rename_i ns hn
      split at h
      · rename_i hok
        obtain rfl := Option.some.inj h
        have hE := (chk_ok (e := mkE (kindOf w) ns) rfl rfl).1 hok
        obtain ⟨a1, a2⟩ := allN_some _ _ hn
        have a3 := nums_mk (by rw [allN_length _ _ hn]; exact h1.2) hE
        obtain ⟨b1, b2⟩ := kindOf_some h1.1
        refine ⟨hE, rfl, rfl, ?_, ?_⟩
        · have hg : ∀ j, ns.getD j 0 ≤ 9223372036854775807 := fun j => by
            rw [List.getD_eq_getElem?_getD]
            cases hc : ns[j]? with
            | none => show (0 : Int) ≤ _; omega
            | some x => exact (a2 x (List.mem_of_getElem? hc)).2
          refine ⟨hg 0, hg 1, hg 2, ?_, ?_⟩
          · show (if kindOf w = 5 then 0 else ns.getD 3 0) ≤ _
            split
            · omega
            · exact hg 3
          · show (if kindOf w = 5 then ns.getD 3 0 else 0) ≤ _
            split
            · exact hg 3
            · omega
        · rw [head_join, a3, ← a1]
          show Lib.join ((kwB (kindOf w)).data.toList :: r) [32] = l
          rw [b1, hj]
      · cases h
  · cases h
theorem hdrP_head {e : Ev} (h : okE e) (hr : e.rows = []) (hw : e.wts = []) (hb : e.hi) : hdrP e.head.data.toList = some e := by
  obtain ⟨m1, m2⟩ := mk_nums hr hw h
  have hW : wordsW e.head.data.toList = (kwB e.kd).data.toList :: (numsOf e).map fun n => (itoB n).data.toList := by
    rw [head_join]
    refine wordsW_words _ _ fun w hw => ?_
    rcases List.mem_cons.1 hw with rfl | hw
    · exact kw_no h.1 h.2.1
    · rw [List.mem_map] at hw
      obtain ⟨n, _, rfl⟩ := hw
      exact nums_no n
  unfold hdrP
  rw [hW]
  dsimp only
  have hN : ∀ n ∈ numsOf e, 0 ≤ n ∧ n ≤ 9223372036854775807 := by
    obtain ⟨h1, h2, h3, h4⟩ := h
    obtain ⟨g1, g2, g3, g4, g5⟩ := hb
    intro n hn
    unfold numsOf at hn
    by_cases k11 : e.kd < 11
    · have := h4 k11
      rw [if_pos k11] at hn
      simp only [List.mem_append, List.mem_cons, List.not_mem_nil, or_false] at hn
      rcases hn with ((rfl | rfl | rfl) | hn) | hn
      · omega
      · omega
      · omega
      · split at hn
        · rw [List.mem_singleton] at hn; omega
        · cases hn
      · split at hn
        · cases hn
        · rw [List.mem_singleton] at hn; omega
    · have := h3 (by omega)
      rw [if_neg k11, if_neg (by omega), if_pos this.2.2.2.1] at hn
      cases hn
  rw [kindOf_kw h.1 h.2.1, if_pos ⟨h.1, by rw [List.length_map, m2]⟩, allN_map _ hN]
  dsimp only
  rw [m1, if_pos ((chk_ok hr hw).2 h)]
end Go.Proofs.YtdjdhkbomhendaaGreatDoor
namespace Go.Proofs.YtdjdhkbomhendaaGreatDoor
open Go.RowKit
set_option linter.unusedVariables false
set_option linter.unusedSimpArgs false
set_option maxHeartbeats 400000

/-- the reference: the numbers of a line -/
def refNums : Nat → List UInt8 → Option (List Int)
  | 0, _ => none
  | f + 1, rest =>
    if rest = [] then some []
    else match numP ⟨(cutW 32 rest).1.toArray⟩ with
      | none => none
      | some n => match refNums f (cutW 32 rest).2.1 with
        | none => none
        | some l => some (n :: l)
def refE (k : Int) (l : List Int) : Ev :=
  ⟨k, if k < 11 ∧ 3 ≤ l.length then l.getD 0 0 else 0, if k < 11 ∧ 3 ≤ l.length then l.getD 1 0 else 0, if k < 11 ∧ 3 ≤ l.length then l.getD 2 0 else 0,
   if l.length = 4 ∧ (k = 7 ∨ k = 10) ∧ l.getD 3 0 < 18 then l.getD 3 0 else 0, if l.length = 4 ∧ k = 5 then l.getD 3 0 else 0, [], []⟩
def refHdr (l : List UInt8) : Option Ev :=
  match refNums (l.length + 1) (cutW 32 l).2.1 with
  | none => none
  | some ns => if kindOf (cutW 32 l).1 < 11 ∧ 3 ≤ ns.length ∧ 7 < ns.getD 0 0 then none
    else if (chk (refE (kindOf (cutW 32 l).1) ns)).ok = true ∧ (refE (kindOf (cutW 32 l).1) ns).head.data.toList = l then some (refE (kindOf (cutW 32 l).1) ns) else none
theorem refNums_bd : ∀ (f : Nat) (r : List UInt8) (ns : List Int), refNums f r = some ns → ∀ n ∈ ns, 0 ≤ n ∧ n ≤ 9223372036854775807
  | 0, r, ns, h => by cases h
  | f + 1, r, ns, h => by
    rw [refNums] at h
    split at h
    · obtain rfl := Option.some.inj h
      intro n hn; cases hn
    · split at h
      · cases h
      · rename_i n hn
        split at h
        · cases h
        · rename_i l hl
          obtain rfl := Option.some.inj h
          obtain ⟨k0, k1, _⟩ := numP_some.1 hn
          intro m hm
          rcases List.mem_cons.1 hm with rfl | hm
          · exact ⟨k0, k1⟩
          · exact refNums_bd f _ l hl m hm
theorem cut_join (a : List UInt8) (r : List (List UInt8)) (h : (32 : UInt8) ∉ a) : (cutW 32 (Lib.join (a :: r) [32])).1 = a ∧ (cutW 32 (Lib.join (a :: r) [32])).2.1 = Lib.join r [32] := by
  cases r with
  | nil => rw [Lib.join_one, cutW_none 32 a h]; exact ⟨rfl, rfl⟩
  | cons b r =>
    have e : Lib.join (a :: b :: r) [32] = a ++ 32 :: Lib.join (b :: r) [32] := by rw [Lib.join_cons, Lib.join_cons]; simp [Lib.joinTail]
    rw [e, cutW_app 32 _ a h]
    exact ⟨rfl, rfl⟩
theorem refNums_map : ∀ (ns : List Int) (f : Nat), (∀ n ∈ ns, 0 ≤ n ∧ n ≤ 9223372036854775807) → ns.length < f → refNums f (Lib.join (ns.map fun n => (itoB n).data.toList) [32]) = some ns
  | [], f, h, hf => by
    obtain ⟨f, rfl⟩ : ∃ g, f = g + 1 := ⟨f - 1, by simp at hf; omega⟩
    rw [List.map_nil, refNums, if_pos (show Lib.join [] [32] = [] from rfl)]
  | n :: ns, f, h, hf => by
    obtain ⟨f, rfl⟩ : ∃ g, f = g + 1 := ⟨f - 1, by simp at hf; omega⟩
    have h1 := h n (by simp)
    have hn : numP ⟨(itoB n).data.toList.toArray⟩ = some n := numP_some.2 ⟨h1.1, h1.2, by apply t_inj; rfl⟩
    obtain ⟨c1, c2⟩ := cut_join (itoB n).data.toList (ns.map fun n => (itoB n).data.toList) (nums_no n)
    rw [List.map_cons, refNums, c1, c2, hn, refNums_map ns f (fun m hm => h m (by simp [hm])) (by simp at hf; omega)]
    rw [if_neg]
    obtain ⟨c, r, hc⟩ := itoa_cons n
    rw [Lib.join_cons]
    show Lib.itoa n ++ _ ≠ []
    rw [hc]
    simp
theorem head_nums {e : Ev} (h : okE e) (hb : e.hi) : ∀ n ∈ numsOf e, 0 ≤ n ∧ n ≤ 9223372036854775807 := by
  obtain ⟨h1, h2, h3, h4⟩ := h
  obtain ⟨g1, g2, g3, g4, g5⟩ := hb
  intro n hn
  unfold numsOf at hn
  by_cases k11 : e.kd < 11
  · have := h4 k11
    rw [if_pos k11] at hn
    simp only [List.mem_append, List.mem_cons, List.not_mem_nil, or_false] at hn
    rcases hn with ((rfl | rfl | rfl) | hn) | hn
    · omega
    · omega
    · omega
    · split at hn
      · rw [List.mem_singleton] at hn; omega
      · cases hn
    · split at hn
      · cases hn
      · rw [List.mem_singleton] at hn; omega
  · have := h3 (by omega)
    rw [if_neg k11, if_neg (by omega), if_pos this.2.2.2.1] at hn
    cases hn
theorem refE_nums {e : Ev} (hr : e.rows = []) (hw : e.wts = []) (h : okE e) : refE e.kd (numsOf e) = e ∧ ¬ (e.kd < 11 ∧ 3 ≤ (numsOf e).length ∧ 7 < (numsOf e).getD 0 0) := by
  obtain ⟨kd, ss, tx, st, er, ct, rows, wts⟩ := e
  dsimp only at hr hw
  subst hr
  subst hw
  obtain ⟨h1, h2, h3, h4⟩ := h
  dsimp only at h1 h2 h3 h4
  unfold numsOf refE
  dsimp only
  by_cases k11 : 11 ≤ kd
  · obtain ⟨rfl, rfl, rfl, rfl, rfl⟩ := h3 k11
    have a1 : ¬ kd < 11 := by omega
    have a2 : kd ≠ 5 := by omega
    simp [a1, a2, k11]
  · obtain ⟨b1, b2, b3, b4, b5, b6, b7, b8⟩ := h4 (by omega)
    have a1 : kd < 11 := by omega
    by_cases k5 : kd = 5
    · subst k5
      have := b6 (by decide) (by decide)
      subst this
      simp
      omega
    · have := b8 k5
      subst this
      by_cases k7 : kd = 7 ∨ kd = 10
      · have := b5 k7
        have a3 : er ≠ 0 := by omega
        have a4 : er < 18 := by omega
        simp [a1, k5, k7, k11, a3, a4]
        omega
      · have := b6 (fun e => k7 (.inl e)) (fun e => k7 (.inr e))
        subst this
        simp [a1, k5, k7, k11]
        omega
theorem nums_len (e : Ev) : (numsOf e).length ≤ 5 := by
  unfold numsOf
  split <;> split <;> split <;> simp
theorem refHdr_hdrP (l : List UInt8) : refHdr l = hdrP l := by
  cases hr : hdrP l with
  | some e =>
    obtain ⟨h1, h2, h3, h4, h5⟩ := hdrP_some hr
    subst h5
    obtain ⟨m1, m2⟩ := refE_nums h2 h3 h1
    obtain ⟨c1, c2⟩ := cut_join (kwB e.kd).data.toList ((numsOf e).map fun n => (itoB n).data.toList) (kw_no h1.1 h1.2.1)
    rw [← head_join] at c1 c2
    have hlen : (numsOf e).length < e.head.data.toList.length + 1 := by
      have := count_join 32 ((numsOf e).map fun n => (itoB n).data.toList) (kwB e.kd).data.toList
      rw [← head_join, List.length_map] at this
      have := List.count_le_length (a := (32 : UInt8)) (l := e.head.data.toList)
      omega
    unfold refHdr
    rw [c1, c2, refNums_map _ _ (head_nums h1 h4) hlen, kindOf_kw h1.1 h1.2.1]
    dsimp only
    rw [if_neg m2, m1, if_pos ⟨(chk_ok h2 h3).2 h1, rfl⟩]
  | none =>
    cases hc : refHdr l with
    | none => rfl
    | some e =>
      exfalso
      unfold refHdr at hc
      split at hc
      · cases hc
      · rename_i ns hn
        split at hc
        · cases hc
        · split at hc
          · rename_i h
            obtain rfl := Option.some.inj hc
            have hE := (chk_ok (e := refE (kindOf (cutW 32 l).1) ns) rfl rfl).1 h.1
            have a2 := refNums_bd _ _ _ hn
            have hg : ∀ j, ns.getD j 0 ≤ 9223372036854775807 := fun j => by
              rw [List.getD_eq_getElem?_getD]
              cases hc : ns[j]? with
              | none => show (0 : Int) ≤ _; omega
              | some x => exact (a2 x (List.mem_of_getElem? hc)).2
            have g0 := hg 0
            have g1 := hg 1
            have g2 := hg 2
            have g3 := hg 3
            have hH : (refE (kindOf (cutW 32 l).1) ns).hi := by
              refine ⟨?_, ?_, ?_, ?_, ?_⟩ <;> (unfold refE; dsimp only; split <;> omega)
            have := hdrP_head hE rfl rfl hH
            rw [h.2, hr] at this
            cases this
          · cases hc
end Go.Proofs.YtdjdhkbomhendaaGreatDoor
namespace Go.Proofs.YtdjdhkbomhendaaGreatDoor
open Go.RowKit
set_option linter.unusedVariables false
set_option linter.unusedSimpArgs false
set_option maxHeartbeats 400000

/-- the line of a reason, without its end -/
def Wt.txt (x : Wt) : ByteArray := ⟨#[102, 111, 114, 32]⟩ ++ itoB x.tx ++ ⟨#[32]⟩ ++ itoB x.tb ++ ⟨#[32]⟩ ++ fmtRow x.row
theorem line_txt (x : Wt) : x.line = x.txt ++ nlB := rfl
def rowTxt (r : List Val) : ByteArray := ⟨#[114, 111, 119, 32]⟩ ++ fmtRow r
theorem line_row (r : List Val) : rowLn r = rowTxt r ++ nlB := rfl
theorem line_head (e : Ev) : e.head ++ nlB = e.head ++ nlB := rfl
def forW : List UInt8 := [102, 111, 114]
def rowW : List UInt8 := [114, 111, 119]
theorem txt_list (x : Wt) : x.txt.data.toList = forW ++ 32 :: ((itoB x.tx).data.toList ++ 32 :: ((itoB x.tb).data.toList ++ 32 :: (fmtRow x.row).data.toList)) := by
  unfold Wt.txt
  simp only [ByteArray.data_append, Array.toList_append]
  show ([102, 111, 114, 32] ++ _ ++ [32] ++ _ ++ [32] ++ _ : List UInt8) = _
  simp [forW]
theorem rowTxt_list (r : List Val) : (rowTxt r).data.toList = rowW ++ 32 :: (fmtRow r).data.toList := by
  unfold rowTxt
  simp only [ByteArray.data_append, Array.toList_append]
  rfl
def mkW (b c : List UInt8) (d : List UInt8) : Option Wt :=
  match numP ⟨b.toArray⟩, numP ⟨c.toArray⟩, rowOf ⟨d.toArray⟩ with
  | some n, some k, some r => if Wt.ok ⟨n, min k 8, r⟩ = true then some ⟨n, min k 8, r⟩ else none
  | _, _, _ => none
/-- the program: the reason of a line -/
def rsnP (l : List UInt8) : Option Wt :=
  match splitW 32 (min 4 (l.length + 1) - 1) l with
  | [a, b, c, d] => if a = forW then mkW b c d else none
  | _ => none
def Wt.hi (x : Wt) : Prop := x.tx ≤ 9223372036854775807 ∧ rowBd x.row
theorem ok_wt {x : Wt} : x.ok = true ↔ 1 ≤ x.tx ∧ 0 ≤ x.tb ∧ x.tb < 8 ∧ x.row ≠ [] ∧ rowV x.row = true := by
  unfold Wt.ok
  simp only [Bool.and_eq_true, decide_eq_true_eq, List.length_pos_iff]
  constructor
  · rintro ⟨⟨⟨⟨a, b⟩, c⟩, d⟩, e⟩; exact ⟨a, b, c, d, e⟩
  · rintro ⟨a, b, c, d, e⟩; exact ⟨⟨⟨⟨a, b⟩, c⟩, d⟩, e⟩
theorem mkW_some {b c d : List UInt8} {x : Wt} (h : mkW b c d = some x) : x.ok = true ∧ x.hi ∧ (itoB x.tx).data.toList = b ∧ (itoB x.tb).data.toList = c ∧ (fmtRow x.row).data.toList = d := by
  unfold mkW at h
  split at h
  · rename_i n k r h1 h2 h3
    split at h
    · rename_i hok
      obtain rfl := Option.some.inj h
      obtain ⟨a1, a2, a3⟩ := numP_some.1 h1
      obtain ⟨b1, b2, b3⟩ := numP_some.1 h2
      obtain ⟨c1, c2, c3⟩ := rowOf_ok h3
      have ho := (ok_wt.1 hok).2.2.1
      dsimp only at ho
      have hk : min k 8 = k := by omega
      refine ⟨hok, ⟨a2, c2⟩, ?_, ?_, ?_⟩
      · show (itoB n).data.toList = b
        rw [a3]
      · show (itoB (min k 8)).data.toList = c
        rw [hk, b3]
      · show (fmtRow r).data.toList = d
        rw [c3]
    · cases h
  · cases h
theorem mkW_txt {x : Wt} (h : x.ok = true) (hb : x.hi) : mkW (itoB x.tx).data.toList (itoB x.tb).data.toList (fmtRow x.row).data.toList = some x := by
  obtain ⟨h1, h2, h3, h4, h5⟩ := ok_wt.1 h
  have e1 : numP ⟨(itoB x.tx).data.toList.toArray⟩ = some x.tx := numP_some.2 ⟨by omega, hb.1, by apply t_inj; rfl⟩
  have e2 : numP ⟨(itoB x.tb).data.toList.toArray⟩ = some x.tb := numP_some.2 ⟨by omega, by omega, by apply t_inj; rfl⟩
  have e3 : rowOf ⟨(fmtRow x.row).data.toList.toArray⟩ = some x.row := rowOf_fmt h5 hb.2
  unfold mkW
  rw [e1, e2, e3]
  have hk : min x.tb 8 = x.tb := by omega
  dsimp only
  rw [hk]
  exact if_pos h
theorem rsnP_some {l : List UInt8} {x : Wt} (h : rsnP l = some x) : x.ok = true ∧ x.hi ∧ x.txt.data.toList = l := by
  unfold rsnP at h
  have hj := (splitW_join 32 (min 4 (l.length + 1) - 1) l).1
  split at h
  · rename_i a b c d hs
    split at h
    · rename_i ha
      obtain ⟨h1, h2, h3, h4, h5⟩ := mkW_some h
      refine ⟨h1, h2, ?_⟩
      rw [hs] at hj
      rw [txt_list, h3, h4, h5, ← ha, ← hj, Lib.join_cons]
      simp [Lib.joinTail]
    · cases h
  · cases h
theorem rsnP_txt {x : Wt} (h : x.ok = true) (hb : x.hi) : rsnP x.txt.data.toList = some x := by
  unfold rsnP
  have hl : min 4 (x.txt.data.toList.length + 1) - 1 = 3 := by
    rw [txt_list]
    simp only [List.length_append, List.length_cons]
    omega
  rw [hl, txt_list, splitW_three _ _ _ _ 32 (by decide) (nums_no _) (nums_no _)]
  dsimp only
  rw [if_pos rfl, mkW_txt h hb]
/-- the reference: the reason of a line -/
def refRsn (l : List UInt8) : Option Wt :=
  if (cutW 32 l).1 = forW then
    match numP ⟨(cutW 32 (cutW 32 l).2.1).1.toArray⟩, numP ⟨(cutW 32 (cutW 32 (cutW 32 l).2.1).2.1).1.toArray⟩, refRow (cutW 32 (cutW 32 (cutW 32 l).2.1).2.1).2.1 with
    | some n, some k, some r => if n < 1 ∨ 7 < k ∨ r.length = 0 then none else some ⟨n, k, r⟩
    | _, _, _ => none
  else none
end Go.Proofs.YtdjdhkbomhendaaGreatDoor
namespace Go.Proofs.YtdjdhkbomhendaaGreatDoor
open Go.RowKit
set_option linter.unusedVariables false
set_option linter.unusedSimpArgs false
set_option maxHeartbeats 400000

theorem cut_at {a r : List UInt8} (h : (32 : UInt8) ∉ a) : cutW 32 (a ++ 32 :: r) = (a, r, true) := cutW_app 32 r a h
theorem refRsn_rsnP (l : List UInt8) : refRsn l = rsnP l := by
  cases hr : rsnP l with
  | some x =>
    obtain ⟨h1, h2, h3⟩ := rsnP_some hr
    subst h3
    obtain ⟨k1, k2, k3, k4, k5⟩ := ok_wt.1 h1
    unfold refRsn
    rw [txt_list, cut_at (show (32 : UInt8) ∉ forW by decide)]
    dsimp only
    rw [cut_at (nums_no _)]
    dsimp only
    rw [cut_at (nums_no _)]
    dsimp only
    have e1 : numP ⟨(itoB x.tx).data.toList.toArray⟩ = some x.tx := numP_some.2 ⟨by omega, h2.1, by apply t_inj; rfl⟩
    have e2 : numP ⟨(itoB x.tb).data.toList.toArray⟩ = some x.tb := numP_some.2 ⟨by omega, by omega, by apply t_inj; rfl⟩
    rw [if_pos rfl, e1, e2, refRow_rowOf, rowOf_fmt k5 h2.2]
    dsimp only
    rw [if_neg]
    rintro (h | h | h)
    · omega
    · omega
    · exact k4 (List.eq_nil_of_length_eq_zero h)
  | none =>
    cases hc : refRsn l with
    | none => rfl
    | some x =>
      exfalso
      unfold refRsn at hc
      split at hc
      · rename_i hf
        split at hc
        · rename_i n k r h1 h2 h3
          split at hc
          · cases hc
          · rename_i hg
            obtain rfl := Option.some.inj hc
            obtain ⟨a1, a2, a3⟩ := numP_some.1 h1
            obtain ⟨b1, b2, b3⟩ := numP_some.1 h2
            have h3' : rowOf ⟨(cutW 32 (cutW 32 (cutW 32 l).2.1).2.1).2.1.toArray⟩ = some r := by rw [← refRow_rowOf]; exact h3
            obtain ⟨c1, c2, c3⟩ := rowOf_ok h3'
            have hok : Wt.ok ⟨n, k, r⟩ = true := ok_wt.2 ⟨by dsimp only; omega, b1, by dsimp only; omega, fun e => hg (.inr (.inr (by rw [show r = [] from e]; rfl))), c1⟩
            have hhi : Wt.hi ⟨n, k, r⟩ := ⟨a2, c2⟩
            have := rsnP_txt hok hhi
            have hrow : ∃ c t, (fmtRow r).data.toList = c :: t := by rw [row_list c1]; exact ⟨_, _, rfl⟩
            have hl : (Wt.txt ⟨n, k, r⟩).data.toList = l := by
              rw [txt_list]
              dsimp only
              rw [a3, b3, c3]
              have hd : ∀ m : List UInt8, (cutW 32 m).2.1 ≠ [] → m = (cutW 32 m).1 ++ 32 :: (cutW 32 m).2.1 := fun m hm => by
                rcases cutW_cases 32 m with ⟨_, e⟩ | ⟨w, q, _, e, e2⟩
                · rw [e] at hm; exact absurd rfl hm
                · rw [e2, ← e]
              obtain ⟨c, t, hct⟩ := hrow
              rw [c3] at hct
              dsimp only at hct
              have d3 := hd (cutW 32 (cutW 32 l).2.1).2.1 (by rw [hct]; simp)
              have d2 := hd (cutW 32 l).2.1 (by
                intro e
                rw [e] at hct
                cases hct)
              have d1 := hd l (by
                intro e
                rw [e] at hct
                cases hct)
              rw [hf] at d1
              show forW ++ 32 :: ((cutW 32 (cutW 32 l).2.1).1 ++ 32 :: ((cutW 32 (cutW 32 (cutW 32 l).2.1).2.1).1 ++ 32 :: (cutW 32 (cutW 32 (cutW 32 l).2.1).2.1).2.1)) = l
              rw [← d3, ← d2, ← d1]
            rw [hl, hr] at this
            cases this
        · cases hc
      · cases hc
/-- a row's line -/
def rowL (l : List UInt8) : Option (List Val) := if (cutP [114, 111, 119, 32] l).2 = true then rowOf ⟨(cutP [114, 111, 119, 32] l).1.toArray⟩ else none
theorem rowL_some {l : List UInt8} {r : List Val} (h : rowL l = some r) : rowV r = true ∧ rowBd r ∧ (rowTxt r).data.toList = l := by
  unfold rowL at h
  split at h
  · rename_i hc
    obtain ⟨h1, h2, h3⟩ := rowOf_ok h
    refine ⟨h1, h2, ?_⟩
    rw [rowTxt_list, h3]
    unfold cutP at hc ⊢
    split at hc
    · rename_i hp
      rw [if_pos hp]
      rw [List.isPrefixOf_iff_prefix] at hp
      obtain ⟨t, rfl⟩ := hp
      rfl
    · cases hc
  · cases h
theorem rowL_txt {r : List Val} (h : rowV r = true) (hb : rowBd r) : rowL (rowTxt r).data.toList = some r := by
  unfold rowL
  rw [rowTxt_list]
  have := cutP_app [114, 111, 119, 32] (fmtRow r).data.toList
  rw [show [114, 111, 119, 32] ++ (fmtRow r).data.toList = rowW ++ 32 :: (fmtRow r).data.toList from rfl] at this
  rw [this, if_pos rfl]
  exact rowOf_fmt h hb
def hdrS (out : List Ev) (l : List UInt8) : Option (List Ev) := match hdrP l with
  | some e => some (out ++ [e])
  | none => none
/-- a wait without reasons -/
def opn (e : Ev) : Bool := e.kd == 2 && decide (e.wts.length = 0)
/-- one line -/
def stepH (out : List Ev) (l : List UInt8) : Option (List Ev) :=
  match out.getLast? with
  | none => hdrS out l
  | some e =>
    if e.kd = 2 ∧ (rsnP l).isSome = true then some (out.dropLast ++ [{ e with wts := e.wts ++ (rsnP l).toList }])
    else if e.kd = 4 ∧ (rowL l).isSome = true then some (out.dropLast ++ [{ e with rows := e.rows ++ (rowL l).toList }])
    else if opn e = true then none else hdrS out l
def opnL (out : List Ev) : Bool := match out.getLast? with
  | none => false
  | some e => opn e
/-- the lines of a text -/
def prsG : Nat → List UInt8 → Nat → List Ev → List Ev × Int × Int
  | 0, _, n, _ => ([], n, 2)
  | f + 1, s, n, out =>
    if s = [] then (if opnL out = true then ([], (n : Int) + 1, 2) else (out, 0, 0))
    else if (cutW 10 s).2.2 = false then ([], (n : Int) + 1, 2)
    else match stepH out (cutW 10 s).1 with
      | none => ([], (n : Int) + 1, 2)
      | some o => prsG f (cutW 10 s).2.1 (n + 1) o
def prsH (s : ByteArray) : List Ev × Int × Int := prsG (s.data.toList.length + 1) s.data.toList 0 []
/-- a line that begins with another word is no first line -/
theorem hdrP_kw {l : List UInt8} {e : Ev} (h : hdrP l = some e) : (cutW 32 l).1 = (kwB e.kd).data.toList ∧ 1 ≤ e.kd ∧ e.kd ≤ 13 := by
  obtain ⟨h1, h2, h3, h4, h5⟩ := hdrP_some h
  obtain ⟨c1, c2⟩ := cut_join (kwB e.kd).data.toList ((numsOf e).map fun n => (itoB n).data.toList) (kw_no h1.1 h1.2.1)
  rw [← head_join, h5] at c1
  exact ⟨c1, h1.1, h1.2.1⟩
theorem kw_for {k : Int} (h0 : 1 ≤ k) (h1 : k ≤ 13) : (kwB k).data.toList ≠ forW ∧ (kwB k).data.toList ≠ rowW := by
  have : k = 1 ∨ k = 2 ∨ k = 3 ∨ k = 4 ∨ k = 5 ∨ k = 6 ∨ k = 7 ∨ k = 8 ∨ k = 9 ∨ k = 10 ∨ k = 11 ∨ k = 12 ∨ k = 13 := by omega
  rcases this with rfl | rfl | rfl | rfl | rfl | rfl | rfl | rfl | rfl | rfl | rfl | rfl | rfl <;> decide
theorem rsn_word {l : List UInt8} {x : Wt} (h : rsnP l = some x) : (cutW 32 l).1 = forW := by
  obtain ⟨_, _, h3⟩ := rsnP_some h
  rw [← h3, txt_list, cut_at (show (32 : UInt8) ∉ forW by decide)]
theorem row_word {l : List UInt8} {r : List Val} (h : rowL l = some r) : (cutW 32 l).1 = rowW := by
  obtain ⟨_, _, h3⟩ := rowL_some h
  rw [← h3, rowTxt_list, cut_at (show (32 : UInt8) ∉ rowW by decide)]
theorem rsn_no {l : List UInt8} {e : Ev} (h : hdrP l = some e) : rsnP l = none ∧ rowL l = none := by
  obtain ⟨h1, h2, h3⟩ := hdrP_kw h
  obtain ⟨k1, k2⟩ := kw_for h2 h3
  constructor
  · cases hc : rsnP l with
    | none => rfl
    | some x => exact absurd (h1.symm.trans (rsn_word hc)) k1
  · cases hc : rowL l with
    | none => rfl
    | some x => exact absurd (h1.symm.trans (row_word hc)) k2
end Go.Proofs.YtdjdhkbomhendaaGreatDoor
