/-
  The canonical text of a formed expression determines it: the round trip. No program in sight.
-/
import Derived.Test.YtcdnodjcnofogaaGreatDoorInjP
namespace Go.Proofs.YtcdnodjcnofogaaGreatDoor
open Go.RowKit
set_option linter.unusedVariables false
set_option linter.unusedSimpArgs false
set_option maxHeartbeats 2000000

theorem tw {p : Nat → Bool} : ∀ {l s : List Nat}, (∀ c ∈ l, p c = true) → (s = [] ∨ ∃ c t, s = c :: t ∧ p c = false) → (l ++ s).takeWhile p = l ∧ (l ++ s).dropWhile p = s
  | [], s, _, hs => by
    rcases hs with rfl | ⟨c, t, rfl, hc⟩
    · exact ⟨rfl, rfl⟩
    · simp [hc]
  | a :: l, s, h, hs => by
    have := tw (l := l) (s := s) (fun c hc => h c (by simp [hc])) hs
    simp [h a (by simp), this.1, this.2]
theorem Edge.no {p : Nat → Bool} {s : List Nat} (h : Edge s) (h1 : p 32 = false) (h2 : p 41 = false) : s = [] ∨ ∃ c t, s = c :: t ∧ p c = false := by
  rcases h with h | ⟨c, t, rfl, rfl | rfl⟩
  · exact .inl h
  · exact .inr ⟨_, _, rfl, h1⟩
  · exact .inr ⟨_, _, rfl, h2⟩
/-- levels -/
theorem lvl_bounds (op : Int) : 1 ≤ lvl op ∧ lvl op ≤ 8 := by
  unfold lvl
  repeat' split
  all_goals omega
theorem txN_lt {e : Ex} {r : Int} (h : lvl e.d.op < r) : N (e.tx r) = 40 :: (N e.pl ++ [41]) := by
  unfold Ex.tx brk
  rw [if_pos h, N_app, N_app]
  rfl
theorem txN_ge {e : Ex} {r : Int} (h : ¬ lvl e.d.op < r) : N (e.tx r) = N e.pl := by
  unfold Ex.tx brk
  rw [if_neg h]
theorem plE (d : Nd) (ks : List Ex) : (Ex.mk d ks).pl = plD d (ks.map fun e => (e.d.op, e.pl)) := by rw [Ex.pl, plL_eq]
theorem pl3 {d : Nd} (a : Ex) (h : d.op = 3) : N (Ex.mk d [a]).pl = 45 :: N (a.tx 8) := by
  rw [plE]; unfold plD; rw [h]
  rw [if_neg (by decide), if_neg (by decide), if_pos rfl, N_app]
  rfl
theorem pl9 {d : Nd} (a : Ex) (h : d.op = 9) : N (Ex.mk d [a]).pl = 76 :: 69 :: 78 :: 71 :: 84 :: 72 :: 40 :: (N (a.tx 1) ++ [41]) := by
  rw [plE]; unfold plD; rw [h]
  rw [if_neg (by decide), if_neg (by decide), if_neg (by decide), if_pos rfl, N_app, N_app]
  rfl
theorem pl17 {d : Nd} (a : Ex) (h : d.op = 17) : N (Ex.mk d [a]).pl = N (a.tx 5) ++ [32, 73, 83, 32, 78, 85, 76, 76] := by
  rw [plE]; unfold plD; rw [h]
  rw [if_neg (by decide), if_neg (by decide), if_neg (by decide), if_neg (by decide), if_pos rfl, N_app]
  rfl
theorem pl20 {d : Nd} (a : Ex) (h : d.op = 20) : N (Ex.mk d [a]).pl = 78 :: 79 :: 84 :: 32 :: N (a.tx 3) := by
  rw [plE]; unfold plD; rw [h]
  rw [if_neg (by decide), if_neg (by decide), if_neg (by decide), if_neg (by decide), if_neg (by decide), if_pos rfl, N_app]
  rfl
/-- the operators with two operands -/
def Bin (op : Int) : Prop := 4 ≤ op ∧ op ≤ 8 ∨ 10 ≤ op ∧ op ≤ 16 ∨ op = 18 ∨ op = 19
theorem plb {d : Nd} (a b : Ex) (h : Bin d.op) : N (Ex.mk d [a, b]).pl = N (a.tx (if lvl d.op = 4 then 5 else lvl d.op)) ++ 32 :: (N (sgn d.op) ++ 32 :: N (b.tx (lvl d.op + 1))) := by
  unfold Bin at h
  rw [plE]; unfold plD
  rw [if_neg (by omega), if_neg (by omega), if_neg (by omega), if_neg (by omega), if_neg (by omega), if_neg (by omega), N_app, N_app, N_app, N_app, List.append_assoc, List.append_assoc, List.append_assoc]
  rfl
theorem opAt_lit {op : Int} {L q : Nat} {t : List Nat} (h : lvl op = (L : Int)) : (if q = L then some (op, t) else none) = (if (q : Int) = lvl op then some (op, t) else none) := by
  rw [h]
  by_cases hq : q = L
  · rw [if_pos hq, if_pos (by omega)]
  · rw [if_neg hq, if_neg (by omega)]
theorem opAt_sgn {op : Int} (h : Bin op) (q : Nat) (t : List Nat) : opAt q (32 :: (N (sgn op) ++ 32 :: t)) = if (q : Int) = lvl op then some (op, t) else none := by
  have : op = 4 ∨ op = 5 ∨ op = 6 ∨ op = 7 ∨ op = 8 ∨ op = 10 ∨ op = 11 ∨ op = 12 ∨ op = 13 ∨ op = 14 ∨ op = 15 ∨ op = 16 ∨ op = 18 ∨ op = 19 := by unfold Bin at h; omega
  rcases this with rfl | rfl | rfl | rfl | rfl | rfl | rfl | rfl | rfl | rfl | rfl | rfl | rfl | rfl
  · exact opAt_lit (L := 5) rfl
  · exact opAt_lit (L := 5) rfl
  · exact opAt_lit (L := 6) rfl
  · exact opAt_lit (L := 6) rfl
  · exact opAt_lit (L := 6) rfl
  · exact opAt_lit (L := 4) rfl
  · exact opAt_lit (L := 4) rfl
  · exact opAt_lit (L := 4) rfl
  · exact opAt_lit (L := 4) rfl
  · exact opAt_lit (L := 4) rfl
  · exact opAt_lit (L := 4) rfl
  · exact opAt_lit (L := 4) rfl
  · exact opAt_lit (L := 2) rfl
  · exact opAt_lit (L := 1) rfl
theorem lvl_bin {op : Int} (h : Bin op) : lvl op = 1 ∨ lvl op = 2 ∨ lvl op = 4 ∨ lvl op = 5 ∨ lvl op = 6 := by
  unfold Bin at h
  unfold lvl
  repeat' split
  all_goals omega
/-- heads of texts -/
def M (s : List Nat) : Prop := ∃ c t, s = c :: t ∧ c ≠ 45
def G (s : List Nat) : Prop := (∃ c t, s = c :: t ∧ c ≠ 78) ∨ ∃ t, s = 78 :: 85 :: t
theorem M.app {s : List Nat} (h : M s) (t : List Nat) : M (s ++ t) := by
  obtain ⟨c, u, rfl, h⟩ := h
  exact ⟨c, u ++ t, rfl, h⟩
theorem G.app {s : List Nat} (h : G s) (t : List Nat) : G (s ++ t) := by
  rcases h with ⟨c, u, rfl, h⟩ | ⟨u, rfl⟩
  · exact .inl ⟨c, u ++ t, rfl, h⟩
  · exact .inr ⟨u ++ t, rfl⟩
theorem M.pre {s : List Nat} (h : M s) : preAt 7 s = none := by
  obtain ⟨c, u, rfl, h⟩ := h
  unfold preAt
  split
  · rename_i he; injection he with h1 h2; exact absurd h1 h
  · rfl
  · rfl
theorem G.pre {s : List Nat} (h : G s) : preAt 3 s = none := by
  rcases h with ⟨c, u, rfl, h⟩ | ⟨u, rfl⟩
  · unfold preAt
    split
    · rfl
    · rename_i he; injection he with h1 h2; exact absurd h1 h
    · rfl
  · rfl
/-- digits of a number -/
def decV (l : List UInt8) : Nat := l.foldl (fun acc b => acc * 10 + (b.toNat - 48)) 0
theorem dec_digits : ∀ (m u : Nat), u ≤ m → decV (Lib.decDigits u) = u := by
  have hd : ∀ i, i < 10 → (UInt8.ofNat (48 + i)).toNat - 48 = i := fun i hi => by
    have e : (UInt8.ofNat (48 + i)).toNat = 48 + i := by simp; omega
    omega
  intro m
  induction m with
  | zero =>
    intro u h
    obtain rfl : u = 0 := by omega
    rw [Lib.decDigits, dif_pos (by decide)]
    rfl
  | succ m ih =>
    intro u h
    rw [Lib.decDigits]
    split
    · rename_i h10
      show 0 * 10 + ((UInt8.ofNat (48 + u)).toNat - 48) = u
      rw [hd u h10]; omega
    · rename_i h10
      unfold decV
      rw [List.foldl_append]
      have := ih (u / 10) (by omega)
      unfold decV at this
      rw [this]
      show u / 10 * 10 + ((UInt8.ofNat (48 + u % 10)).toNat - 48) = u
      rw [hd _ (Nat.mod_lt _ (by decide))]; omega
theorem digits_dig : ∀ (m u : Nat), u ≤ m → ∀ c ∈ Lib.decDigits u, 48 ≤ c.toNat ∧ c.toNat ≤ 57 := by
  intro m
  have hd : ∀ i, i < 10 → 48 ≤ (UInt8.ofNat (48 + i)).toNat ∧ (UInt8.ofNat (48 + i)).toNat ≤ 57 := fun i hi => by
    have e : (UInt8.ofNat (48 + i)).toNat = 48 + i := by simp; omega
    rw [e]; omega
  induction m with
  | zero =>
    intro u h c hc
    obtain rfl : u = 0 := by omega
    rw [Lib.decDigits, dif_pos (by decide)] at hc
    rcases List.mem_cons.1 hc with rfl | hc
    · exact hd 0 (by decide)
    · cases hc
  | succ m ih =>
    intro u h c hc
    rw [Lib.decDigits] at hc
    split at hc
    · rename_i h10
      rcases List.mem_cons.1 hc with rfl | hc
      · exact hd u h10
      · cases hc
    · rename_i h10
      rcases List.mem_append.1 hc with hc | hc
      · exact ih (u / 10) (by omega) c hc
      · rcases List.mem_cons.1 hc with rfl | hc
        · exact hd _ (Nat.mod_lt _ (by decide))
        · cases hc
theorem digits_ne (u : Nat) : Lib.decDigits u ≠ [] := by
  rw [Lib.decDigits]
  split <;> simp
theorem itoa_nat (u : Nat) : Lib.itoa (u : Int) = Lib.decDigits u := by unfold Lib.itoa; rw [if_neg (by omega)]; rfl
theorem itoN (n : Int) (h : 0 ≤ n) : ∃ c t, N (itoB n) = c :: t ∧ (∀ x ∈ N (itoB n), 48 ≤ x ∧ x ≤ 57) := by
  obtain ⟨u, rfl⟩ := Int.eq_ofNat_of_zero_le h
  have he : N (itoB (u : Int)) = (Lib.decDigits u).map UInt8.toNat := by unfold N itoB; rw [itoa_nat]
  have hd : ∀ x ∈ N (itoB (u : Int)), 48 ≤ x ∧ x ≤ 57 := by
    rw [he]
    intro x hx
    obtain ⟨c, hc, rfl⟩ := List.mem_map.1 hx
    exact digits_dig u u (Nat.le_refl _) c hc
  cases hl : N (itoB (u : Int)) with
  | nil =>
    rw [he] at hl
    exact absurd (List.map_eq_nil_iff.1 hl) (digits_ne u)
  | cons c t => exact ⟨c, t, rfl, by rw [← hl]; exact hd⟩
theorem ito_inj {m n : Int} (hm : 0 ≤ m) (hn : 0 ≤ n) (h : N (itoB m) = N (itoB n)) : m = n := by
  have h1 := congrArg (fun b : ByteArray => b.data.toList) (N_inj h)
  obtain ⟨u, rfl⟩ := Int.eq_ofNat_of_zero_le hm
  obtain ⟨v, rfl⟩ := Int.eq_ofNat_of_zero_le hn
  have h2 : Lib.decDigits u = Lib.decDigits v := by
    have : Lib.itoa (u : Int) = Lib.itoa (v : Int) := by simpa [itoB] using h1
    rwa [itoa_nat, itoa_nat] at this
  have h3 := dec_digits u u (Nat.le_refl _)
  rw [h2, dec_digits v v (Nat.le_refl _)] at h3
  omega
theorem nameN {s : ByteArray} (h : nameB s = true) : ∃ c t, N s = c :: t ∧ isLow c = true ∧ ∀ x ∈ N s, isNmC x = true := by
  unfold nameB nameL at h
  simp only [Bool.and_eq_true, List.all_eq_true] at h
  obtain ⟨⟨⟨h1, h2⟩, _⟩, _⟩ := h
  cases hs : N s with
  | nil => rw [hs] at h1; cases h1
  | cons c t => exact ⟨c, t, rfl, by rw [hs] at h1; exact h1, by rw [← hs]; exact h2⟩
theorem low_iff {c : Nat} (h : isLow c = true) : 97 ≤ c ∧ c ≤ 122 := by
  unfold isLow at h
  simpa using h
theorem primq_dig {c : Nat} {t : List Nat} (h : isDg c = true) : primq (c :: t) = .done (.num ((c :: t).takeWhile isDg)) ((c :: t).dropWhile isDg) := by
  have h2 : 48 ≤ c ∧ c ≤ 57 := by unfold isDg at h; simpa using h
  show primc c t = _
  unfold primc
  rw [if_neg (by omega), if_neg (by omega), if_neg (by omega), if_neg (by omega), if_pos h]
theorem primq_low {c : Nat} {t : List Nat} (h : isLow c = true) : primq (c :: t) = colq (c :: t) := by
  have h2 := low_iff h
  have h3 : ¬ isDg c = true := by unfold isDg; simp; omega
  show primc c t = _
  unfold primc
  rw [if_neg (by omega), if_neg (by omega), if_neg (by omega), if_neg (by omega), if_neg h3, if_pos h]
/-- the parts of a formed literal and of a formed column -/
theorem lit_parts {d : Nd} {ks : List Nd} (h : ndB d ks = true) (ho : d.op = 1) : d.tb.size = 0 ∧ d.nm.size = 0 ∧ d.litB = true := by
  unfold ndB at h
  rw [if_neg (by omega), if_pos ho] at h
  simpa [and_assoc] using h
theorem col_parts {d : Nd} {ks : List Nd} (h : ndB d ks = true) (ho : d.op = 2) : nameB d.nm = true ∧ (d.tb.size = 0 ∨ nameB d.tb = true) ∧ d.valZ = true := by
  unfold ndB at h
  rw [if_pos ho] at h
  simpa [and_assoc] using h
theorem oth_parts {d : Nd} {ks : List Nd} (h : ndB d ks = true) (h1 : d.op ≠ 1) (h2 : d.op ≠ 2) : d.tb.size = 0 ∧ d.nm.size = 0 ∧ d.valZ = true := by
  unfold ndB at h
  rw [if_neg h2, if_neg h1] at h
  split at h
  · cases h
  · simpa [and_assoc] using h
theorem N_zero {s : ByteArray} (h : s.size = 0) : N s = [] := List.eq_nil_of_length_eq_zero (by rw [N_len]; exact h)
theorem pl1 {d : Nd} (h : d.op = 1) : (Ex.mk d []).pl = if d.vk = 1 then itoB d.vi else if d.vk = 2 then ⟨#[39]⟩ ++ quoB d.vt ++ ⟨#[39]⟩ else ⟨#[78, 85, 76, 76]⟩ := by
  rw [plE]; unfold plD; rw [h]
  rw [if_pos rfl]
theorem pl2 {d : Nd} (h : d.op = 2) : (Ex.mk d []).pl = if d.tb.size = 0 then d.nm else d.tb ++ ⟨#[46]⟩ ++ d.nm := by
  rw [plE]; unfold plD; rw [h]
  rw [if_neg (by decide), if_pos rfl]
theorem pt_1 {d : Nd} (xs : List Ex) (h : d.op = 1) : (Ex.mk d xs).pt = if d.vk = 1 then .num (N (itoB d.vi)) else if d.vk = 2 then .txt (N d.vt) else .null := by
  rw [Ex.pt]; unfold ptOf; rw [if_pos h]
theorem pt_2 {d : Nd} (xs : List Ex) (h : d.op = 2) : (Ex.mk d xs).pt = .col (N d.tb) (N d.nm) := by
  rw [Ex.pt]; unfold ptOf; rw [if_neg (by omega), if_pos h]
theorem own1 {d : Nd} (h : ndB d [] = true) (ho : d.op = 1) (s : List Nat) (hE : Edge s) : PR 8 (N (Ex.mk d []).pl ++ s) ((Ex.mk d []).pt, s) := by
  obtain ⟨_, _, hl⟩ := lit_parts h ho
  obtain ⟨_, hl1, hl2⟩ := litB_size hl
  rw [pl1 ho]
  refine PR.done ?_
  rw [pt_1 _ ho]
  by_cases k1 : d.vk = 1
  · rw [if_pos k1, if_pos k1]
    obtain ⟨c, t, hc, hd⟩ := itoN d.vi (hl1 k1).1
    have hdg : ∀ x ∈ N (itoB d.vi), isDg x = true := fun x hx => by have := hd x hx; unfold isDg; simp; omega
    have htw := tw hdg (hE.no (p := isDg) rfl rfl)
    rw [hc] at htw hdg ⊢
    rw [List.cons_append] at htw ⊢
    rw [primq_dig (hdg c (by simp)), htw.1, htw.2]
  · rw [if_neg k1, if_neg k1]
    by_cases k2 : d.vk = 2
    · rw [if_pos k2, if_pos k2, N_app, N_app, N_quoB]
      show primq (39 :: (quoN (N d.vt) ++ [39] ++ s)) = _
      rw [List.append_assoc]
      show primc 39 (quoN (N d.vt) ++ 39 :: s) = _
      unfold primc
      rw [if_neg (by decide), if_pos rfl, rdq_quo _ _ hE]
    · rw [if_neg k2, if_neg k2]
      rfl
theorem own2 {d : Nd} (h : ndB d [] = true) (ho : d.op = 2) (s : List Nat) (hE : Edge s) : PR 8 (N (Ex.mk d []).pl ++ s) ((Ex.mk d []).pt, s) := by
  obtain ⟨hn, ht, _⟩ := col_parts h ho
  rw [pl2 ho]
  refine PR.done ?_
  rw [pt_2 _ ho]
  obtain ⟨c, t, hc, hlow, hal⟩ := nameN hn
  have htw := tw hal (hE.no (p := isNmC) (by decide) (by decide))
  by_cases h0 : d.tb.size = 0
  · rw [if_pos h0, N_zero h0]
    have hp : primq (N d.nm ++ s) = colq (N d.nm ++ s) := by rw [hc]; exact primq_low hlow
    rw [hp, colq, htw.1, htw.2]
    rcases hE with rfl | ⟨c, t, rfl, rfl | rfl⟩ <;> rfl
  · rw [if_neg h0, N_app, N_app]
    obtain ⟨c2, t2, hc2, hlow2, hal2⟩ := nameN (ht.resolve_left h0)
    have hs : N d.tb ++ N ⟨#[46]⟩ ++ N d.nm ++ s = N d.tb ++ 46 :: (N d.nm ++ s) := by
      rw [List.append_assoc, List.append_assoc]; rfl
    rw [hs]
    have htw2 := tw (s := 46 :: (N d.nm ++ s)) hal2 (.inr ⟨46, _, rfl, by decide⟩)
    have hp : primq (N d.tb ++ 46 :: (N d.nm ++ s)) = colq (N d.tb ++ 46 :: (N d.nm ++ s)) := by rw [hc2]; exact primq_low hlow2
    rw [hp, colq, htw2.1, htw2.2]
    show Rq.done (.col (N d.tb) ((N d.nm ++ s).takeWhile isNmC)) ((N d.nm ++ s).dropWhile isNmC) = _
    rw [htw.1, htw.2]
/-- an expression is read back -/
def CC (e : Ex) : Prop := ∀ (r : Nat), 1 ≤ r → r ≤ 8 → ∀ s z, Edge s → Above r s → LP r e.pt s z → PR r (N (e.tx (r : Int)) ++ s) z
theorem opAt_8 (s : List Nat) : opAt 8 s = none := by unfold opAt; split <;> rfl
theorem opAt_7 (s : List Nat) : opAt 7 s = none := by unfold opAt; split <;> rfl
theorem opAt_3 (s : List Nat) : opAt 3 s = none := by unfold opAt; split <;> rfl
theorem opAt_41 (q : Nat) (s : List Nat) : opAt q (41 :: s) = none := rfl
theorem edge41 (s : List Nat) : Edge (41 :: s) := .inr ⟨41, s, rfl, .inr rfl⟩
theorem edge32 (s : List Nat) : Edge (32 :: s) := .inr ⟨32, s, rfl, .inl rfl⟩
theorem pt1 {d : Nd} (a : Ex) (h1 : d.op ≠ 1) (h2 : d.op ≠ 2) : (Ex.mk d [a]).pt = .un d.op a.pt := by
  rw [Ex.pt, ptL, ptL]; unfold ptOf; rw [if_neg h1, if_neg h2]
theorem pt2 {d : Nd} (a b : Ex) (h1 : d.op ≠ 1) (h2 : d.op ≠ 2) : (Ex.mk d [a, b]).pt = .bin d.op a.pt b.pt := by
  rw [Ex.pt, ptL, ptL, ptL]; unfold ptOf; rw [if_neg h1, if_neg h2]
theorem own {d : Nd} {ks : List Ex} (hf : (Ex.mk d ks).formed = true) (ih : ∀ k ∈ ks, CC k) (L : Nat) (hL : lvl d.op = (L : Int)) (s : List Nat) (z : PT × List Nat) (hE : Edge s) (hA : Above L s) (l : LP L (Ex.mk d ks).pt s z) :
    PR L (N (Ex.mk d ks).pl ++ s) z := by
  obtain ⟨h1, h2, h3⟩ := formed_parts hf
  rcases opN_cases d.op with ⟨h0, h4⟩ | ⟨h0, h4⟩ | ⟨h0, h4⟩ | h0
  · obtain rfl : ks = [] := List.eq_nil_of_length_eq_zero (by omega)
    have h8 : lvl d.op = 8 := by rcases h4 with h4 | h4 <;> rw [h4] <;> rfl
    obtain rfl : L = 8 := by omega
    rw [LP.none (opAt_8 s) l]
    rcases h4 with h4 | h4
    · exact own1 h3 h4 s hE
    · exact own2 h3 h4 s hE
  · obtain ⟨a, rfl⟩ : ∃ a, ks = [a] := List.length_eq_one_iff.1 (by omega)
    have ia := ih a (by simp)
    rw [pt1 a (by omega) (by omega)] at l
    rcases h4 with h4 | h4 | h4 | h4
    · have h8 : lvl d.op = 7 := by rw [h4]; rfl
      obtain rfl : L = 7 := by omega
      rw [LP.none (opAt_7 s) l, pl3 a h4, h4]
      exact PR.pre (by decide) (rfl : preAt 7 (45 :: (N (a.tx 8) ++ s)) = some (3, N (a.tx 8) ++ s)) (ia 8 (by decide) (by decide) s _ hE (fun q hq => hA q (by omega)) (LP.stop _ (opAt_8 s)))
    · have h8 : lvl d.op = 8 := by rw [h4]; rfl
      obtain rfl : L = 8 := by omega
      rw [LP.none (opAt_8 s) l, pl9 a h4, h4]
      have := PR.sub (b := true) (u := s) (rfl : primq (76 :: 69 :: 78 :: 71 :: 84 :: 72 :: 40 :: (N (a.tx 1) ++ 41 :: s)) = .sub true (N (a.tx 1) ++ 41 :: s)) (ia 1 (by decide) (by decide) (41 :: s) _ (edge41 s) (fun q _ => opAt_41 q s) (LP.stop _ (opAt_41 1 s)))
      rw [show 76 :: 69 :: 78 :: 71 :: 84 :: 72 :: 40 :: (N (a.tx 1) ++ [41]) ++ s = 76 :: 69 :: 78 :: 71 :: 84 :: 72 :: 40 :: (N (a.tx 1) ++ 41 :: s) by simp]
      exact this
    · have h8 : lvl d.op = 4 := by rw [h4]; rfl
      obtain rfl : L = 4 := by omega
      rw [pl17 a h4, List.append_assoc]
      rw [h4] at l
      refine PR.step (by decide) ?_ (ia 5 (by decide) (by decide) ([32, 73, 83, 32, 78, 85, 76, 76] ++ s) _ (edge32 _) (fun q hq => ?_) (LP.stop _ rfl)) (LP.isn rfl l)
      · unfold preAt
        split <;> rfl
      · show (if q = 4 then some ((17 : Int), s) else none) = none
        rw [if_neg (by omega)]
    · have h8 : lvl d.op = 3 := by rw [h4]; rfl
      obtain rfl : L = 3 := by omega
      rw [LP.none (opAt_3 s) l, pl20 a h4, h4]
      exact PR.pre (by decide) (rfl : preAt 3 (78 :: 79 :: 84 :: 32 :: (N (a.tx 3) ++ s)) = some (20, N (a.tx 3) ++ s)) (ia 3 (by decide) (by decide) s _ hE hA (LP.stop _ (opAt_3 s)))
  · obtain ⟨a, b, rfl⟩ : ∃ a b, ks = [a, b] := by
      have : ks.length = 2 := by omega
      match ks, this with
      | [a, b], _ => exact ⟨a, b, rfl⟩
    have ia := ih a (by simp)
    have ib := ih b (by simp)
    have hb : Bin d.op := h4
    have hlb := lvl_bin hb
    have hne : d.op ≠ 17 := by omega
    rw [pt2 a b (by omega) (by omega)] at l
    rw [plb a b hb, hL, List.append_assoc]
    have hsT : 32 :: (N (sgn d.op) ++ 32 :: N (b.tx ((L : Int) + 1))) ++ s = 32 :: (N (sgn d.op) ++ 32 :: (N (b.tx ((L + 1 : Nat) : Int)) ++ s)) := by simp
    rw [hsT]
    have hop := fun q => opAt_sgn hb q (N (b.tx ((L + 1 : Nat) : Int)) ++ s)
    have hL0 : opAt L (32 :: (N (sgn d.op) ++ 32 :: (N (b.tx ((L + 1 : Nat) : Int)) ++ s))) = some (d.op, N (b.tx ((L + 1 : Nat) : Int)) ++ s) := by rw [hop, if_pos hL.symm]
    have hLn : ∀ q, q ≠ L → opAt q (32 :: (N (sgn d.op) ++ 32 :: (N (b.tx ((L + 1 : Nat) : Int)) ++ s))) = none := fun q hq => by rw [hop, if_neg (by omega)]
    have pb := ib (L + 1) (by omega) (by omega) s (b.pt, s) hE (fun q hq => hA q (by omega)) (LP.stop _ (hA _ (by omega)))
    have lo := LP.op (x := a.pt) hL0 hne pb l
    generalize 32 :: (N (sgn d.op) ++ 32 :: (N (b.tx ((L + 1 : Nat) : Int)) ++ s)) = sT at *
    have hEs : Edge sT := by rw [← hsT]; exact edge32 _
    by_cases h44 : L = 4
    · subst h44
      rw [if_pos (show ((4 : Nat) : Int) = 4 from rfl)]
      refine PR.step (by decide) ?_ (ia 5 (by decide) (by decide) sT _ hEs (fun q hq => hLn q (by omega)) (LP.stop _ (hLn 5 (by decide)))) lo
      unfold preAt
      split <;> rfl
    · rw [if_neg (by omega)]
      exact ia L (by omega) (by omega) sT z hEs (fun q hq => hLn q (by omega)) lo
  · omega
theorem Bin.of {op : Int} (h : 4 ≤ op ∧ op ≤ 8 ∨ 10 ≤ op ∧ op ≤ 16 ∨ op = 18 ∨ op = 19) : Bin op := h
/-- how texts begin -/
theorem headM {d : Nd} {ks : List Ex} (hf : (Ex.mk d ks).formed = true) (h8 : lvl d.op = 8) : M (N (Ex.mk d ks).pl) := by
  obtain ⟨h1, h2, h3⟩ := formed_parts hf
  rcases opN_cases d.op with ⟨h0, h4⟩ | ⟨h0, h4⟩ | ⟨h0, h4⟩ | h0
  · obtain rfl : ks = [] := List.eq_nil_of_length_eq_zero (by omega)
    rcases h4 with h4 | h4
    · obtain ⟨_, _, hl⟩ := lit_parts h3 h4
      obtain ⟨_, hl1, hl2⟩ := litB_size hl
      rw [pl1 h4]
      split
      · rename_i k1
        obtain ⟨c, t, hc, hd⟩ := itoN d.vi (hl1 k1).1
        rw [hc] at hd ⊢
        have := hd c (by simp)
        exact ⟨c, t, rfl, by omega⟩
      · split
        · rw [N_app, N_app]
          exact ⟨39, N (quoB d.vt) ++ [39], rfl, by decide⟩
        · exact ⟨78, _, rfl, by decide⟩
    · obtain ⟨hn, ht, _⟩ := col_parts h3 h4
      rw [pl2 h4]
      split
      · obtain ⟨c, t, hc, hlow, _⟩ := nameN hn
        have := low_iff hlow
        exact ⟨c, t, hc, by omega⟩
      · rename_i hz
        obtain ⟨c, t, hc, hlow, _⟩ := nameN (ht.resolve_left hz)
        have := low_iff hlow
        rw [N_app, N_app]
        refine M.app (M.app ⟨c, t, hc, by omega⟩ _) _
  · obtain ⟨a, rfl⟩ : ∃ a, ks = [a] := List.length_eq_one_iff.1 (by omega)
    rcases h4 with h4 | h4 | h4 | h4
    · rw [h4] at h8; cases h8
    · rw [pl9 a h4]; exact ⟨76, _, rfl, by decide⟩
    · rw [h4] at h8; cases h8
    · rw [h4] at h8; cases h8
  · have := lvl_bin (Bin.of h4); omega
  · omega
theorem headG : ∀ e : Ex, e.formed = true → ∀ r : Int, 4 ≤ r → G (N (e.tx r)) ∧ (4 ≤ lvl e.d.op → G (N e.pl)) := by
  intro e
  induction e using Ex.ind with
  | h d ks ih =>
    intro hf
    obtain ⟨h1, h2, h3⟩ := formed_parts hf
    have key : 4 ≤ lvl d.op → G (N (Ex.mk d ks).pl) := by
      intro h4l
      rcases opN_cases d.op with ⟨h0, h4⟩ | ⟨h0, h4⟩ | ⟨h0, h4⟩ | h0
      · obtain rfl : ks = [] := List.eq_nil_of_length_eq_zero (by omega)
        rcases h4 with h4 | h4
        · obtain ⟨_, _, hl⟩ := lit_parts h3 h4
          obtain ⟨_, hl1, hl2⟩ := litB_size hl
          rw [pl1 h4]
          split
          · rename_i k1
            obtain ⟨c, t, hc, hd⟩ := itoN d.vi (hl1 k1).1
            rw [hc] at hd ⊢
            have := hd c (by simp)
            exact .inl ⟨c, t, rfl, by omega⟩
          · split
            · rw [N_app, N_app]
              exact .inl ⟨39, N (quoB d.vt) ++ [39], rfl, by decide⟩
            · exact .inr ⟨_, rfl⟩
        · obtain ⟨hn, ht, _⟩ := col_parts h3 h4
          rw [pl2 h4]
          split
          · obtain ⟨c, t, hc, hlow, _⟩ := nameN hn
            have := low_iff hlow
            exact .inl ⟨c, t, hc, by omega⟩
          · rename_i hz
            obtain ⟨c, t, hc, hlow, _⟩ := nameN (ht.resolve_left hz)
            have := low_iff hlow
            rw [N_app, N_app]
            refine G.app (G.app (.inl ⟨c, t, hc, by omega⟩) _) _
      · obtain ⟨a, rfl⟩ : ∃ a, ks = [a] := List.length_eq_one_iff.1 (by omega)
        rcases h4 with h4 | h4 | h4 | h4
        · rw [pl3 a h4]; exact .inl ⟨45, _, rfl, by decide⟩
        · rw [pl9 a h4]; exact .inl ⟨76, _, rfl, by decide⟩
        · rw [pl17 a h4]; exact (ih a (by simp) (h2 a (by simp)) 5 (by decide)).1.app _
        · rw [h4] at h4l; exact absurd h4l (by decide)
      · obtain ⟨a, b, rfl⟩ : ∃ a b, ks = [a, b] := by
          have : ks.length = 2 := by omega
          match ks, this with
          | [a, b], _ => exact ⟨a, b, rfl⟩
        rw [plb a b (Bin.of h4)]
        refine G.app ?_ _
        refine (ih a (by simp) (h2 a (by simp)) _ ?_).1
        split <;> omega
      · omega
    intro r hr
    refine ⟨?_, key⟩
    by_cases h : lvl (Ex.mk d ks).d.op < r
    · rw [txN_lt h]; exact .inl ⟨40, _, rfl, by decide⟩
    · rw [txN_ge h]
      exact key (by have : lvl (Ex.mk d ks).d.op = lvl d.op := rfl; omega)
theorem cc : ∀ e : Ex, e.formed = true → CC e := by
  intro e
  induction e using Ex.ind with
  | h d ks ih =>
    intro hf
    obtain ⟨h1, h2, h3⟩ := formed_parts hf
    have hb := lvl_bounds d.op
    obtain ⟨L, hL⟩ : ∃ L : Nat, lvl d.op = (L : Int) := ⟨(lvl d.op).toNat, by omega⟩
    have ow := own hf (fun k hk => ih k hk (h2 k hk)) L hL
    have hd : lvl (Ex.mk d ks).d.op = lvl d.op := rfl
    have hG : 4 ≤ L → ∀ t, preAt 3 (N (Ex.mk d ks).pl ++ t) = none := fun h t => (G.app ((headG _ hf 4 (by decide)).2 (by omega)) t).pre
    have hM : L = 8 → ∀ t, preAt 7 (N (Ex.mk d ks).pl ++ t) = none := fun h t => (M.app (headM hf (by omega)) t).pre
    have low : ∀ (r : Nat), 1 ≤ r → r ≤ L → ∀ s z, Edge s → Above r s → LP r (Ex.mk d ks).pt s z → PR r (N (Ex.mk d ks).pl ++ s) z := by
      intro r r1 rL s z hE hA l
      by_cases he : r = L
      · subst he; exact ow s z hE hA l
      · exact climb (by omega) (by omega) (ow s _ hE (fun q hq => hA q (by omega)) (LP.stop _ (hA L (by omega)))) (fun _ h => hM (by omega) s) (fun _ h => hG (by omega) s) hA l
    intro r r1 r8 s z hE hA l
    by_cases hr : r ≤ L
    · rw [txN_ge (by omega)]
      exact low r r1 hr s z hE hA l
    · rw [txN_lt (by omega), List.cons_append, List.append_assoc]
      have p1 := low 1 (by decide) (by omega) (41 :: s) _ (edge41 s) (fun q _ => opAt_41 q s) (LP.stop _ (opAt_41 1 s))
      have p8 := PR.sub (b := false) (u := s) (rfl : primq (40 :: (N (Ex.mk d ks).pl ++ ([41] ++ s))) = .sub false (N (Ex.mk d ks).pl ++ 41 :: s)) p1
      by_cases h8 : r = 8
      · subst h8
        rw [LP.none (opAt_8 s) l]
        exact p8
      · exact climb (by omega) (by decide) p8 (fun _ _ => rfl) (fun _ _ => rfl) hA l
/-- the operator that a tree tells -/
def ptop : PT → Int
  | .num _ => 1
  | .txt _ => 1
  | .null => 1
  | .col _ _ => 2
  | .un op _ => op
  | .bin op _ _ => op
theorem ptop_ok {d : Nd} {ks : List Ex} (hf : (Ex.mk d ks).formed = true) : ptop (Ex.mk d ks).pt = d.op := by
  obtain ⟨h1, h2, h3⟩ := formed_parts hf
  rcases opN_cases d.op with ⟨h0, h4⟩ | ⟨h0, h4⟩ | ⟨h0, h4⟩ | h0
  · obtain rfl : ks = [] := List.eq_nil_of_length_eq_zero (by omega)
    rcases h4 with h4 | h4
    · rw [pt_1 _ h4]
      split
      · exact h4.symm
      · split <;> exact h4.symm
    · rw [pt_2 _ h4]; exact h4.symm
  · obtain ⟨a, rfl⟩ : ∃ a, ks = [a] := List.length_eq_one_iff.1 (by omega)
    rw [pt1 a (by omega) (by omega)]; rfl
  · obtain ⟨a, b, rfl⟩ : ∃ a b, ks = [a, b] := by
      have : ks.length = 2 := by omega
      match ks, this with
      | [a, b], _ => exact ⟨a, b, rfl⟩
    rw [pt2 a b (by omega) (by omega)]; rfl
  · omega
theorem valZ_parts {d : Nd} (h : d.valZ = true) : d.vk = 0 ∧ d.vi = 0 ∧ d.vt.size = 0 := by
  unfold Nd.valZ at h
  simpa [and_assoc] using h
theorem nd_same {a b : Nd} (h1 : a.op = b.op) (h2 : N a.tb = N b.tb) (h3 : N a.nm = N b.nm) (h4 : a.vk = b.vk) (h5 : a.vi = b.vi) (h6 : N a.vt = N b.vt) : a.same b = true := by
  unfold Nd.same
  simp [h1, h2, h3, h4, h5, h6]
theorem pt_same : ∀ a : Ex, a.formed = true → ∀ b : Ex, b.formed = true → a.pt = b.pt → a.same b = true := by
  intro a
  induction a using Ex.ind with
  | h d ks ih =>
    intro hf b
    cases b with
    | mk d' ks' =>
    intro hf' hp
    have hop : d.op = d'.op := by rw [← ptop_ok hf, ← ptop_ok hf', hp]
    obtain ⟨h1, h2, h3⟩ := formed_parts hf
    obtain ⟨h1', h2', h3'⟩ := formed_parts hf'
    rcases opN_cases d.op with ⟨h0, h4⟩ | ⟨h0, h4⟩ | ⟨h0, h4⟩ | h0
    · obtain rfl : ks = [] := List.eq_nil_of_length_eq_zero (by omega)
      rw [← hop] at h1'
      obtain rfl : ks' = [] := List.eq_nil_of_length_eq_zero (by omega)
      rw [Ex.same, Bool.and_eq_true]
      refine ⟨?_, rfl⟩
      rcases h4 with h4 | h4
      · obtain ⟨l1, l2, l3⟩ := lit_parts h3 h4
        obtain ⟨m1, m2, m3⟩ := lit_parts h3' (by omega)
        rw [pt_1 _ h4, pt_1 _ (by omega)] at hp
        obtain ⟨_, l4, l5⟩ := litB_size l3
        obtain ⟨_, m4, m5⟩ := litB_size m3
        unfold Nd.litB at l3 m3
        have ht : N d.tb = N d'.tb := by rw [N_zero l1, N_zero m1]
        have hn : N d.nm = N d'.nm := by rw [N_zero l2, N_zero m2]
        by_cases k1 : d.vk = 1
        · rw [if_pos k1] at hp
          by_cases k1' : d'.vk = 1
          · rw [if_pos k1'] at hp
            injection hp with hp
            have hi := ito_inj (l4 k1).1 (m4 k1').1 hp
            rw [if_neg (by omega), if_pos k1] at l3
            rw [if_neg (by omega), if_pos k1'] at m3
            simp only [Bool.and_eq_true, beq_iff_eq] at l3 m3
            exact nd_same hop ht hn (by omega) hi (by rw [N_zero l3.2, N_zero m3.2])
          · rw [if_neg k1'] at hp
            split at hp <;> cases hp
        · rw [if_neg k1] at hp
          by_cases k1' : d'.vk = 1
          · rw [if_pos k1'] at hp
            split at hp <;> cases hp
          · rw [if_neg k1'] at hp
            by_cases k2 : d.vk = 2
            · rw [if_pos k2] at hp
              by_cases k2' : d'.vk = 2
              · rw [if_pos k2'] at hp
                injection hp with hp
                rw [if_neg (by omega), if_neg k1, if_pos k2] at l3
                rw [if_neg (by omega), if_neg k1', if_pos k2'] at m3
                simp only [Bool.and_eq_true, beq_iff_eq] at l3 m3
                exact nd_same hop ht hn (by omega) (by omega) hp
              · rw [if_neg k2'] at hp; cases hp
            · rw [if_neg k2] at hp
              by_cases k2' : d'.vk = 2
              · rw [if_pos k2'] at hp; cases hp
              · have e0 : d.vk = 0 := by omega
                have e0' : d'.vk = 0 := by omega
                rw [if_pos e0] at l3
                rw [if_pos e0'] at m3
                simp only [Bool.and_eq_true, beq_iff_eq] at l3 m3
                exact nd_same hop ht hn (by omega) (by omega) (by rw [N_zero l3.2, N_zero m3.2])
      · obtain ⟨l1, l2, l3⟩ := col_parts h3 h4
        obtain ⟨m1, m2, m3⟩ := col_parts h3' (by omega)
        rw [pt_2 _ h4, pt_2 _ (by omega)] at hp
        injection hp with p1 p2
        have v := valZ_parts l3
        have v' := valZ_parts m3
        exact nd_same hop p1 p2 (by omega) (by omega) (by rw [N_zero v.2.2, N_zero v'.2.2])
    · obtain ⟨a, rfl⟩ : ∃ a, ks = [a] := List.length_eq_one_iff.1 (by omega)
      rw [← hop] at h1'
      obtain ⟨a', rfl⟩ : ∃ a, ks' = [a] := List.length_eq_one_iff.1 (by omega)
      rw [pt1 a (by omega) (by omega), pt1 a' (by omega) (by omega)] at hp
      injection hp with _ hp
      have l := oth_parts h3 (by omega) (by omega)
      have m := oth_parts h3' (by omega) (by omega)
      have v := valZ_parts l.2.2
      have v' := valZ_parts m.2.2
      rw [Ex.same, Bool.and_eq_true, sameL, Bool.and_eq_true]
      exact ⟨nd_same hop (by rw [N_zero l.1, N_zero m.1]) (by rw [N_zero l.2.1, N_zero m.2.1]) (by omega) (by omega) (by rw [N_zero v.2.2, N_zero v'.2.2]), ih a (by simp) (h2 a (by simp)) a' (h2' a' (by simp)) hp, rfl⟩
    · obtain ⟨a, b, rfl⟩ : ∃ a b, ks = [a, b] := by
        have : ks.length = 2 := by omega
        match ks, this with
        | [a, b], _ => exact ⟨a, b, rfl⟩
      rw [← hop] at h1'
      obtain ⟨a', b', rfl⟩ : ∃ a b, ks' = [a, b] := by
        have : ks'.length = 2 := by omega
        match ks', this with
        | [a, b], _ => exact ⟨a, b, rfl⟩
      rw [pt2 a b (by omega) (by omega), pt2 a' b' (by omega) (by omega)] at hp
      injection hp with _ hp hq
      have l := oth_parts h3 (by omega) (by omega)
      have m := oth_parts h3' (by omega) (by omega)
      have v := valZ_parts l.2.2
      have v' := valZ_parts m.2.2
      rw [Ex.same, Bool.and_eq_true, sameL, sameL, Bool.and_eq_true, Bool.and_eq_true]
      exact ⟨nd_same hop (by rw [N_zero l.1, N_zero m.1]) (by rw [N_zero l.2.1, N_zero m.2.1]) (by omega) (by omega) (by rw [N_zero v.2.2, N_zero v'.2.2]), ih a (by simp) (h2 a (by simp)) a' (h2' a' (by simp)) hp,
        ih b (by simp) (h2 b (by simp)) b' (h2' b' (by simp)) hq, rfl⟩
    · omega
/-- the same text, the same expression -/
theorem text_inj {a b : Ex} (ha : a.formed = true) (hb : b.formed = true) (h : a.tx 1 = b.tx 1) : a.same b = true := by
  refine pt_same a ha b hb ?_
  have e : Edge [] := .inl rfl
  have ab : Above 1 [] := fun q _ => rfl
  have p := cc a ha 1 (by decide) (by decide) [] (a.pt, []) e ab (LP.stop _ rfl)
  have q := cc b hb 1 (by decide) (by decide) [] (b.pt, []) e ab (LP.stop _ rfl)
  have h' : a.tx ((1 : Nat) : Int) = b.tx ((1 : Nat) : Int) := h
  rw [h'] at p
  exact (Prod.mk.inj (p.det q)).1
theorem nd_same_iff {a b : Nd} (h : a.same b = true) : b = { a with ix := b.ix } := by
  unfold Nd.same at h
  simp only [Bool.and_eq_true, beq_iff_eq] at h
  obtain ⟨⟨⟨h1, h2⟩, h3⟩, ⟨h4, h5⟩, h6⟩ := h
  cases a
  cases b
  simp only at *
  rw [← h1, ← N_inj h2, ← N_inj h3, ← h4, ← h5, ← N_inj h6]
theorem same_pl : ∀ a b : Ex, a.same b = true → a.pl = b.pl ∧ a.d.op = b.d.op := by
  intro a
  induction a using Ex.ind with
  | h d ks ih =>
    intro b hs
    cases b with
    | mk d' ks' =>
    rw [Ex.same, Bool.and_eq_true, sameL_iff] at hs
    obtain ⟨h1, h2, h3⟩ := hs
    have h1 := nd_same_iff h1
    rw [h1]
    refine ⟨?_, rfl⟩
    have hk : (ks.map fun e => (e.d.op, e.pl)) = ks'.map fun e => (e.d.op, e.pl) := by
      refine List.ext_getElem? fun i => ?_
      rw [List.getElem?_map, List.getElem?_map]
      cases hx : ks[i]? with
      | none =>
        have : ks'[i]? = none := by rw [List.getElem?_eq_none_iff] at hx ⊢; omega
        rw [this]
      | some x =>
        have hi := (List.getElem?_eq_some_iff.1 hx).1
        have hy : ks'[i]? = some ks'[i] := List.getElem?_eq_getElem (by omega)
        rw [hy]
        have := ih x (List.mem_of_getElem? hx) ks'[i] (h3 i x _ hx hy)
        simp only [Option.map_some, this.1, this.2]
    rw [plE, plE, hk]
    rfl
theorem same_tx {a b : Ex} (h : a.same b = true) (r : Int) : a.tx r = b.tx r := by
  obtain ⟨h1, h2⟩ := same_pl a b h
  unfold Ex.tx
  rw [h1, h2]
theorem text_iff {a b : Ex} (ha : a.formed = true) (hb : b.formed = true) : (N (a.tx 1) == N (b.tx 1)) = a.same b := by
  rw [Bool.eq_iff_iff, beq_iff_eq]
  exact ⟨fun h => text_inj ha hb (N_inj h), fun h => by rw [same_tx h]⟩
end Go.Proofs.YtcdnodjcnofogaaGreatDoor
