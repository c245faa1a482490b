/-
  The value that the reference reads out of a literal.
-/
import Derived.Test.YtkldgehnioapcaaDoorCand2
namespace Go.Proofs.YtkldgehnioapcaaDoor
set_option maxHeartbeats 400000

def rvf (acc : Int) (b : UInt8) : Int := if b.toNat = 45 then acc else 10 * acc + (b.toNat : Int) - 48
def rv (l : List UInt8) : Int := l.foldl rvf 0
theorem rv_app (l : List UInt8) (b : UInt8) : rv (l ++ [b]) = rvf (rv l) b := by simp [rv]
theorem rv_dec (u : Nat) : rv (Lib.decDigits u) = u := by
  induction u using Nat.strongRecOn with
  | _ u ih =>
    have hb : ∀ d, d < 10 → (UInt8.ofNat (48 + d)).toNat = 48 + d := fun d hd => by simp [UInt8.toNat_ofNat']; omega
    by_cases h9 : u < 10
    · rw [dec_small h9]
      show rvf 0 _ = _
      unfold rvf
      rw [hb u h9, if_neg (by omega)]
      omega
    · rw [dec_big h9, rv_app, ih (u / 10) (by omega)]
      unfold rvf
      rw [hb _ (Nat.mod_lt _ (by omega)), if_neg (by omega)]
      omega
theorem rv_itoa (n : Int) : rv (Lib.itoa n) = n.natAbs := by
  unfold Lib.itoa
  split
  · have : rv (45 :: Lib.decDigits n.natAbs) = rv (Lib.decDigits n.natAbs) := by
      show List.foldl rvf (rvf 0 45) _ = _
      rfl
    rw [this, rv_dec]
  · rw [rv_dec]
    omega
theorem prs_cand (c : Val) (s : ByteArray) (h0 : -9223372036854775808 ≤ c.n) (h1 : c.n ≤ 9223372036854775807) (hc : ∀ v, validV v = true → -9223372036854775808 ≤ v.n → v.n ≤ 9223372036854775807 → fmtV v = s → c = v)
    (hv : s = ⟨#[]⟩ → validV c = true) : prs s = if fmtV c = s then (c, 0) else (⟨0, 0, ⟨#[]⟩⟩, 2) := by
  by_cases hf : fmtV c = s
  · rw [if_pos hf]
    cases hvc : validV c
    · have e := fmtV_no hvc
      rw [hf] at e
      rw [hv e] at hvc
      cases hvc
    · rw [← hf]
      exact prs_of c hvc h0 h1
  · rw [if_neg hf]
    unfold prs
    refine if_neg fun hp => ?_
    cases hvp : validV (pc s)
    · have e := fmtV_no hvp
      rw [hp] at e
      subst e
      exact pc_empty hp
    · have := hc (pc s) hvp (pc_bd s).1 (pc_bd s).2 hp
      rw [← this] at hp
      exact hf hp
theorem itoa_head (n : Int) : ∃ c r, Lib.itoa n = c :: r ∧ (if n < 0 then c = 45 else 48 ≤ c.toNat) ∧ c ≠ 39 := by
  unfold Lib.itoa
  by_cases hn : n < 0
  · rw [if_pos hn]
    exact ⟨45, _, rfl, by rw [if_pos hn], by decide⟩
  · rw [if_neg hn]
    obtain ⟨c, r, e, h1, h2⟩ := dec_head n.toNat
    refine ⟨c, r, e, by rw [if_neg hn]; exact h1, fun e => ?_⟩
    subst e
    revert h1
    decide
theorem text_of {v : Val} (h : validV v = true) (hk : v.k = 2) : v.n = 0 ∧ (fmtV v).data.toList = 39 :: (quo v.t.data.toList ++ [39]) := by
  refine ⟨?_, ?_⟩
  · unfold validV at h
    rw [if_neg (by omega), if_neg (by omega), if_pos hk] at h
    simp only [Bool.and_eq_true, decide_eq_true_eq] at h
    exact h.1.1
  · rw [fmtV_of h, if_neg (by omega), if_neg (by omega), ByteArray.data_append, Array.toList_append, ByteArray.data_append, Array.toList_append]
    simp [quoB]
theorem int_of {v : Val} (h : validV v = true) (hk : v.k = 1) : v.t = ⟨#[]⟩ ∧ (fmtV v).data.toList = Lib.itoa v.n := by
  refine ⟨?_, ?_⟩
  · unfold validV at h
    rw [if_neg (by omega), if_pos hk] at h
    exact empty_of h
  · rw [fmtV_of h, if_neg (by omega), if_pos hk]
    rfl
theorem null_of {v : Val} (h : validV v = true) (hk : v.k = 0) : v = ⟨0, 0, ⟨#[]⟩⟩ ∧ fmtV v = ⟨#[78, 85, 76, 76]⟩ := by
  refine ⟨?_, ?_⟩
  · unfold validV at h
    rw [if_pos hk] at h
    simp only [Bool.and_eq_true, decide_eq_true_eq] at h
    obtain ⟨k, n, t⟩ := v
    dsimp only at hk h
    rw [hk, h.1, empty_of h.2]
  · rw [fmtV_of h, if_pos hk]
theorem rd_null (s : ByteArray) (hs : s = ⟨#[78, 85, 76, 76]⟩) : prs s = if fmtV ⟨0, 0, ⟨#[]⟩⟩ = s then (⟨0, 0, ⟨#[]⟩⟩, 0) else (⟨0, 0, ⟨#[]⟩⟩, 2) := by
  refine prs_cand ⟨0, 0, ⟨#[]⟩⟩ s (by decide) (by decide) (fun v hv h0 h1 hf => ?_) (fun _ => by decide)
  have := cand v s hv h0 h1 hf
  subst hs
  rw [pc_no no_null, if_neg (by decide)] at this
  exact this
theorem rd_text (s X : ByteArray) (hs : s.data.toList.head? = some 39) (hX : ∀ t : List UInt8, s.data.toList = 39 :: (quo t ++ [39]) → X.data.toList = t) : prs s = if fmtV ⟨2, 0, X⟩ = s then (⟨2, 0, X⟩, 0) else (⟨0, 0, ⟨#[]⟩⟩, 2) := by
  refine prs_cand ⟨2, 0, X⟩ s (by show (_ : Int) ≤ 0; omega) (by show (0 : Int) ≤ _; omega) (fun v hv h0 h1 hf => ?_) (fun e => by rw [e] at hs; cases hs)
  subst hf
  rcases validV_k hv with h | h | h
  · rw [(null_of hv h).2] at hs
    exact absurd hs (by decide)
  · obtain ⟨c, r, e, _, h2⟩ := itoa_head v.n
    rw [(int_of hv h).2, e] at hs
    simp only [List.head?_cons, Option.some.injEq] at hs
    exact absurd hs h2
  · obtain ⟨hn, ht⟩ := text_of hv h
    have := t_inj (hX _ ht)
    obtain ⟨k, n, t⟩ := v
    dsimp only at h hn this
    rw [h, hn, this]
theorem rd_int (s : ByteArray) (n : Int) (h0 : -9223372036854775808 ≤ n) (h1 : n ≤ 9223372036854775807) (hs : ¬ s = ⟨#[78, 85, 76, 76]⟩) (hq : ¬ s.data.toList.head? = some 39)
    (hn : ∀ m : Int, -9223372036854775808 ≤ m → m ≤ 9223372036854775807 → s.data.toList = Lib.itoa m → n = m) : prs s = if fmtV ⟨1, n, ⟨#[]⟩⟩ = s then (⟨1, n, ⟨#[]⟩⟩, 0) else (⟨0, 0, ⟨#[]⟩⟩, 2) := by
  refine prs_cand ⟨1, n, ⟨#[]⟩⟩ s h0 h1 (fun v hv k0 k1 hf => ?_) (fun _ => by rfl)
  subst hf
  rcases validV_k hv with h | h | h
  · exact absurd (null_of hv h).2 hs
  · obtain ⟨ht, e⟩ := int_of hv h
    have := hn v.n k0 k1 e
    obtain ⟨k, n', t⟩ := v
    dsimp only at h ht this
    rw [h, ht, this]
  · exact absurd (by rw [(text_of hv h).2]; rfl) hq

theorem quo_lt (t : List UInt8) (j : Nat) (h : j < t.length) : (quo (t.take j)).length < (quo t).length := by
  have e : quo t = quo (t.take j) ++ quo (t.drop j) := by rw [← quo_app, List.take_append_drop]
  rw [e, List.length_append]
  have : 0 < (quo (t.drop j)).length := by
    rw [List.drop_eq_getElem_cons h, quo]
    split <;> simp
  omega

end Go.Proofs.YtkldgehnioapcaaDoor
