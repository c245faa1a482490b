/-
  Walks over the laws of the lexer: LexerConcatenation.
-/
import Derived.Test.YtmnjfhjhbjhmhaaDoorW26
import Derived.BigQuiet
namespace Go.Proofs.YtmnjfhjhbjhmhaaDoor
open Go.RowKit
set_option linter.unusedVariables false
set_option maxHeartbeats 2000000
set_option maxRecDepth 100000

theorem T_bad23 : ∀ (m : Nat) (l : List UInt8) (p a e : Nat), l.length ≤ m → T l p = .bad a e → e = 2 ∨ e = 3 := by
  intro m
  induction m with
  | zero =>
    intro l p a e hl h
    obtain rfl : l = [] := List.eq_nil_of_length_eq_zero (by omega)
    rw [T_end [] p rfl] at h
    cases h
  | succ m ih =>
    intro l p a e hl h
    cases hd : l.drop (skipN false l) with
    | nil => rw [T_end l p hd] at h; cases h
    | cons c r =>
      cases ht : tokL (c :: r) with
      | bad e' =>
        rw [T_bad l p c r e' hd ht] at h
        injection h with _ h
        subst h
        exact tok_bad c r e' ht
      | tok k x n =>
        have hb := tok_bound c r k x n ht
        have hlen : (c :: r).length ≤ l.length := by rw [← hd, List.length_drop]; omega
        rw [T_tok l p c r k x n hd ht] at h
        cases hz : T ((c :: r).drop n) (p + skipN false l + n) with
        | bad a' e' =>
          rw [hz] at h
          injection h with _ h
          subst h
          exact ih _ _ _ _ (by rw [List.length_drop]; omega) hz
        | ok z => rw [hz] at h; cases h
theorem all_bad (s : ByteArray) (a e : Nat) (h : tokAll s = .bad a e) : ((e : Int) != 0) = true := by
  rw [bne_iff_ne]
  unfold tokAll at h
  split at h
  · injection h with _ h
    omega
  · have := T_bad23 _ _ _ _ _ (Nat.le_refl _) h
    omega
theorem cat_all (a b : ByteArray) (x y : List Tk) (ha : a.size ≤ 2000) (hb : b.size ≤ 2000) (hx : tokAll a = .ok x) (hy : tokAll b = .ok y) :
    ∃ x' : List Tk, x = x' ++ [⟨0, [], a.size⟩] ∧ tokAll (a ++ ⟨#[10]⟩ ++ b) = .ok (x' ++ y.map (Tk.sh (a.size + 1))) := by
  unfold tokAll at hx hy ⊢
  rw [if_neg (by omega)] at hx hy
  have hsz : (a ++ (⟨#[10]⟩ : ByteArray) ++ b).size ≤ 4001 := by
    rw [ByteArray.size_append, ByteArray.size_append]
    have : (⟨#[10]⟩ : ByteArray).size = 1 := rfl
    omega
  rw [if_neg (by omega)]
  obtain ⟨x', h1, h2⟩ := T_cat _ a.data.toList 0 x (Nat.le_refl _) hx
  rw [Nat.zero_add, lst_len] at h1 h2
  refine ⟨x', h1, ?_⟩
  have hl : (a ++ (⟨#[10]⟩ : ByteArray) ++ b).data.toList = a.data.toList ++ 10 :: b.data.toList := by
    rw [ByteArray.data_append, Array.toList_append, ByteArray.data_append, Array.toList_append, List.append_assoc]
    rfl
  rw [hl, h2]
  have h3 := T_shift (a.size + 1) _ b.data.toList 0 (Nat.le_refl _)
  rw [Nat.zero_add, hy] at h3
  rw [h3]
  rfl
theorem TksAt.take {w : World} {A : Option Addr} {l : List Tk} (h : TksAt w A l) (n : Nat) : TksAt w A (l.take n) := fun i t ht => by
  refine h i t ?_
  rw [List.getElem?_take] at ht
  split at ht
  · exact ht
  · cases ht
theorem TksAt.drop {w : World} {b off : Nat} {l : List Tk} (h : TksAt w (some ⟨b, off, none⟩) l) (n : Nat) : TksAt w (some ⟨b, off + n * 3, none⟩) (l.drop n) := fun i t ht => by
  rw [List.getElem?_drop] at ht
  obtain ⟨b', off', e, h0, h1, h2⟩ := h (n + i) t ht
  simp only [Option.some.injEq, Addr.mk.injEq, and_true] at e
  obtain ⟨rfl, rfl⟩ := e
  have e : off + (n + i) * 3 = off + n * 3 + i * 3 := by omega
  rw [e] at h0 h1 h2
  exact ⟨b, off + n * 3, rfl, h0, h1, h2⟩
theorem TksAt.head {w : World} {A : Option Addr} {l : List Tk} (h : TksAt w A l) (hl : 0 < l.length) : ∃ b off, A = some ⟨b, off, none⟩ := by
  obtain ⟨b, off, hA, _⟩ := h 0 l[0] (List.getElem?_eq_getElem hl)
  exact ⟨b, off, hA⟩
theorem cap_ok {w : World} (s : ByteArray) (l : List Tk) (n : Nat) (hn : l.length = n) (h : tokAll s = .ok l) (hs : s.size ≤ 20000) (hk : KwAt w) (h0 : 0 < n) : ∀ W, Ext w W → Calls Tryd.prog 11 #[.string s] W fun e w' => ∃ b off c, e = .returned (.tuple #[.slice (some ⟨b, off, none⟩) n c, .int .i64 0, .int .i64 0]) ∧ TksAt w' (some ⟨b, off, none⟩) l ∧ n ≤ c ∧ Ext W w' := by
  subst hn
  intro W hW
  refine (tokens_cap s W hs (hk.ext hW)).mono ?_
  rintro e w' ⟨v, rfl, hv, hx⟩
  rw [h] at hv
  obtain ⟨A, c, rfl, hat, hc⟩ := hv
  obtain ⟨b, off, rfl⟩ := TksAt.head hat h0
  exact ⟨b, off, c, rfl, hat, hc, hx⟩
theorem rcap_ok (s : ByteArray) (l : List Tk) (n : Nat) (hn : l.length = n) (h : tokAll s = .ok l) (hs : s.size ≤ 20000) (h0 : 0 < n) : ∀ W, Calls Tryd.prog 12 #[.string s] W fun e w' => ∃ b off c, e = .returned (.tuple #[.slice (some ⟨b, off, none⟩) n c, .int .i64 0, .int .i64 0]) ∧ TksAt w' (some ⟨b, off, none⟩) l ∧ n ≤ c ∧ Ext W w' := by
  subst hn
  intro W
  refine (rtokens_cap s W hs).mono ?_
  rintro e w' ⟨v, rfl, hv, hx⟩
  rw [h] at hv
  obtain ⟨A, c, rfl, hat, hc⟩ := hv
  obtain ⟨b, off, rfl⟩ := TksAt.head hat h0
  exact ⟨b, off, c, rfl, hat, hc, hx⟩
theorem rbad_ok (s : ByteArray) (p e : Nat) (h : tokAll s = .bad p e) (hs : s.size ≤ 20000) : ∀ W, Calls Tryd.prog 12 #[.string s] W fun e' w' => ∃ A c, e' = .returned (.tuple #[.slice A 0 c, .int .i64 p, .int .i64 e]) ∧ Ext W w' := by
  intro W
  refine (rtokens_cap s W hs).mono ?_
  rintro e w' ⟨v, rfl, hv, hx⟩
  rw [h] at hv
  obtain ⟨A, c, rfl, _, _⟩ := hv
  exact ⟨A, c, rfl, hx⟩
theorem rany_ok (s : ByteArray) (hs : s.size ≤ 20000) : ∀ W, Calls Tryd.prog 12 #[.string s] W fun e' w' => ∃ A n c p e, e' = .returned (.tuple #[.slice A n c, .int .i64 p, .int .i64 e]) ∧ Ext W w' := by
  intro W
  refine (rtokens_cap s W hs).mono ?_
  rintro e w' ⟨v, rfl, hv, hx⟩
  obtain ⟨A, c, rfl, _, _⟩ := hv
  exact ⟨A, _, c, _, _, rfl, hx⟩
theorem all_pos (s : ByteArray) (l : List Tk) (h : tokAll s = .ok l) : 0 < l.length := by
  have := all_offs s l h
  cases l with
  | nil => exact absurd this (by intro h; exact h)
  | cons t u => rw [List.length_cons]; omega
theorem law_concat (a b : ByteArray) (w : World) (hma : a.size ≤ maxLen) (hmb : b.size ≤ maxLen) (hk : KwAt w) (hsh : Sh w) : Calls Tryd.prog 4 #[.string a, .string b] w fun e w' => e = .returned (.bool true) ∧ Ext w w' := by
  have HA := hid (fun W (h : Ext w W) => awake_any W (hk.ext h) (hsh.ext h))
  by_cases hs : a.size ≤ 2000
  · by_cases hs2 : b.size ≤ 2000
    · cases hx : tokAll a with
      | bad p e =>
        have b1 := all_bad a p e hx
        have HX := hid (rbad_ok a p e hx (by omega))
        have HY := hid (rany_ok b (by omega))
        clear hx
        go_enter Tryd.func4, Tryd.ntmps4
        go_wp2_with (first
          | (go_at_call 10; refine (HA.out _ (Ext.refl w)).mono ?_; rintro e' w1 ⟨rfl, hx1⟩)
          | (go_at_call 12; refine (HX.out _).mono ?_; rintro e' w2 ⟨A1, c1, rfl, hx2⟩; clear HX)
          | (go_at_call 12; refine (HY.out _).mono ?_; rintro e' w3 ⟨A2, n2, c2, p2, e2, rfl, hx3⟩))
        go_ret
        exact ⟨rfl, (hx1.trans hx2).trans hx3⟩
      | ok x =>
        have hxl := all_pos a x hx
        have HX := hid (rcap_ok a x x.length rfl hx (by omega) hxl)
        cases hy : tokAll b with
        | bad p e =>
          have b1 := all_bad b p e hy
          have HY := hid (rbad_ok b p e hy (by omega))
          clear hx hy
          generalize x.length = n1 at *
          go_enter Tryd.func4, Tryd.ntmps4
          go_wp2_with (first
            | (go_at_call 10; refine (HA.out _ (Ext.refl w)).mono ?_; rintro e' w1 ⟨rfl, hx1⟩)
            | (go_at_call 12; refine (HX.out _).mono ?_; rintro e' w2 ⟨A1, o1, c1, rfl, _, _, hx2⟩; clear HX)
            | (go_at_call 12; refine (HY.out _).mono ?_; rintro e' w3 ⟨A2, c2, rfl, hx3⟩))
          go_ret
          exact ⟨rfl, (hx1.trans hx2).trans hx3⟩
        | ok y =>
          obtain ⟨x', hxe, hc⟩ := cat_all a b x y hs hs2 hx hy
          have hyl := all_pos b y hy
          have hylen := (all_len b).1
          have hypos := (all_len b).2
          have hxlen := (all_len a).1
          have hxpos := (all_len a).2
          rw [hx] at hxlen hxpos
          rw [hy] at hylen hypos
          simp only [lsL] at hylen hypos hxlen hxpos
          have hn1 : x.length = x'.length + 1 := by rw [hxe, List.length_append]; rfl
          have hnb : x'.length ≤ 2000 := by rw [hn1] at hxlen; omega
          have hcl : (x' ++ y.map (Tk.sh (a.size + 1))).length = x'.length + y.length := by rw [List.length_append, List.length_map]
          have hcz : (a ++ (⟨#[10]⟩ : ByteArray) ++ b).size ≤ 20000 := by
            rw [ByteArray.size_append, ByteArray.size_append]
            have : (⟨#[10]⟩ : ByteArray).size = 1 := rfl
            omega
          have HC := hid (cap_ok (w := w) _ _ _ hcl hc hcz hk (by omega))
          have HX2 : Hid (∀ W, Calls Tryd.prog 12 #[.string a] W fun e w' => ∃ b off c, e = .returned (.tuple #[.slice (some ⟨b, off, none⟩) (x'.length + 1) c, .int .i64 0, .int .i64 0]) ∧ TksAt w' (some ⟨b, off, none⟩) x ∧ x'.length + 1 ≤ c ∧ Ext W w') := by
            intro W
            have := HX.out W
            rw [hn1] at this
            exact this
          have HY := hid (rcap_ok b y y.length rfl hy (by omega) hyl)
          have hxt : x.take x'.length = x' := by rw [hxe, List.take_left]
          have hlt : (x' ++ y.map (Tk.sh (a.size + 1))).take x'.length = x' := List.take_left
          have hld : (x' ++ y.map (Tk.sh (a.size + 1))).drop x'.length = y.map (Tk.sh (a.size + 1)) := List.drop_left
          have HS1 : Hid (∀ (W : World) (b1 o1 c1 b2 o2 c2 L1 L2 : Nat) (D : Int), L1 = x'.length → L2 = x'.length → D = 0 → TksAt W (some ⟨b1, o1, none⟩) (x' ++ y.map (Tk.sh (a.size + 1))) → TksAt W (some ⟨b2, o2, none⟩) x →
              Calls Tryd.prog 13 #[.slice (some ⟨b1, o1, none⟩) L1 c1, .slice (some ⟨b2, o2, none⟩) L2 c2, .int .i64 D] W fun e w' => e = .returned (.bool true) ∧ Ext W w') := by
            rintro W b1 o1 c1 b2 o2 c2 _ _ _ rfl rfl rfl h1 h2
            have h1' := h1.take x'.length
            have h2' := h2.take x'.length
            rw [hlt] at h1'
            rw [hxt] at h2'
            exact same_true _ _ _ _ c1 c2 0 x' x' W h1' h2' rfl rfl (sh_zero x') (by omega) (by decide) (fun t ht => by have := hxpos t (by rw [hxe]; exact List.mem_append_left _ ht); omega)
          have HS2 : Hid (∀ (W : World) (b1 o1 c1 b2 o2 c2 O1 L1 L2 : Nat) (D : Int), O1 = o1 + x'.length * 3 → L1 = y.length → L2 = y.length → D = (a.size : Int) + 1 → TksAt W (some ⟨b1, o1, none⟩) (x' ++ y.map (Tk.sh (a.size + 1))) → TksAt W (some ⟨b2, o2, none⟩) y →
              Calls Tryd.prog 13 #[.slice (some ⟨b1, O1, none⟩) L1 c1, .slice (some ⟨b2, o2, none⟩) L2 c2, .int .i64 D] W fun e w' => e = .returned (.bool true) ∧ Ext W w') := by
            rintro W b1 o1 c1 b2 o2 c2 _ _ _ _ rfl rfl rfl rfl h1 h2
            have h1' := h1.drop x'.length
            rw [hld] at h1'
            exact same_true _ _ _ _ c1 c2 (a.size + 1) (y.map (Tk.sh (a.size + 1))) y W h1' h2 (List.length_map _) rfl rfl (by omega) (by omega) (fun t ht => by have := hypos t ht; omega)
          clear HX hx hy hxt hlt hld hc hcl hxe hn1 hypos hxpos
          generalize x' ++ y.map (Tk.sh (a.size + 1)) = z at *
          generalize x'.length = n at *
          obtain ⟨m, hm⟩ : ∃ m, y.length = m := ⟨_, rfl⟩
          rw [hm] at HY HC HS2 hyl hylen
          clear hm
          have b5 : ((n : Int) + (m : Int) == (n : Int) + (m : Int)) = true := beq_self_eq_true _
          go_enter Tryd.func4, Tryd.ntmps4
          go_wp2_with (first
            | (go_at_call 10; refine (HA.out _ (Ext.refl w)).mono ?_; rintro e' w1 ⟨rfl, hx1⟩)
            | (go_at_call 12; refine (HX2.out _).mono ?_; rintro e' w2 ⟨b1, o1, c1, rfl, hat1, hc1, hx2⟩; clear HX2)
            | (go_at_call 12; refine (HY.out _).mono ?_; rintro e' w3 ⟨b2, o2, c2, rfl, hat2, hc2, hx3⟩)
            | (go_at_call 11; refine (HC.out _ ((hx1.trans hx2).trans hx3)).mono ?_; rintro e' w4 ⟨b4, o4, c4, rfl, hat4, hc4, hx4⟩))
          have HP1 : ∀ W, Ext w4 W → TksAt W (some ⟨b1, o1, none⟩) x := fun W h => ((hat1.ext hx3).ext hx4).ext h
          have HP2 : ∀ W, Ext w4 W → TksAt W (some ⟨b2, o2, none⟩) y := fun W h => (hat2.ext hx4).ext h
          have HP4 : ∀ W, Ext w4 W → TksAt W (some ⟨b4, o4, none⟩) z := fun W h => hat4.ext h
          clear hat1 hat2 hat4
          refine wp_region_later (by kernel_rfl) (by kernel_rfl) ?_
          repeat (go_big_quiet_step ((go_at_call 13; first
            | exact later_of (HS1.out _ _ _ _ _ _ _ _ _ _ (by omega) (by omega) (by omega) (HP4 _ (Later.ext _)) (HP1 _ (Later.ext _)))
            | exact later_of (HS2.out _ _ o4 _ _ _ _ _ _ _ _ (by omega) (by omega) (by omega) (by omega) (HP4 _ (Later.ext _)) (HP2 _ (Later.ext _))))))
          refine wpQuiet_nil ?_
          intro w' hw'
          have hx := later_out hw'
          clear hw'
          go_wp2_with fail
          go_ret
          exact ⟨ret_bool (by simp), ((((hx1.trans hx2).trans hx3).trans hx4).trans hx)⟩
    · go_enter Tryd.func4, Tryd.ntmps4
      go_wp2_with (first
        | (go_at_call 10; refine (HA.out _ (Ext.refl w)).mono ?_; rintro e' w1 ⟨rfl, hx1⟩)
        | (go_at_call 10; refine (HA.out _ hx1).mono ?_; rintro e' w2 ⟨rfl, hx2⟩))
      go_ret
      exact ⟨rfl, hx1.trans hx2⟩
  · go_enter Tryd.func4, Tryd.ntmps4
    go_wp2_with (first
      | (go_at_call 10; refine (HA.out _ (Ext.refl w)).mono ?_; rintro e' w1 ⟨rfl, hx1⟩)
      | (go_at_call 10; refine (HA.out _ hx1).mono ?_; rintro e' w2 ⟨rfl, hx2⟩))
    go_ret
    exact ⟨rfl, hx1.trans hx2⟩
end Go.Proofs.YtmnjfhjhbjhmhaaDoor
