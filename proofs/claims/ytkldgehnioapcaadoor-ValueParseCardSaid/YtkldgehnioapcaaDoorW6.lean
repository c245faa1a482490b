/-
  Walks over the value package: rows; FormatRow; the examples.
-/
import Derived.Test.YtkldgehnioapcaaDoorW5
import Derived.Lib.Join
namespace Go.Proofs.YtkldgehnioapcaaDoor
open Go.RowKit
set_option maxHeartbeats 1000000
set_option maxRecDepth 100000

/-- a slice of values, read -/
def ValsAt (w : World) (A : Option Addr) (l : List Val) : Prop :=
  ∀ (i : Nat) (a : Val), l[i]? = some a → ∃ b off, A = some ⟨b, off, none⟩ ∧ w.cell? ⟨b, off + i * 3, none⟩ = some (.int .i64 a.k) ∧ w.cell? ⟨b, off + i * 3 + 1, none⟩ = some (.int .i64 a.n) ∧
    w.cell? ⟨b, off + i * 3 + 2, none⟩ = some (.string a.t)
theorem ValsAt.ext {w w' : World} {A : Option Addr} {l : List Val} (h : ValsAt w A l) (hx : Ext w w') : ValsAt w' A l := fun i a ht => by
  obtain ⟨b, off, hA, h0, h1, h2⟩ := h i a ht
  exact ⟨b, off, hA, hx.keep h0, hx.keep h1, hx.keep h2⟩
theorem ownN_ext {w w' : World} {B e sz n : Nat} {v : Value} {xs : List Value} (h : w.ownsRow B e sz v n xs) (hx : Ext w w') : w'.ownsRow B e sz v n xs := by
  obtain ⟨h1, h2⟩ := h
  refine ⟨h1, ?_⟩
  rcases h2 with h2 | ⟨g, cap, cur, hv, hg, hh, r⟩
  · exact .inl h2
  · exact .inr ⟨g, cap, cur, hv, hg, (Below.block hx g (Array.getElem?_eq_some_iff.1 hh).1).trans hh, r⟩
theorem news_at (w : World) (cs : Array Value) (e : TypeId) (n : Nat) (hn : n = w.heap.size) : ∀ (j : Nat) (u : Value), cs.toList[j]? = some u → (w.alloc (.cells cs e)).cell? ((⟨n, 0, none⟩ : Addr).add j) = some u := by
  subst hn
  exact news_new w cs e

theorem itoa_ne (n : Int) : Lib.itoa n ≠ [] := by
  unfold Lib.itoa
  split
  · simp
  · intro h
    have := Lib.nDigits_pos n.toNat
    rw [← Lib.decDigits_length, h] at this
    simp at this
theorem fmtV_empty (a : Val) : (fmtV a).toList.isEmpty = !(validV a) := by
  rw [ByteArray.toList_eq]
  unfold fmtV
  cases hv : validV a
  · rfl
  · rw [if_pos rfl]
    split
    · rfl
    · split
      · show (Lib.itoa a.n).toArray.toList.isEmpty = _
        have := itoa_ne a.n
        cases h : Lib.itoa a.n
        · exact absurd h this
        · rfl
      · simp

def fmtS (l : List Val) : List ByteArray := l.map fmtV
def fmtRow (l : List Val) : ByteArray :=
  if (l.all validV) = true then ⟨#[40]⟩ ++ ⟨(Lib.join ((fmtS l).map (·.data.toList)) [44, 32]).toArray⟩ ++ ⟨#[41]⟩ else ⟨#[]⟩
theorem joinTail_len (sep : List UInt8) (M : Nat) : ∀ r : List (List UInt8), (∀ x ∈ r, x.length ≤ M) → (Lib.joinTail sep r).length ≤ r.length * (M + sep.length)
  | [], _ => by simp [Lib.joinTail]
  | x :: r, h => by
    have ih := joinTail_len sep M r (fun y hy => h y (List.mem_cons_of_mem _ hy))
    have hx := h x (List.mem_cons_self ..)
    have e : Lib.joinTail sep (x :: r) = (sep ++ x) ++ Lib.joinTail sep r := by simp [Lib.joinTail]
    rw [e, List.length_append, List.length_append, List.length_cons, Nat.succ_mul]
    omega
theorem join_len (sep : List UInt8) (M : Nat) : ∀ r : List (List UInt8), (∀ x ∈ r, x.length ≤ M) → (Lib.join r sep).length ≤ r.length * (M + sep.length)
  | [], _ => by simp [Lib.join_nil]
  | x :: r, h => by
    have ih := joinTail_len sep M r (fun y hy => h y (List.mem_cons_of_mem _ hy))
    have hx := h x (List.mem_cons_self ..)
    rw [Lib.join_cons, List.length_append, List.length_cons, Nat.succ_mul]
    omega

theorem info9 : (Tryd.prog.info? 9).map (fun i => (i.zero, i.size, i.bytes)) = some (some (.string ⟨#[]⟩), 1, 16) := by kernel_rfl
def strs (l : List ByteArray) : List Value := l.map Value.string

theorem formatrow_any (A : Option Addr) (l : List Val) (n c : Nat) (w : World) (hl : ValsAt w A l) (hn : l.length = n) (hm : n ≤ 1000) (hs : ∀ a ∈ l, a.t.size ≤ 1000) (hw : Sh w) (hc : ∀ a ∈ l, Can w a.n) :
    Calls Tryd.prog 29 #[.slice A n c] w fun e w' => e = .returned (.string (fmtRow l)) ∧ Ext w w' := by
  obtain ⟨i0, hi, hz0, hz1, hz2⟩ := info_parts info9
  have HN := hid hn
  have HS := hid hs
  have HC := hid hc
  have HW := hid hw
  have HL := hid hl
  clear hn hs hc hw hl
  go_enter Tryd.func29, Tryd.ntmps29
  go_wp2_with fail
  go_loopw [3, 9] (fun sv i wr => ∃ (k : Nat) (v : Value), k ≤ n ∧ i = .int .i64 k ∧ v = sv ∧ (l.take k).all validV = true ∧ wr.ownsRow w.heap.size 9 1 v k (strs (fmtS (l.take k))) ∧ Ext w wr) (fun _ i _ => n - (intOf i).toNat)
  case atStart => exact ⟨0, _, Nat.zero_le _, rfl, rfl, rfl, World.ownsRow_nil _ _ _ _, Ext.refl w⟩
  case round =>
    obtain ⟨k, v, hk, rfl, rfl, hv, hown, hxr⟩ := hrel
    have HV := hid hv
    have HOWN := hid hown
    clear hv hown
    by_cases hlt : k < n
    · obtain ⟨a, ha⟩ : ∃ a, l[k]? = some a := ⟨_, List.getElem?_eq_getElem (by rw [HN.out]; exact hlt)⟩
      obtain ⟨b, off, rfl, c0, c1, c2⟩ := (HL.out.ext hxr) k a ha
      have hsz := HS.out a (List.mem_of_getElem? ha)
      have hcn := hid (HC.out a (List.mem_of_getElem? ha))
      obtain ⟨F, hF⟩ : ∃ F, F = fmtV a := ⟨_, rfl⟩
      have hfa : ∀ W, Sh W → Can W a.n → Calls Tryd.prog 26 #[.agg #[.int .i64 a.k, .int .i64 a.n, .string a.t]] W fun e w' => e = .returned (.string F) ∧ Ext W w' := fun W h1 h2 => by rw [hF]; exact format_any a.k a.n a.t W hsz h1 h2
      have HE : Hid (F.toList.isEmpty = !(validV a)) := by rw [hF]; exact fmtV_empty a
      have HFA := hid hfa
      have HF := hid hF
      have HT : Hid (l.take (k + 1) = l.take k ++ [a]) := by
        obtain ⟨hi, rfl⟩ := List.getElem?_eq_some_iff.1 ha
        exact List.take_succ_eq_append_getElem hi
      have HA := hid ha
      have HXR := hid hxr
      have HK1 : Hid (k + 1 ≤ maxLen) := by unfold Hid maxLen; omega
      have HK2 : Hid ((k + 1) * 16 ≤ 140737488355328) := by unfold Hid; omega
      clear ha hxr hF hfa
      go_wp2_with fail
      refine (HFA.out _ (HW.out.ext (HXR.out.alloc _)) (hcn.out.ext (HXR.out.alloc _))).mono ?_
      rintro e w1 ⟨rfl, hx1⟩
      have HX1 : Hid (Ext w w1) := (HXR.out.alloc _).trans hx1
      have HO1 : Hid (w1.ownsRow w.heap.size 9 1 v k (strs (fmtS (l.take k)))) := ownN_ext HOWN.out (((Ext.refl wr).alloc _).trans hx1)
      have HSZ : Hid (w.heap.size ≤ w1.heap.size + 1) := by have := HX1.out.size; unfold Hid; omega
      clear hx1
      cases hv : validV a
      · have he : F.toList.isEmpty = true := by rw [HE.out, hv]; rfl
        have HR : Hid (fmtRow l = ⟨#[]⟩) := by
          unfold Hid fmtRow
          rw [if_neg]
          intro hall
          rw [List.all_eq_true] at hall
          have := hall a (List.mem_of_getElem? HA.out)
          rw [hv] at this
          cases this
        go_wp2_with fail
        go_ret
        exact ⟨ret_str HR.out.symm, HX1.out⟩
      · have he : F.toList.isEmpty = false := by rw [HE.out, hv]; rfl
        have HVA := hid hv
        clear hv
        go_wp2_with (at_builtin; refine wpList_append_own _ rfl _ _ 62 rfl w.heap.size 9 i0 (.string ⟨#[]⟩) 1 16 Tryd.underlying62 hi hz0 hz1 hz2 rfl (by decide) _ _ _ rfl (HO1.out.alloc _) ⟨_, 0, none⟩ 1 1 [Value.string F] rfl rfl (news_at _ _ _ _ (by simp)) (by intro u hu; simp at hu; subst hu; rfl) HK1.out HK2.out (by have := HSZ.out; simpa using this) ?_; intro v' w9 hown' hgrow _)
        go_roundw
        case rel =>
          refine ⟨k + 1, _, by omega, by go_num, rfl, ?_, ?_, Ext.grown (HX1.out.alloc _) hgrow (fun g hg => own_ge HO1.out hg)⟩
          · rw [HT.out, List.all_append, HV.out]
            simp [HVA.out]
          · rw [HT.out]
            have e : strs (fmtS (l.take k ++ [a])) = strs (fmtS (l.take k)) ++ [Value.string F] := by rw [HF.out]; simp [strs, fmtS]
            rw [e]
            exact hown'
        case measure => simp [intOf]; omega
    · obtain rfl : k = n := by omega
      have HXR := hid hxr
      have hlk : l.take k = l := List.take_of_length_le (by rw [HN.out]; exact Nat.le_refl _)
      have HV2 : Hid (l.all validV = true) := by have := HV.out; rw [hlk] at this; exact this
      have HR : Hid (fmtRow l = ⟨#[40]⟩ ++ ⟨(Lib.join ((fmtS l).map (·.data.toList)) [44, 32]).toArray⟩ ++ ⟨#[41]⟩) := by unfold Hid fmtRow; rw [if_pos HV2.out]
      have hown := HOWN.out
      rw [hlk] at hown
      have hlen : (fmtS l).length = k := by unfold fmtS; rw [List.length_map, HN.out]
      have HJ : Hid ((Lib.join ((fmtS l).map (·.data.toList)) [44, 32]).length ≤ 42000) := by
        have h1 := join_len [44, 32] 40 ((fmtS l).map (·.data.toList)) (fun x hx => by
          rw [List.mem_map] at hx
          obtain ⟨y, hy, rfl⟩ := hx
          unfold fmtS at hy
          rw [List.mem_map] at hy
          obtain ⟨a, ha, rfl⟩ := hy
          exact fmtV_size w a (HC.out a ha))
        rw [List.length_map, hlen] at h1
        have h2 : k * (40 + [(44 : UInt8), 32].length) ≤ 1000 * 42 := Nat.mul_le_mul hm (Nat.le_refl _)
        unfold Hid
        omega
      clear hlk hxr
      rcases hown.2 with ⟨rfl, h0⟩ | ⟨g, cap, cur, rfl, hg1, hg2, hg3, hg4, hg5, hg6⟩
      · have H0 := hid h0
        clear h0 hown hlen
        have HLN : Hid (l = []) := List.eq_nil_of_length_eq_zero (by rw [HN.out, H0.out])
        obtain rfl : k = 0 := H0.out
        go_wp2_with fail
        refine (Tryd.strings_Join_none none 0 _ _).mono ?_
        rintro e w2 ⟨rfl, rfl⟩
        go_wp2_with fail
        go_ret
        exact ⟨ret_str (by rw [HR.out, HLN.out]; rfl), HXR.out⟩
      · have hcl : ∀ (j : Nat) (x : ByteArray), (fmtS l)[j]? = some x → wr.cell? ⟨g, 0 + j, none⟩ = some (.string x) := fun j x hx => by
          have h1 := hown.cells (g := g) rfl j (.string x) (by unfold strs; rw [List.getElem?_map, hx]; rfl)
          have hadd : (⟨g, 0, none⟩ : Addr).add j = ⟨g, 0 + j, none⟩ := by unfold Addr.add; split <;> simp_all
          rwa [hadd] at h1
        have hgl : g < wr.heap.size := (Array.getElem?_eq_some_iff.1 hg2).1
        have hJC := Tryd.strings_Join g 0 cap (fmtS l) ⟨#[44, 32]⟩ wr hcl hgl (by rw [hlen]; omega) (by rw [hlen]; exact hg3) (by have := HJ.out; show (Lib.join ((fmtS l).map (·.data.toList)) [44, 32]).length ≤ _; omega)
        rw [hlen] at hJC
        have HJC := hid hJC
        clear hJC hcl hgl hown hlen hg1 hg2 hg3 hg4 hg5 hg6
        obtain ⟨J, hJ⟩ : ∃ J : ByteArray, J = ⟨(Lib.join ((fmtS l).map (·.data.toList)) [44, 32]).toArray⟩ := ⟨_, rfl⟩
        have hJs : J.size ≤ 42000 := by
          rw [hJ]
          show ((Lib.join ((fmtS l).map (·.data.toList)) [44, 32]).toArray).size ≤ 42000
          have := HJ.out
          simpa using this
        have HJ2 := hid hJ
        clear hJ
        go_wp2_with fail
        refine HJC.out.mono ?_
        rintro e w2 ⟨rfl, hx2⟩
        have e3 : (⟨(Lib.join ((fmtS l).map (·.data.toList)) (⟨#[44, 32]⟩ : ByteArray).data.toList).toArray⟩ : ByteArray) = J := HJ2.out.symm
        rw [e3]
        clear e3
        go_wp2_with fail
        go_ret
        exact ⟨ret_str (by rw [HR.out, HJ2.out]), HXR.out.trans hx2⟩

end Go.Proofs.YtkldgehnioapcaaDoor
