/-
  Walks over the reference's search: the case of no characters left.
-/
import Derived.Test.YtbniemkllhhnfaaW23
namespace Go.Proofs.Ytbniemkllhhnfaa
open Go.RowKit
set_option maxHeartbeats 1000000
set_option maxRecDepth 100000

theorem rLoop_good (ts : List Tst) (most : Int) (rec : Nat → Rst → Rst) (hr : ∀ c s, (∀ d ∈ s.dead, rokL ts d.1) → ∀ d ∈ (rec c s).dead, rokL ts d.1) (cs : List Nat) : ∀ (s : Rst), (∀ d ∈ s.dead, rokL ts d.1) → ∀ d ∈ (rLoop most rec cs s).dead, rokL ts d.1 := by
  induction cs with
  | nil => intro s h; exact h
  | cons c cs ih =>
    intro s h
    unfold rLoop
    split
    · exact ih _ (hr c s h)
    · exact h
theorem rsr_good (ts : List Tst) (most : Int) (n : Nat) : ∀ (a : List (List Nat)) (text : List Nat) (s : Rst), rokL ts a → (∀ d ∈ s.dead, rokL ts d.1) → ∀ d ∈ (rsr ts most n a text s).dead, rokL ts d.1 := by
  induction n with
  | zero => intro a text s _ h; unfold rsr; split <;> exact h
  | succ n ih =>
    intro a text s ha h
    unfold rsr
    split
    · exact h
    · have := rLoop_good ts most (fun c s => rsr ts most n (rnxs ts a c) (text ++ [c]) s) (fun c s h => ih _ _ _ (rnxs_ok ts a c ha) h) chars s h
      dsimp only
      split
      · intro d hd
        simp only [List.mem_append, List.mem_singleton] at hd
        rcases hd with hd | rfl
        · exact this d hd
        · exact ha
      · exact this
theorem own_slice {w : World} {B e n : Nat} {v : Value} {xs : List Value} (h : w.ownsRow B e 1 v n xs) : ∃ a c, v = .slice a n c := by
  rcases h.2 with ⟨h1, h2⟩ | ⟨g, cap, cur, h1, _⟩
  · exact ⟨none, 0, by rw [h1, h2]⟩
  · exact ⟨_, _, h1⟩

def SearchSaid (left : Nat) : Prop := ∀ (B D : Nat) (A Al : Option Addr) (ts : List Tst) (n c cl : Nat) (most z : Int) (w : World) (st : Rst) (vals : List Value) (nv lv ov : Value) (text : List Nat) (a : List (List Nat)) (sx : ByteArray),
    z = left → left ≤ 200 → sx = S text → text.length + left ≤ 1000 → Gm B D A ts w st.out (st.dead.map (·.1)) (st.dead.map (·.2)) vals nv lv ov → NodeAt w ov (.slice Al n cl) a → ts.length = n → rokL ts a → (∀ d ∈ st.dead, rokL ts d.1) → n ≤ 1000 → Few ts →
    (rsr ts most left a text st).out.length < 1000000 → (rsr ts most left a text st).dead.length < 4000000000000 →
    Calls Try.prog 41 #[.slice A n c, .slice Al n cl, .string sx, .int .i64 z, .int .i64 most, .pointer (some ⟨D, 0, none⟩), ov] w fun e w' =>
      ∃ vals' nv' lv' ov', e = .returned ov' ∧ Gm B D A ts w' (rsr ts most left a text st).out ((rsr ts most left a text st).dead.map (·.1)) ((rsr ts most left a text st).dead.map (·.2)) vals' nv' lv' ov' ∧ Gr B w w' ov ov'

theorem search_zero : SearchSaid 0 := by
  intro B D A Al ts n c cl most z w st vals nv lv ov text a sx hz _ hsx _ hm hna hn hok hgood hlen hfew hout _
  obtain ⟨i0, hi, hz0, hz1, hz2⟩ := info_parts info9
  subst hz hsx
  obtain ⟨Al', cl', e, hrd⟩ := hna.rd
  simp only [Value.slice.injEq] at e
  obtain ⟨rfl, -, rfl⟩ := e
  obtain ⟨ao, co, rfl⟩ := own_slice hm.out
  have HM := hid hm
  have HN := hid hn
  have HF := hid hfew
  have HK := hid hok
  clear hm hn hfew hok hna
  cases ha : rallOk ts a
  · have er : rsr ts most 0 a text st = st := by unfold rsr; rw [if_neg (by rw [ha]; simp)]
    rw [er]
    go_enter Try.func41, Try.ntmps41
    go_wp2_with fail
    refine (rfinals_any A Al ts n c cl a w HM.out.tests hrd HN.out hlen HF.out HK.out).mono ?_
    rintro e w1 ⟨rfl, hx1⟩
    rw [ha]
    go_wp2_with fail
    go_ret
    exact ⟨vals, nv, lv, _, rfl, HM.out.ext hx1, Gr.of_ext hx1 _⟩
  · by_cases hmo : (st.out.length : Int) < most
    · have er : rsr ts most 0 a text st = { st with out := st.out ++ [text] } := by unfold rsr; rw [if_pos ⟨ha, hmo⟩]
      rw [er] at hout ⊢
      simp only [List.length_append, List.length_singleton] at hout
      go_enter Try.func41, Try.ntmps41
      go_wp2_with fail
      refine (rfinals_any A Al ts n c cl a w HM.out.tests hrd HN.out hlen HF.out HK.out).mono ?_
      rintro e w1 ⟨rfl, hx1⟩
      rw [ha]
      go_wp2_with (at_builtin; refine wpList_app _ rfl _ _ 31 rfl B 9 i0 (.string ⟨#[]⟩) 16 Try.underlying31 hi hz0 hz1 hz2 rfl _ _ _ rfl (own_ext HM.out.out (hx1.alloc _)) ⟨w1.heap.size, 0, none⟩ 1 1 [.string (S text)] rfl rfl (news_new _ _ _) (by intro u hu; simp at hu; subst hu; rfl) (by unfold maxLen; omega) (by omega) (by have := HM.out.hBw; have := hx1.size; simp at this ⊢; omega) ?_; intro v' w2 ho2 hg2 ha2 _ _)
      go_ret
      obtain ⟨r1, r2⟩ := (HM.out.ext (hx1.alloc _)).text text hg2 ho2 ha2
      exact ⟨vals, nv, lv, v', rfl, r1, (Gr.of_ext (hx1.alloc _) _).trans r2⟩
    · have er : rsr ts most 0 a text st = st := by unfold rsr; rw [if_neg (fun h => hmo h.2)]
      rw [er]
      go_enter Try.func41, Try.ntmps41
      go_wp2_with fail
      refine (rfinals_any A Al ts n c cl a w HM.out.tests hrd HN.out hlen HF.out HK.out).mono ?_
      rintro e w1 ⟨rfl, hx1⟩
      rw [ha]
      go_wp2_with fail
      go_ret
      exact ⟨vals, nv, lv, _, rfl, HM.out.ext hx1, Gr.of_ext hx1 _⟩

end Go.Proofs.Ytbniemkllhhnfaa
