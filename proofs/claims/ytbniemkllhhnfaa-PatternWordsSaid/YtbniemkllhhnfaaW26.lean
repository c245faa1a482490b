/-
  Walks: the reference's Words, the law PatternWords.
-/
import Derived.Test.YtbniemkllhhnfaaW25
namespace Go.Proofs.Ytbniemkllhhnfaa
open Go.RowKit
set_option maxHeartbeats 1000000
set_option maxRecDepth 100000

theorem search_any (left : Nat) : SearchSaid left := by
  induction left with
  | zero => exact search_zero
  | succ m ih => exact search_succ m ih

theorem rwords_no (A : Option Addr) (n c : Nat) (length most : Int) (w : World) (h : length < 0 ∨ most < 1) :
    Calls Try.prog 19 #[.slice A n c, .int .i64 length, .int .i64 most] w fun e w' => e = .returned (.slice none 0 0) ∧ w = w' := by
  by_cases h0 : length < 0
  · have hd : decide (length < 0) = true := by simpa using h0
    clear h
    go_enter Try.func19, Try.ntmps19
    go_wp2_with fail
    go_ret
    exact ⟨rfl, rfl⟩
  · have hd : decide (length < 0) = false := by simpa using h0
    have h1 : most < 1 := by omega
    have hd1 : decide (most < 1) = true := by simpa using h1
    clear h
    go_enter Try.func19, Try.ntmps19
    go_wp2_with fail
    go_ret
    exact ⟨rfl, rfl⟩

theorem rwords_any (A : Option Addr) (ts : List Tst) (n c : Nat) (length most : Int) (w : World) (hts : TsAt w A ts) (hn : ts.length = n) (hlen : n ≤ 1000) (hok : Few ts)
    (hl0 : 0 ≤ length) (hl1 : length ≤ 200) (hm : 1 ≤ most) (ho : (rsr ts most length.toNat (rbegs ts) [] ⟨[], []⟩).out.length < 1000000) (hd : (rsr ts most length.toNat (rbegs ts) [] ⟨[], []⟩).dead.length < 4000000000000) :
    Calls Try.prog 19 #[.slice A n c, .int .i64 length, .int .i64 most] w fun e w' =>
      ∃ v, e = .returned v ∧ w'.ownsRow w.heap.size 9 1 v (rwordsF ts length most).length (strs (rwordsF ts length most)) ∧ Ext w w' := by
  obtain ⟨i0, hi, hz0, hz1, hz2⟩ := info_parts info9
  have hW : Hid (rwordsF ts length most = (rsr ts most length.toNat (rbegs ts) [] ⟨[], []⟩).out) := by
    unfold rwordsF; rw [if_neg (by omega)]; exact rfl
  have HN := hid hn
  have HK := hid hok
  have HO := hid ho
  have HD := hid hd
  have hdl : decide (length < 0) = false := by simp; omega
  have hdm : decide (most < 1) = false := by simp; omega
  clear hn hok ho hd
  go_enter Try.func19, Try.ntmps19
  go_wp2_with fail
  go_loopw [7, 8] (fun v i wr => ∃ k : Nat, k ≤ n ∧ i = .int .i64 k ∧ wr.ownsRow w.heap.size 9 1 v k (strs ((rbegs ts).take k)) ∧ Ext w wr) (fun _ i _ => n - (intOf i).toNat)
  case atStart => exact ⟨0, Nat.zero_le _, rfl, World.ownsRow_nil _ _ _ _, Ext.refl w⟩
  case round =>
    obtain ⟨k, hk, rfl, hown, hxr⟩ := hrel
    by_cases hlt : k < n
    · have hkl : k < ts.length := by rw [HN.out]; exact hlt
      obtain ⟨t, ht⟩ : ∃ t, ts[k]? = some t := ⟨_, List.getElem?_eq_getElem hkl⟩
      obtain ⟨b, off, rfl, hc0, hc1, hc2, hc3⟩ := (hts.ext hxr) k t ht
      have hp16 : t.p.size ≤ 16 := HK.out.le16 t (List.mem_of_getElem? ht)
      have hnk : Hid (strs ((rbegs ts).take (k + 1)) = strs ((rbegs ts).take k) ++ [Value.string (S (rbeg t.kd (N t.p)))]) := by
        obtain ⟨hkl, rfl⟩ := List.getElem?_eq_some_iff.1 ht
        unfold Hid
        rw [rbegs, List.take_succ_eq_append_getElem (by simpa using hkl)]
        simp [strs]
      clear ht hkl
      go_wp2_with (first
        | (go_at_call 36; refine (rstart_any t.v t.kd t.ng t.p _ hp16).mono ?_; rintro e w1 ⟨rfl, hx1⟩)
        | (at_builtin; refine wpList_app _ rfl _ _ 69 rfl w.heap.size 9 i0 (.string ⟨#[]⟩) 16 Try.underlying69 hi hz0 hz1 hz2 rfl _ _ _ rfl (own_ext hown (hx1.alloc _)) ⟨w1.heap.size, 0, none⟩ 1 1 [Value.string (S (rbeg t.kd (N t.p)))] rfl rfl (news_new _ _ _) (by intro u hu; simp at hu; subst hu; rfl) (by unfold maxLen; omega) (by omega) (by have := hxr.size; have := hx1.size; simp at this ⊢; omega) ?_; intro v' w2 hown' hg' hat' hold' _))
      go_roundw
      case rel =>
        refine ⟨k + 1, by omega, by go_num, by rw [hnk.out]; exact hown', ?_⟩
        exact Ext.grown (hxr.trans (hx1.alloc _)) hg' (fun g hg => own_ge hown hg)
      case measure => simp [intOf]; omega
    · obtain rfl : k = n := by omega
      rw [List.take_of_length_le (by simp [rbegs, HN.out])] at hown
      obtain ⟨Al, cl, rfl⟩ := own_slice hown
      have hold : ts ≠ [] → ∀ b, A = some b → b.block < w.heap.size := by
        intro hne b hb
        cases ts with
        | nil => exact absurd rfl hne
        | cons t ts =>
          obtain ⟨b', off, hA, h0, _⟩ := hts 0 t rfl
          rw [hA] at hb
          injection hb with hb
          have := cell_lt h0
          rw [← hb]
          exact this
      have hxd : Ext w (wr.alloc (.cells #[.slice none 0 0, .slice none 0 0] 75)) := hxr.alloc _
      have hgm : Gm w.heap.size wr.heap.size A ts (wr.alloc (.cells #[.slice none 0 0, .slice none 0 0] 75)) [] [] [] [] (.slice none 0 0) (.slice none 0 0) (.slice none 0 0) :=
        ⟨hxr.size, hxd.size, Blk.of_new wr 75 [.slice none 0 0, .slice none 0 0], hts.ext hxd, hold, World.ownsRow_nil _ _ _ _, World.ownsRow_nil _ _ _ _, World.ownsRow_nil _ _ _ _, fun i a ha => by simp at ha⟩
      have hnd : NodeAt (wr.alloc (.cells #[.slice none 0 0, .slice none 0 0] 75)) (.slice none 0 0) (.slice Al k cl) (rbegs ts) :=
        NodeAt.of_own (own_ext hown ((Ext.refl wr).alloc _)) (by simp [rbegs, HN.out]) (fun g hg => by simp [Value.ownBlock] at hg)
      have HGM := hid hgm
      have HND := hid hnd
      have HXD := hid hxd
      clear hown hxr hgm hnd hxd hold hts
      go_wp2_with fail
      refine (search_any length.toNat w.heap.size wr.heap.size A Al ts k c cl most length _ ⟨[], []⟩ [] (.slice none 0 0) (.slice none 0 0) (.slice none 0 0) [] (rbegs ts) ⟨#[]⟩ (by omega) (by omega) rfl (by simp; omega) HGM.out HND.out HN.out (rbegs_ok ts) (fun d hd => by cases hd) hlen HK.out HO.out HD.out).mono ?_
      rintro e2 w2 ⟨vals', nv', lv', ov', rfl, hm2, hr2⟩
      have HM2 := hid hm2
      have HR2 := hid hr2
      clear hm2 hr2
      go_wp2_with fail
      go_ret
      refine ⟨ov', rfl, ?_, ?_⟩
      · rw [hW.out]; exact HM2.out.out
      · exact Below.trans HXD.out (Below.mono (Gr.below (by have := HXD.out.size; exact this) HR2.out) (Nat.le_refl _))

theorem pwords_all (A : Option Addr) (ts : List Tst) (n c : Nat) (length most : Int) (w : World) (hts : TsAt w A ts) (hn : ts.length = n) (hf : Few ts) (hl : length ≤ 6) (hm : most ≤ 20) :
    Calls Try.prog 18 #[.slice A n c, .int .i64 length, .int .i64 most] w fun e w' =>
      ∃ v, e = .returned v ∧ w'.ownsRow w.heap.size 9 1 v (wordsF ts length most).length (strs (wordsF ts length most)) ∧ Ext w w' := by
  have h4 := hf.1
  by_cases h : length < 0 ∨ most ≤ 0
  · refine (words_no A n c length most w (by omega)).mono ?_
    rintro e w' ⟨rfl, rfl⟩
    have e : wordsF ts length most = [] := by unfold wordsF; rw [if_pos h]
    rw [e]
    exact ⟨_, rfl, World.ownsRow_nil _ _ _ _, Ext.refl _⟩
  · obtain ⟨a, b⟩ := words_law ts hf length most (by omega) (by omega) (by omega)
    exact words_any A ts n c length most w hts hn (by omega) hf.le16 (by omega) (by omega) (by omega) (by rw [a, List.length_take]; omega) b
theorem rwords_all (A : Option Addr) (ts : List Tst) (n c : Nat) (length most : Int) (w : World) (hts : TsAt w A ts) (hn : ts.length = n) (hf : Few ts) (hl : length ≤ 6) (hm : most ≤ 20) :
    Calls Try.prog 19 #[.slice A n c, .int .i64 length, .int .i64 most] w fun e w' =>
      ∃ v, e = .returned v ∧ w'.ownsRow w.heap.size 9 1 v (wordsF ts length most).length (strs (wordsF ts length most)) ∧ Ext w w' := by
  have h4 := hf.1
  by_cases h : length < 0 ∨ most ≤ 0
  · refine (rwords_no A n c length most w (by omega)).mono ?_
    rintro e w' ⟨rfl, rfl⟩
    have e : wordsF ts length most = [] := by unfold wordsF; rw [if_pos h]
    rw [e]
    exact ⟨_, rfl, World.ownsRow_nil _ _ _ _, Ext.refl _⟩
  · obtain ⟨a, b⟩ := rwords_law ts hf length most (by omega) (by omega)
    rw [words_same ts hf length most hl hm]
    exact rwords_any A ts n c length most w hts hn (by omega) hf (by omega) (by omega) (by omega) (by rw [a, List.length_take]; omega) b

end Go.Proofs.Ytbniemkllhhnfaa
