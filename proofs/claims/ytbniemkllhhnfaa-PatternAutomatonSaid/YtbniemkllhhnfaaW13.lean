/-
  Walks over the pattern package: Words, Shortest.
-/
import Derived.Test.YtbniemkllhhnfaaW12
namespace Go.Proofs.Ytbniemkllhhnfaa
open Go.RowKit
set_option maxHeartbeats 1000000
set_option maxRecDepth 100000

theorem Rd_of_own {w : World} {B e n : Nat} {v : Value} {xs : List Value} (h : w.ownsRow B e 1 v n xs) : ∃ Al cl, v = .slice Al n cl ∧ Rd w e Al xs := by
  rcases h.2 with ⟨rfl, h0⟩ | ⟨g, cap, cur, rfl, _, hh, hn, _, hs, ht⟩
  · subst h0
    refine ⟨none, 0, rfl, .inl ?_⟩
    exact List.eq_nil_of_length_eq_zero (by simpa using h.1)
  · refine ⟨some ⟨g, 0, none⟩, cap, rfl, .inr ⟨g, 0, cur, (0, 0), rfl, hh, fun i v hv => ?_⟩⟩
    rw [← ht, List.getElem?_take] at hv
    split at hv
    · simpa using hv
    · cases hv

theorem words_no (A : Option Addr) (n c : Nat) (length most : Int) (w : World) (h : length < 0 ∨ 0 ≤ length ∧ most ≤ 0) :
    Calls Try.prog 18 #[.slice A n c, .int .i64 length, .int .i64 most] w fun e w' => e = .returned (.slice none 0 0) ∧ w = w' := by
  rcases h with h | ⟨h, h2⟩
  all_goals
    go_enter Try.func18, Try.ntmps18
    go_wp2_with fail
    go_ret
    exact ⟨rfl, rfl⟩

theorem words_any (A : Option Addr) (ts : List Tst) (n c : Nat) (length most : Int) (w : World) (hts : TsAt w A ts) (hn : ts.length = n) (hlen : n ≤ 1000) (hok : ∀ t ∈ ts, t.p.size ≤ 16)
    (hl0 : 0 ≤ length) (hl1 : length ≤ 200) (hm : 0 < most) (ho : (fnd ts most length.toNat (begs ts) [] ⟨[], []⟩).2.out.length < 1000000) (hd : (fnd ts most length.toNat (begs ts) [] ⟨[], []⟩).2.dead.length < 4611686018427387904) :
    Calls Try.prog 18 #[.slice A n c, .int .i64 length, .int .i64 most] w fun e w' =>
      ∃ v, e = .returned v ∧ w'.ownsRow w.heap.size 9 1 v (wordsF ts length most).length (strs (wordsF ts length most)) ∧ Ext w w' := by
  have hW : Hid (wordsF ts length most = (fnd ts most length.toNat (begs ts) [] ⟨[], []⟩).2.out) := by
    unfold wordsF; rw [if_neg (by omega)]; exact rfl
  have HN := hid hn
  have HK := hid hok
  have HO := hid ho
  have HD := hid hd
  clear hn hok ho hd
  have hmm := @run_makeMap Try.prog
  go_enter Try.func18, Try.ntmps18
  go_wp2_with fail
  refine (fbegin_any (w.heap.size + 1) A ts n c [.int .i64 most, .slice none 0 0, .map (some w.heap.size)] _ ?_ (hts.ext (((Ext.refl w).alloc _).alloc _)) HN.out hlen HK.out).mono ?_
  · have := Blk.of_new (w.alloc (.map #[] 0)) 65 [.slice A n c, .int .i64 most, .slice none 0 0, .map (some w.heap.size)]
    simpa only [World.size_alloc] using this
  rintro e1 w1 ⟨v1, rfl, ho1, hx1⟩
  have hm1 : Fm w.heap.size (w.heap.size + 1) w.heap.size A ts n c most ((w.alloc (.map #[] 0)).alloc (.cells #[.slice A n c, .int .i64 most, .slice none 0 0, .map (some w.heap.size)] 65)) ⟨[], []⟩ (.slice none 0 0) (.slice none 0 0) [] := by
    refine ⟨by omega, by omega, by simp; omega, ?_, hts.ext (((Ext.refl w).alloc _).alloc _), ?_, World.ownsRow_nil _ _ _ _, ?_, World.ownsRow_nil _ _ _ _⟩
    · have := Blk.of_new (w.alloc (.map #[] 0)) 65 [.slice A n c, .int .i64 most, .slice none 0 0, .map (some w.heap.size)]
      simpa only [World.size_alloc] using this
    · intro hne b hb
      cases ts with
      | nil => exact absurd rfl hne
      | cons t ts =>
        obtain ⟨b', off, hA, h0, _⟩ := hts 0 t rfl
        rw [hA] at hb
        injection hb with hb
        have := cell_lt h0
        rw [← hb]
        exact this
    · exact ((SetMap.made w Try.prog 9 4).ext ((Ext.refl _).alloc _))
  have HM2 := hid (hm1.ext hx1)
  have HX1 := hid hx1
  obtain ⟨Al, cl, rfl, hrd⟩ := Rd_of_own ho1
  have HR := hid hrd
  clear hm1 hx1 ho1 hrd
  go_wp2_with fail
  refine (find_any length.toNat w.heap.size (w.heap.size + 1) w.heap.size A Al ts n c cl most length w1 ⟨[], []⟩ (.slice none 0 0) (.slice none 0 0) [] (begs ts) (by omega) (by omega) (by simp; omega) HM2.out HR.out HN.out (begs_ok ts HK.out) hlen HK.out HO.out HD.out).mono ?_
  rintro e2 w2 ⟨ov, rfl, hm2, hf2⟩
  have hc2 := hm2.blk.cell_some (i := 2) (v := ov) rfl
  have HM3 := hid hm2
  have HB := hid (hf2.below HM2.out)
  clear hm2 hf2
  go_wp2_with fail
  go_ret
  refine ⟨ov, rfl, ?_, ?_⟩
  · rw [hW.out]; exact HM3.out.out
  · exact Below.trans (Below.mono (Below.trans (Ext.refl w |>.alloc (.map #[] 0) |>.alloc (.cells #[.slice A n c, .int .i64 most, .slice none 0 0, .map (some w.heap.size)] 65)) (Below.mono HX1.out (by simp; omega))) (Nat.le_refl _)) HB.out

def shoVal : Option (List Nat) → Value
  | some x => .tuple #[.string (S x), .bool true]
  | none => .tuple #[.string ⟨#[]⟩, .bool false]

theorem shortest_any (A : Option Addr) (ts : List Tst) (n c : Nat) (min max : Int) (w : World) (hts : TsAt w A ts) (hn : ts.length = n) (hlen : n ≤ 1000) (hok : ∀ t ∈ ts, t.p.size ≤ 16)
    (hmin : -9223372036854775808 ≤ min) (hmax : max ≤ 200) (ho : (shoF ts min max).2.out.length < 1000000) (hd : (shoF ts min max).2.dead.length < 4611686018427387904) :
    Calls Try.prog 20 #[.slice A n c, .int .i64 min, .int .i64 max] w fun e w' => e = .returned (shoVal (shoF ts min max).1) ∧ Ext w w' := by
  have HN := hid hn
  have HK := hid hok
  have HO := hid ho
  have HD := hid hd
  clear hn hok ho hd
  have hmm := @run_makeMap Try.prog
  have hm1 : Fm w.heap.size (w.heap.size + 1) w.heap.size A ts n c 1 ((w.alloc (.map #[] 0)).alloc (.cells #[.slice A n c, .int .i64 1, .slice none 0 0, .map (some w.heap.size)] 65)) ⟨[], []⟩ (.slice none 0 0) (.slice none 0 0) [] := by
    refine ⟨by omega, by omega, by simp; omega, ?_, hts.ext (((Ext.refl w).alloc _).alloc _), ?_, World.ownsRow_nil _ _ _ _, ?_, World.ownsRow_nil _ _ _ _⟩
    · have := Blk.of_new (w.alloc (.map #[] 0)) 65 [.slice A n c, .int .i64 1, .slice none 0 0, .map (some w.heap.size)]
      simpa only [World.size_alloc] using this
    · intro hne b hb
      cases ts with
      | nil => exact absurd rfl hne
      | cons t ts =>
        obtain ⟨b', off, hA, h0, _⟩ := hts 0 t rfl
        rw [hA] at hb
        injection hb with hb
        have := cell_lt h0
        rw [← hb]
        exact this
    · exact ((SetMap.made w Try.prog 9 4).ext ((Ext.refl _).alloc _))
  have HM := hid hm1
  have HX : Hid (Ext w ((w.alloc (.map #[] 0)).alloc (.cells #[.slice A n c, .int .i64 1, .slice none 0 0, .map (some w.heap.size)] 65))) := ((Ext.refl w).alloc _).alloc _
  clear hm1 hts
  go_enter Try.func20, Try.ntmps20
  go_wp2_with fail
  go_loopw [9] (fun nv wr => ∃ (m : Int) (st : Fst) (ov : Value), min ≤ m ∧ (m ≤ max + 1 ∨ m = min) ∧ nv = .int .i64 m ∧ st.out = [] ∧ Fm w.heap.size (w.heap.size + 1) w.heap.size A ts n c 1 wr st ov (.slice none 0 0) [] ∧ Ext w wr ∧
      shoLoop ts (max + 1 - m).toNat m st = shoF ts min max) (fun nv _ => (max + 1 - intOf nv).toNat)
  case atStart => exact ⟨min, ⟨[], []⟩, _, Int.le_refl _, .inr rfl, rfl, rfl, HM.out, HX.out, rfl⟩
  case round =>
    obtain ⟨m, st, ov, hmn, hmx, rfl, hso, hm, hxr, hlp⟩ := hrel
    have HMR := hid hm
    have HLP := hid hlp
    have HSO := hid hso
    have HXR := hid hxr
    clear hm hlp hso hxr
    by_cases hle : m ≤ max
    · have hk : Hid ((max + 1 - m).toNat = (max + 1 - (m + 1)).toNat + 1) := by unfold Hid; omega
      by_cases hneg : m < 0
      · go_wp2_with fail
        go_roundw
        case rel =>
          refine ⟨m + 1, st, ov, by omega, by omega, rfl, HSO.out, HMR.out, HXR.out, ?_⟩
          have := HLP.out
          rw [hk.out, shoLoop, if_pos hneg] at this
          exact this
        case measure => simp [intOf]; omega
      · have hm0 : 0 ≤ m := by omega
        have hlp2 := HLP.out
        rw [hk.out, shoLoop, if_neg hneg] at hlp2
        generalize hrr : fnd ts 1 m.toNat (begs ts) [] st = r at hlp2
        have hbd : r.2.out.length < 1000000 ∧ r.2.dead.length < 4611686018427387904 := by
          have h1 := HO.out
          have h2 := HD.out
          rw [← hlp2] at h1 h2
          revert h1 h2
          split
          · exact fun h1 h2 => ⟨h1, h2⟩
          · have := shoLoop_mono ts (max + 1 - (m + 1)).toNat (m + 1) r.2
            exact fun h1 h2 => ⟨Nat.lt_of_le_of_lt this.1 h1, Nat.lt_of_le_of_lt this.2 h2⟩
        have HLP2 := hid hlp2
        have HRR := hid hrr
        have HBD := hid hbd
        clear hlp2 hrr hbd
        go_wp2_with fail
        refine (fbegin_any (w.heap.size + 1) A ts n c [.int .i64 1, ov, .map (some w.heap.size)] _ HMR.out.blk HMR.out.tests HN.out hlen HK.out).mono ?_
        rintro e1 w1 ⟨v1, rfl, ho1, hx1⟩
        have HM2 := hid (HMR.out.ext hx1)
        have HX1 := hid hx1
        obtain ⟨Al, cl, rfl, hrd⟩ := Rd_of_own ho1
        have HR := hid hrd
        clear hx1 ho1 hrd
        go_wp2_with fail
        refine (find_any m.toNat w.heap.size (w.heap.size + 1) w.heap.size A Al ts n c cl 1 m w1 st ov (.slice none 0 0) [] (begs ts) (by omega) (by omega) (by simp; omega) HM2.out HR.out HN.out (begs_ok ts HK.out) hlen HK.out ?_ ?_).mono ?_
        · rw [HRR.out]; exact HBD.out.1
        · rw [HRR.out]; exact HBD.out.2
        rintro e2 w2 ⟨ov2, rfl, hm2, hf2⟩
        rw [HRR.out] at hm2
        have HX2 : Hid (Ext w w2) := Below.trans (HXR.out.trans HX1.out) (hf2.below HM2.out)
        obtain ⟨ao, co, hov⟩ : ∃ ao co, ov2 = .slice ao r.2.out.length co := by
          rcases hm2.out.2 with ⟨h1, h2⟩ | ⟨g, cap, cur, h1, _⟩
          · exact ⟨none, 0, by rw [h1, h2]⟩
          · exact ⟨_, _, h1⟩
        subst hov
        have hc2 := hm2.blk.cell_some (i := 2) (v := .slice ao r.2.out.length co) rfl
        have HM3 := hid hm2
        clear hm2 hf2
        by_cases hr0 : r.2.out.length = 0
        · have hz0 : ¬ (0 : Int) < (r.2.out.length : Int) := by omega
          have hrn : Hid (r.2.out = []) := List.eq_nil_of_length_eq_zero hr0
          clear hr0
          go_wp2_with fail
          go_roundw
          case rel =>
            refine ⟨m + 1, r.2, _, by omega, by omega, rfl, hrn.out, HM3.out, HX2.out, ?_⟩
            have := HLP2.out
            rw [hrn.out] at this
            exact this
          case measure => simp [intOf]; omega
        · have hz0 : (0 : Int) < (r.2.out.length : Int) := by omega
          obtain ⟨x, xs, hxs⟩ : ∃ x xs, r.2.out = x :: xs := by
            cases h : r.2.out with
            | nil => rw [h] at hr0; exact absurd rfl hr0
            | cons x xs => exact ⟨x, xs, rfl⟩
          obtain ⟨g, hao, hcx⟩ : ∃ g, ao = some ⟨g, 0, none⟩ ∧ w2.cell? ⟨g, 0, none⟩ = some (.string (S x)) := by
            obtain ⟨g, cap, hv⟩ := own_form HM3.out.out (by omega)
            injection hv with hv h2 h3
            subst h3
            refine ⟨g, hv, ?_⟩
            have := HM3.out.out
            rw [hv] at this
            have h4 := this.cellAt 0 (by omega)
            rw [h4, hxs]; rfl
          subst hao
          have HXS := hid hxs
          clear hr0 hxs
          go_wp2_with fail
          go_ret2
          refine ⟨?_, HX2.out⟩
          have := HLP2.out
          rw [HXS.out] at this
          rw [← this]
          rfl
    · go_wp2_with fail
      go_ret2
      refine ⟨?_, HXR.out⟩
      have := HLP.out
      rw [show (max + 1 - m).toNat = 0 by omega, shoLoop] at this
      rw [← this]
      rfl

end Go.Proofs.Ytbniemkllhhnfaa
