/-
  Walks: the reference's well-formed statements. · Walks: the reference's well-formed rows, assignments and queries.
-/
import Derived.Test.YtcdnodjcnofogaaGreatDoorW52
import Derived.Test.YtcdnodjcnofogaaGreatDoorW20
namespace Go.Proofs.YtcdnodjcnofogaaGreatDoor
open Go.RowKit
set_option linter.unusedVariables false
set_option linter.unusedSimpArgs false
set_option maxHeartbeats 4000000
set_option maxRecDepth 100000

theorem allA_step {α : Type} {l : List α} {k : Nat} {x : α} {p : α → Bool} (h : l[k]? = some x) (h1 : (l.take k).all p = true) (h2 : p x = true) : (l.take (k + 1)).all p = true := by
  rw [takeA h, List.all_append, h1]
  simp [h2]
theorem allA_no {α : Type} {l : List α} {k : Nat} {x : α} {p : α → Bool} (h : l[k]? = some x) (h2 : p x = false) : l.all p = false := by
  rw [List.all_eq_false]
  exact ⟨x, List.mem_of_getElem? h, by simp [h2]⟩
theorem allA_end {α : Type} {l : List α} {k : Nat} {p : α → Bool} (h : l.length = k) (h1 : (l.take k).all p = true) : l.all p = true := by
  rwa [List.take_of_length_le (by omega)] at h1
theorem rcolumn_any (x : Cd) (w : World) (hc : x.nm.size ≤ 9223372036854775807 ∧ I64 x.ty ∧ I64 x.lo ∧ I64 x.hi ∧ I64 x.mx) :
    Calls Tryz.prog 147 #[.agg #[.string x.nm, .int .i64 x.ty, .int .i64 x.lo, .int .i64 x.hi, .int .i64 x.mx, .bool x.nn]] w fun r w' => r = .returned (.bool x.ok) ∧ Ext w w' := by
  have HN := hid (fun W => rname_any x.nm W hc.1)
  have HU := hid (fun W => rnumber_any x.mx W)
  obtain ⟨R, hR⟩ : ∃ R, x.ok = R := ⟨_, rfl⟩
  rw [hR]
  unfold Cd.ok inB at hR
  obtain ⟨nm, ty, lo, hi, mx, nn⟩ := x
  simp only at *
  clear hc
  generalize nameB nm = b0 at *
  obtain ⟨c1, hc1⟩ : ∃ b, (ty == 1) = b := ⟨_, rfl⟩
  obtain ⟨c2, hc2⟩ : ∃ b, (ty == 2) = b := ⟨_, rfl⟩
  obtain ⟨l1, hl1⟩ : ∃ b, decide (-2147483648 ≤ lo) = b := ⟨_, rfl⟩
  obtain ⟨l2, hl2⟩ : ∃ b, decide (lo ≤ 2147483648) = b := ⟨_, rfl⟩
  obtain ⟨h1, hh1⟩ : ∃ b, decide (-2147483648 ≤ hi) = b := ⟨_, rfl⟩
  obtain ⟨h2, hh2⟩ : ∃ b, decide (hi ≤ 2147483648) = b := ⟨_, rfl⟩
  obtain ⟨m0, hm0⟩ : ∃ b, (mx == 0) = b := ⟨_, rfl⟩
  obtain ⟨lz, hlz⟩ : ∃ b, (lo == 0) = b := ⟨_, rfl⟩
  obtain ⟨hz, hhz⟩ : ∃ b, (hi == 0) = b := ⟨_, rfl⟩
  rw [hc1, hc2, hl1, hl2, hh1, hh2, hm0, hlz, hhz] at hR
  generalize (decide (0 ≤ mx) && decide (mx ≤ 2147483648)) = u at *
  have HR := hid hR
  clear hR
  cases b0
  · go_enter Tryz.func147, Tryz.ntmps147
    go_wp2_with (go_at_call 89; refine (HN.out _).mono ?_; rintro _ w2 ⟨rfl, hx2⟩)
    go_ret
    exact ⟨ret_bool (by rw [← HR.out]; simp), ((Ext.refl w).alloc _).trans hx2⟩
  · cases c1
    · cases c2 <;> cases lz <;> cases hz
      all_goals
        have HB := hid (Blk.of_new w 63 [.string nm, .int .i64 ty, .int .i64 lo, .int .i64 hi, .int .i64 mx, .bool nn])
        go_enter Tryz.func147, Tryz.ntmps147
        go_wp2_with (first | (go_at_call 89; refine (HN.out _).mono ?_; rintro _ w2 ⟨rfl, hx2⟩; have e0 := (HB.out.ext hx2).cell 0; have e1 := (HB.out.ext hx2).cell 1; have e2 := (HB.out.ext hx2).cell 2; have e3 := (HB.out.ext hx2).cell 3; have e4 := (HB.out.ext hx2).cell 4; have e5 := (HB.out.ext hx2).cell 5; simp only [List.getElem?_cons_succ, List.getElem?_cons_zero] at e0 e1 e2 e3 e4 e5) | (go_at_call 149; refine (HU.out _).mono ?_; rintro _ _ ⟨rfl, rfl⟩))
        go_ret
        exact ⟨ret_bool (by rw [← HR.out]; simp), ((Ext.refl w).alloc _).trans hx2⟩
    · cases l1 <;> cases l2 <;> cases h1 <;> cases h2
      all_goals
        have HB := hid (Blk.of_new w 63 [.string nm, .int .i64 ty, .int .i64 lo, .int .i64 hi, .int .i64 mx, .bool nn])
        go_enter Tryz.func147, Tryz.ntmps147
        go_wp2_with (first | (go_at_call 89; refine (HN.out _).mono ?_; rintro _ w2 ⟨rfl, hx2⟩; have e0 := (HB.out.ext hx2).cell 0; have e1 := (HB.out.ext hx2).cell 1; have e2 := (HB.out.ext hx2).cell 2; have e3 := (HB.out.ext hx2).cell 3; have e4 := (HB.out.ext hx2).cell 4; have e5 := (HB.out.ext hx2).cell 5; simp only [List.getElem?_cons_succ, List.getElem?_cons_zero] at e0 e1 e2 e3 e4 e5))
        go_ret
        exact ⟨ret_bool (by rw [← HR.out]; simp), ((Ext.refl w).alloc _).trans hx2⟩
theorem rnames_any (l : List ByteArray) (A : Option Addr) (n c : Nat) (w : World) (hl : l.length = n) (hn : n ≤ 9223372036854775807) (hk : StrsAt w A l) :
    Calls Tryz.prog 148 #[.slice A n c] w fun r w' => r = .returned (.bool (namesB l)) ∧ Ext w w' := by
  have HL := hid hl
  have HK := hid hk
  obtain ⟨R, hR⟩ : ∃ R, namesB l = R := ⟨_, rfl⟩
  rw [hR]
  rw [namesB_eq, any_not, Bool.not_not, hl] at hR
  have HR := hid hR
  clear hl hk hR
  go_enter Tryz.func148, Tryz.ntmps148
  go_wp2_with fail
  go_loopw [3] (fun iv wr => ∃ (k : Nat), k ≤ n ∧ iv = .int .i64 k ∧ (l.take k).all nameB = true ∧ Ext w wr) (fun i _ => n - (intOf i).toNat)
  case atStart => exact ⟨0, Nat.zero_le _, rfl, rfl, Ext.refl w⟩
  case round =>
    obtain ⟨k, hkn, rfl, hr, hxr⟩ := hrel
    have HXr := hid hxr
    have HRr := hid hr
    by_cases hlt : k < n
    · obtain ⟨x, hx⟩ := rat_lt HL.out hlt
      obtain ⟨hc, b, off, rfl, q0⟩ := (HK.out.ext hxr) k x hx
      have HE := hid hx
      have HC := hid (rname_any x wr hc)
      clear hx hxr hr
      cases hp : nameB x
      · have HP : Hid (l.all nameB = false) := allA_no HE.out hp
        rw [hp] at HC
        clear hp
        go_wp2_with (go_at_call 89; refine HC.out.mono ?_; rintro _ w2 ⟨rfl, hx2⟩)
        go_ret
        exact ⟨ret_bool (by rw [← HR.out, HP.out]; simp), HXr.out.trans hx2⟩
      · have HP : Hid ((l.take (k + 1)).all nameB = true) := allA_step HE.out HRr.out hp
        rw [hp] at HC
        clear hp
        go_wp2_with (go_at_call 89; refine HC.out.mono ?_; rintro _ w2 ⟨rfl, hx2⟩)
        go_roundw
        case rel => exact ⟨k + 1, by omega, by go_num, HP.out, HXr.out.trans hx2⟩
        case measure => simp [intOf]; omega
    · obtain rfl : k = n := by omega
      have HP : Hid (l.all nameB = true) := allA_end HL.out HRr.out
      clear hr
      go_wp2_with fail
      go_ret
      exact ⟨ret_bool (by rw [← HR.out, HP.out]; simp), HXr.out⟩
theorem create_any (s : St) (a : SA) (w : World) (hv : StV w s a) (hb : s.cols.length + s.keys.length + s.frs.length + s.chk.length ≤ 1048576) :
    Calls Tryz.prog 91 #[.agg #[a.cols.v, a.keys.v, a.frs.v, a.chk.v]] w fun r w' => r = .returned (.bool s.defOk) ∧ Ext w w' := by
  have HS := hid hv
  rw [hv.cols.1, hv.keys.1, hv.frs.1, hv.chk.1] at hb
  obtain ⟨R, hR⟩ : ∃ R, s.defOk = R := ⟨_, rfl⟩
  rw [hR]
  unfold St.defOk St.noDef at hR
  rw [hv.cols.1, hv.keys.1, hv.frs.1, hv.chk.1] at hR
  have HR := hid hR
  clear hv hR
  unfold Sl.v
  have HB := hid (Blk.of_new w 27 [.slice a.cols.A a.cols.n a.cols.c, .slice a.keys.A a.keys.n a.keys.c, .slice a.frs.A a.frs.n a.frs.c, .slice a.chk.A a.chk.n a.chk.c])
  have HX := hid ((Ext.refl w).alloc (.cells #[.slice a.cols.A a.cols.n a.cols.c, .slice a.keys.A a.keys.n a.keys.c, .slice a.frs.A a.frs.n a.frs.c, .slice a.chk.A a.chk.n a.chk.c] 27))
  go_enter Tryz.func91, Tryz.ntmps91
  go_wp2_with fail
  generalize w.alloc (.cells _ 27) = w1 at *
  go_loopw [3] (fun iv wr => ∃ (k : Nat), k ≤ a.cols.n ∧ iv = .int .i64 k ∧ (s.cols.take k).all Cd.ok = true ∧ Ext w1 wr) (fun i _ => a.cols.n - (intOf i).toNat)
  case atStart => exact ⟨0, Nat.zero_le _, rfl, rfl, Ext.refl _⟩
  case round =>
    obtain ⟨k, hkn, rfl, hr, hxr⟩ := hrel
    have HXr := hid hxr
    have HRr := hid hr
    have cb := (HB.out.ext hxr).cell 0
    simp only [List.getElem?_cons_succ, List.getElem?_cons_zero] at cb
    by_cases hlt : k < a.cols.n
    · obtain ⟨x, hx⟩ := rat_lt HS.out.cols.1 hlt
      obtain ⟨hc, b, off, hA, q0, q1, q2, q3, q4, q5⟩ := (HS.out.cols.2.2.ext (HX.out.trans hxr)) k x hx
      rw [hA] at cb
      clear hA
      have HC := hid (rcolumn_any x wr hc)
      have HE := hid hx
      clear hx hxr hr
      cases hp : Cd.ok x
      · have HPx : Hid (s.cols.all Cd.ok = false) := allA_no HE.out hp
        rw [hp] at HC
        clear hp
        go_wp2_with (go_at_call 147; refine HC.out.mono ?_; rintro _ w2 ⟨rfl, hx2⟩)
        go_ret
        exact ⟨ret_bool (by rw [← HR.out, HPx.out]; simp), HX.out.trans (HXr.out.trans hx2)⟩
      · have HPx : Hid ((s.cols.take (k + 1)).all Cd.ok = true) := allA_step HE.out HRr.out hp
        rw [hp] at HC
        clear hp
        go_wp2_with (go_at_call 147; refine HC.out.mono ?_; rintro _ w2 ⟨rfl, hx2⟩)
        go_roundw
        case rel => exact ⟨k + 1, by omega, by go_num, HPx.out, HXr.out.trans hx2⟩
        case measure => simp [intOf]; omega
    · obtain rfl : k = a.cols.n := by omega
      have HP : Hid (s.cols.all Cd.ok = true) := allA_end HS.out.cols.1 HRr.out
      clear hr
      have HPc := HP
      go_wp2_with fail
      clear HP cb
      clear hxr HRr
      go_loopw [4] (fun iv wr => ∃ (k : Nat), k ≤ a.keys.n ∧ iv = .int .i64 k ∧ (s.keys.take k).all namesB = true ∧ Ext w1 wr) (fun i _ => a.keys.n - (intOf i).toNat)
      case atStart => exact ⟨0, Nat.zero_le _, rfl, rfl, HXr.out⟩
      case round =>
        obtain ⟨k, hkn, rfl, hr, hxr⟩ := hrel
        have HXr := hid hxr
        have HRr := hid hr
        have cb := (HB.out.ext hxr).cell 1
        simp only [List.getElem?_cons_succ, List.getElem?_cons_zero] at cb
        by_cases hlt : k < a.keys.n
        · obtain ⟨x, hx⟩ := rat_lt HS.out.keys.1 hlt
          obtain ⟨b, off, Ai, ni, ci, hA, q0, h1, h2, h3⟩ := (HS.out.keys.2.2.ext (HX.out.trans hxr)) k x hx
          rw [hA] at cb
          clear hA
          have HC := hid (rnames_any x Ai ni ci wr h1 h2 h3)
          clear h3
          have HE := hid hx
          clear hx hxr hr
          cases hp : namesB x
          · have HPx : Hid (s.keys.all namesB = false) := allA_no HE.out hp
            rw [hp] at HC
            clear hp
            go_wp2_with (go_at_call 148; refine HC.out.mono ?_; rintro _ w2 ⟨rfl, hx2⟩)
            go_ret
            exact ⟨ret_bool (by rw [← HR.out, HPx.out]; simp), HX.out.trans (HXr.out.trans hx2)⟩
          · have HPx : Hid ((s.keys.take (k + 1)).all namesB = true) := allA_step HE.out HRr.out hp
            rw [hp] at HC
            clear hp
            go_wp2_with (go_at_call 148; refine HC.out.mono ?_; rintro _ w2 ⟨rfl, hx2⟩)
            go_roundw
            case rel => exact ⟨k + 1, by omega, by go_num, HPx.out, HXr.out.trans hx2⟩
            case measure => simp [intOf]; omega
        · obtain rfl : k = a.keys.n := by omega
          have HP : Hid (s.keys.all namesB = true) := allA_end HS.out.keys.1 HRr.out
          clear hr
          have HPk := HP
          go_wp2_with fail
          clear HP cb
          clear hxr HRr
          go_loopw [5] (fun iv wr => ∃ (k : Nat), k ≤ a.frs.n ∧ iv = .int .i64 k ∧ (s.frs.take k).all Rf.ok = true ∧ Ext w1 wr) (fun i _ => a.frs.n - (intOf i).toNat)
          case atStart => exact ⟨0, Nat.zero_le _, rfl, rfl, HXr.out⟩
          case round =>
            obtain ⟨k, hkn, rfl, hr, hxr⟩ := hrel
            have HXr := hid hxr
            have HRr := hid hr
            have cb := (HB.out.ext hxr).cell 2
            simp only [List.getElem?_cons_succ, List.getElem?_cons_zero] at cb
            by_cases hlt : k < a.frs.n
            · obtain ⟨x, hx⟩ := rat_lt HS.out.frs.1 hlt
              obtain ⟨h0, b, off, A1, n1, c1, A2, n2, c2, hA, q0, q1, q2, h1, h2, h3, h4, h5, h6⟩ := (HS.out.frs.2.2.ext (HX.out.trans hxr)) k x hx
              rw [hA] at cb
              clear hA
              have H1 := hid (fun W (hW : Ext wr W) => rnames_any x.cs A1 n1 c1 W h1 h2 (h3.ext hW))
              have H2 := hid (fun W (hW : Ext wr W) => rname_any x.tb W h0)
              have H3 := hid (fun W (hW : Ext wr W) => rnames_any x.tg A2 n2 c2 W h4 h5 (h6.ext hW))
              have HE := hid hx
              have HQ : Hid (∀ W, Ext wr W → W.cell? ⟨w.heap.size, 2, none⟩ = some (.slice (some ⟨b, off, none⟩) a.frs.n a.frs.c) ∧ W.cell? ⟨b, off + k * 3 + 1, none⟩ = some (.string x.tb) ∧ W.cell? ⟨b, off + k * 3 + 2, none⟩ = some (.slice A2 n2 c2)) := fun W hW => ⟨hW.keep cb, hW.keep q1, hW.keep q2⟩
              have HRf : Hid (x.ok = (namesB x.cs && nameB x.tb && namesB x.tg)) := rfl
              clear hx hxr hr h0 h1 h2 h3 h4 h5 h6
              cases hp : Rf.ok x
              · have HPx : Hid (s.frs.all Rf.ok = false) := allA_no HE.out hp
                rw [hp] at HRf
                clear hp
                generalize namesB x.cs = b1 at *
                generalize nameB x.tb = b2 at *
                generalize namesB x.tg = b3 at *
                cases b1 <;> cases b2 <;> cases b3
                all_goals
                  first
                    | exact absurd HRf.out (by decide)
                    | (go_wp2_with (first | (go_at_call 148; (with_reducible refine (H1.out _ (Ext.refl _)).mono ?_); rintro _ w2 ⟨rfl, hx2⟩; obtain ⟨d0, d1, d2⟩ := HQ.out w2 hx2) | (go_at_call 89; (with_reducible refine (H2.out _ hx2).mono ?_); rintro _ w3 ⟨rfl, hx3⟩; obtain ⟨e0, e1, e2⟩ := HQ.out w3 (hx2.trans hx3)) | (go_at_call 148; (with_reducible refine (H3.out _ (hx2.trans hx3)).mono ?_); rintro _ w4 ⟨rfl, hx4⟩))
                       go_ret
                       first
                         | exact ⟨ret_bool (by rw [← HR.out, HPx.out]; simp), HX.out.trans (HXr.out.trans ((hx2.trans hx3).trans hx4))⟩
                         | exact ⟨ret_bool (by rw [← HR.out, HPx.out]; simp), HX.out.trans (HXr.out.trans (hx2.trans hx3))⟩
                         | exact ⟨ret_bool (by rw [← HR.out, HPx.out]; simp), HX.out.trans (HXr.out.trans hx2)⟩)
              · have HPx : Hid ((s.frs.take (k + 1)).all Rf.ok = true) := allA_step HE.out HRr.out hp
                rw [hp] at HRf
                clear hp
                have hb := HRf.out.symm
                simp only [Bool.and_eq_true] at hb
                rw [hb.1.1] at H1
                rw [hb.1.2] at H2
                rw [hb.2] at H3
                clear hb
                go_wp2_with (first | (go_at_call 148; (with_reducible refine (H1.out _ (Ext.refl _)).mono ?_); rintro _ w2 ⟨rfl, hx2⟩; obtain ⟨d0, d1, d2⟩ := HQ.out w2 hx2) | (go_at_call 89; (with_reducible refine (H2.out _ hx2).mono ?_); rintro _ w3 ⟨rfl, hx3⟩; obtain ⟨e0, e1, e2⟩ := HQ.out w3 (hx2.trans hx3)) | (go_at_call 148; (with_reducible refine (H3.out _ (hx2.trans hx3)).mono ?_); rintro _ w4 ⟨rfl, hx4⟩))
                go_roundw
                case rel => exact ⟨k + 1, by omega, by go_num, HPx.out, HXr.out.trans ((hx2.trans hx3).trans hx4)⟩
                case measure => simp [intOf]; omega
            · obtain rfl : k = a.frs.n := by omega
              have HP : Hid (s.frs.all Rf.ok = true) := allA_end HS.out.frs.1 HRr.out
              clear hr
              have HPf := HP
              go_wp2_with fail
              clear HP cb
              clear hxr HRr
              go_loopw [6] (fun iv wr => ∃ (k : Nat), k ≤ a.chk.n ∧ iv = .int .i64 k ∧ (s.chk.take k).all Ex.formed = true ∧ Ext w1 wr) (fun i _ => a.chk.n - (intOf i).toNat)
              case atStart => exact ⟨0, Nat.zero_le _, rfl, rfl, HXr.out⟩
              case round =>
                obtain ⟨k, hkn, rfl, hr, hxr⟩ := hrel
                have HXr := hid hxr
                have HRr := hid hr
                have cb := (HB.out.ext hxr).cell 3
                simp only [List.getElem?_cons_succ, List.getElem?_cons_zero] at cb
                by_cases hlt : k < a.chk.n
                · obtain ⟨x, hx⟩ := rat_lt HS.out.chk.1 hlt
                  obtain ⟨b, off, Ai, ni, ci, hA, q0, q1, q2, q3, q4, q5, q6, q7, h1⟩ := (HS.out.chk.2.2.ext (HX.out.trans hxr)).get hx
                  rw [hA] at cb
                  clear hA
                  have HC := hid (rformed_any x Ai ni ci wr h1)
                  clear h1
                  unfold Nd.val at HC
                  have HE := hid hx
                  clear hx hxr hr
                  cases hp : Ex.formed x
                  · have HPx : Hid (s.chk.all Ex.formed = false) := allA_no HE.out hp
                    rw [hp] at HC
                    clear hp
                    go_wp2_with (go_at_call 48; refine HC.out.mono ?_; rintro _ w2 ⟨rfl, hx2⟩)
                    go_ret
                    exact ⟨ret_bool (by rw [← HR.out, HPx.out]; simp), HX.out.trans (HXr.out.trans hx2)⟩
                  · have HPx : Hid ((s.chk.take (k + 1)).all Ex.formed = true) := allA_step HE.out HRr.out hp
                    rw [hp] at HC
                    clear hp
                    go_wp2_with (go_at_call 48; refine HC.out.mono ?_; rintro _ w2 ⟨rfl, hx2⟩)
                    go_roundw
                    case rel => exact ⟨k + 1, by omega, by go_num, HPx.out, HXr.out.trans hx2⟩
                    case measure => simp [intOf]; omega
                · obtain rfl : k = a.chk.n := by omega
                  have HP : Hid (s.chk.all Ex.formed = true) := allA_end HS.out.chk.1 HRr.out
                  clear hr
                  have cb0 := (HB.out.ext hxr).cell 0
                  have cb1 := (HB.out.ext hxr).cell 1
                  have cb2 := (HB.out.ext hxr).cell 2
                  simp only [List.getElem?_cons_succ, List.getElem?_cons_zero] at cb0 cb1 cb2
                  clear hxr
                  have f1 : (IntKind.i64.wrap ((a.cols.n : Int) + (a.keys.n : Int))) = (a.cols.n : Int) + (a.keys.n : Int) := IntWalk.i64_in _ (by omega)
                  go_wp2_with fail
                  go_ret
                  refine ⟨ret_bool ?_, HX.out.trans HXr.out⟩
                  rw [← HR.out, HPc.out, HPk.out, HPf.out, HP.out]
                  rw [Bool.eq_iff_iff]
                  simp
                  omega
end Go.Proofs.YtcdnodjcnofogaaGreatDoor
namespace Go.Proofs.YtcdnodjcnofogaaGreatDoor
open Go.RowKit
set_option linter.unusedVariables false
set_option linter.unusedSimpArgs false
set_option maxHeartbeats 4000000
set_option maxRecDepth 100000

theorem esz : (((⟨#[]⟩ : ByteArray)).size == 0) = true := rfl
theorem rabsent_any (e : Ex) (A : Option Addr) (n c : Nat) (w : World) (hv : ExV w e A n c) :
    Calls Tryz.prog 90 #[e.d.val A n c] w fun r w' => r = .returned (.bool e.absent) ∧ Ext w w' := by
  have hR : e.absent = (e.d.op == 0 && e.d.tb.size == 0 && e.d.nm.size == 0 && (e.d.vk == 0 && e.d.vi == 0 && e.d.vt.size == 0) && decide (n = 0)) := by
    unfold Ex.absent Nd.valZ
    congr 1
    have h := hv.len
    cases hk : e.ks with
    | nil => rw [hk] at h; simp at h; simp [← h]
    | cons a l => rw [hk] at h; simp at h; simp; omega
  generalize e.absent = R at *
  unfold Nd.val
  generalize e.d = d at *
  obtain ⟨op, tb, nm, ix, vk, vi, vt⟩ := d
  simp only at *
  clear hv
  obtain ⟨o0, ho0⟩ : ∃ b, (op == 0) = b := ⟨_, rfl⟩
  obtain ⟨k0, hk0⟩ : ∃ b, (vk == 0) = b := ⟨_, rfl⟩
  obtain ⟨i0, hi0⟩ : ∃ b, (vi == 0) = b := ⟨_, rfl⟩
  have hn0 : ((n : Int) == 0) = decide (n = 0) := by rw [Bool.eq_iff_iff]; simp
  obtain ⟨n0, hnn⟩ : ∃ b, decide (n = 0) = b := ⟨_, rfl⟩
  rw [ho0, hk0, hi0, hnn] at hR
  rw [hnn] at hn0
  have HR := hid hR
  clear hR hnn
  by_cases ht : tb.size = 0
  · obtain rfl := empty_yes ht
    simp only [esz] at HR
    by_cases hm : nm.size = 0
    · obtain rfl := empty_yes hm
      simp only [esz] at HR
      by_cases hv0 : vt.size = 0
      · obtain rfl := empty_yes hv0
        simp only [esz] at HR
        clear ht hm hv0
        cases o0 <;> cases k0 <;> cases i0
        all_goals
          go_enter Tryz.func90, Tryz.ntmps90
          go_wp2_with fail
          go_ret
          exact ⟨ret_bool (by rw [HR.out]; simp), (Ext.refl w).alloc _⟩
      · have v1 := empty_no hv0
        have v2 := empty_no2 hv0
        have hz : (vt.size == 0) = false := by simpa using hv0
        rw [hz] at HR
        clear ht hm hv0 hz
        cases o0 <;> cases k0 <;> cases i0
        all_goals
          go_enter Tryz.func90, Tryz.ntmps90
          go_wp2_with fail
          go_ret
          exact ⟨ret_bool (by rw [HR.out]; simp), (Ext.refl w).alloc _⟩
    · have v1 := empty_no hm
      have v2 := empty_no2 hm
      have hz : (nm.size == 0) = false := by simpa using hm
      rw [hz] at HR
      clear ht hm hz
      cases o0
      all_goals
        go_enter Tryz.func90, Tryz.ntmps90
        go_wp2_with fail
        go_ret
        exact ⟨ret_bool (by rw [HR.out]; simp), (Ext.refl w).alloc _⟩
  · have v1 := empty_no ht
    have v2 := empty_no2 ht
    have hz : (tb.size == 0) = false := by simpa using ht
    rw [hz] at HR
    clear ht hz
    cases o0
    all_goals
      go_enter Tryz.func90, Tryz.ntmps90
      go_wp2_with fail
      go_ret
      exact ⟨ret_bool (by rw [HR.out]; simp), (Ext.refl w).alloc _⟩
theorem rinsert_any (L : List (List Ex)) (A : Option Addr) (n c : Nat) (w : World) (hl : L.length = n) (hn : n ≤ 9223372036854775807) (hk : RowsAt w A L) (hm : ∀ l ∈ L, l.length ≤ 9223372036854775807) :
    Calls Tryz.prog 92 #[.slice A n c] w fun r w' => r = .returned (.bool (decide (0 < n) && L.all rowOk)) ∧ Ext w w' := by
  have HL := hid hl
  have HK := hid hk
  have HM := hid hm
  clear hl hk hm
  go_enter Tryz.func92, Tryz.ntmps92
  go_wp2_with fail
  go_loopw [3] (fun iv wr => ∃ (k : Nat), k ≤ n ∧ iv = .int .i64 k ∧ (L.take k).all rowOk = true ∧ Ext w wr) (fun i _ => n - (intOf i).toNat)
  case atStart => exact ⟨0, Nat.zero_le _, rfl, rfl, Ext.refl w⟩
  case round =>
    obtain ⟨k, hkn, rfl, hr, hxr⟩ := hrel
    have HXr := hid hxr
    have HRr := hid hr
    by_cases hlt : k < n
    · obtain ⟨l, hx⟩ := rat_lt HL.out hlt
      obtain ⟨b, off, Ai, ni, ci, rfl, q0, h1, h2⟩ := (HK.out.ext hxr) k l hx
      have HE := hid hx
      have hni : ni ≤ 9223372036854775807 := by have := HM.out l (List.mem_of_getElem? hx); omega
      have H1 := hid h1
      have H2 := hid h2
      have HQ := hid (fun W (hW : Ext wr W) => hW.keep q0)
      have HRow : Hid (rowOk l = (decide (0 < ni) && l.all Ex.formed)) := by unfold Hid rowOk; rw [h1]
      clear hx hxr hr h1 h2
      go_wp2_with fail
      clear q0
      go_loopw [4] (fun jv w2 => ∃ (j : Nat), j ≤ ni ∧ jv = .int .i64 j ∧ (l.take j).all Ex.formed = true ∧ Ext wr w2) (fun j _ => ni - (intOf j).toNat)
      case atStart => exact ⟨0, Nat.zero_le _, rfl, rfl, Ext.refl wr⟩
      case round =>
        rename_i w2 _ _
        obtain ⟨j, hjn, rfl, hr2, hx2⟩ := hrel
        have HX2 := hid hx2
        have HR2 := hid hr2
        have q0 := HQ.out _ hx2
        by_cases hlt2 : j < ni
        · obtain ⟨x, hx⟩ := rat_lt H1.out hlt2
          obtain ⟨b2, off2, Aj, nj, cj, rfl, p0, p1, p2, p3, p4, p5, p6, p7, h3⟩ := (H2.out.ext hx2).get hx
          have HC := hid (rformed_any x Aj nj cj _ h3)
          have HE2 := hid hx
          unfold Nd.val at HC
          clear hx h3 hx2 hr2
          cases hp : x.formed
          · have HP : Hid (L.all rowOk = false) := allA_no HE.out (by rw [HRow.out, allA_no HE2.out hp]; simp)
            rw [hp] at HC
            clear hp
            go_wp2_with (go_at_call 48; refine HC.out.mono ?_; rintro _ w3 ⟨rfl, hx3⟩)
            go_ret
            exact ⟨ret_bool (by rw [HP.out]; simp), HXr.out.trans (HX2.out.trans hx3)⟩
          · have HP : Hid ((l.take (j + 1)).all Ex.formed = true) := allA_step HE2.out HR2.out hp
            rw [hp] at HC
            clear hp
            go_wp2_with (go_at_call 48; refine HC.out.mono ?_; rintro _ w3 ⟨rfl, hx3⟩)
            go_roundw
            case rel => exact ⟨j + 1, by omega, by go_num, HP.out, HX2.out.trans hx3⟩
            case measure => simp [intOf]; omega
        · obtain rfl : j = ni := by omega
          have HP : Hid (l.all Ex.formed = true) := allA_end H1.out HR2.out
          clear hr2 hx2
          by_cases hz : j = 0
          · have hz2 : ((j : Int) == 0) = true := by simp [hz]
            have HPL : Hid (L.all rowOk = false) := allA_no HE.out (by rw [HRow.out]; simp [hz])
            clear hz
            go_wp2_with fail
            go_ret
            exact ⟨ret_bool (by rw [HPL.out]; simp), HXr.out.trans HX2.out⟩
          · have hz2 : ((j : Int) == 0) = false := by simp [hz]
            have HPL : Hid ((L.take (k + 1)).all rowOk = true) := allA_step HE.out HRr.out (by rw [HRow.out, HP.out]; simp; omega)
            clear hz
            go_wp2_with fail
            go_roundw
            case rel => exact ⟨k + 1, by omega, by go_num, HPL.out, HXr.out.trans HX2.out⟩
            case measure => simp [intOf]; omega
    · obtain rfl : k = n := by omega
      have HP : Hid (L.all rowOk = true) := allA_end HL.out HRr.out
      clear hr
      go_wp2_with fail
      go_ret
      exact ⟨ret_bool (by rw [HP.out]; simp), HXr.out⟩
theorem rsets_any (L : List Asg) (A : Option Addr) (n c : Nat) (w : World) (hl : L.length = n) (hn : n ≤ 9223372036854775807) (hk : AsgsAt w A L) :
    Calls Tryz.prog 93 #[.slice A n c] w fun r w' => r = .returned (.bool (decide (0 < n) && L.all Asg.ok)) ∧ Ext w w' := by
  have HL := hid hl
  have HK := hid hk
  clear hl hk
  go_enter Tryz.func93, Tryz.ntmps93
  go_wp2_with fail
  go_loopw [3] (fun iv wr => ∃ (k : Nat), k ≤ n ∧ iv = .int .i64 k ∧ (L.take k).all Asg.ok = true ∧ Ext w wr) (fun i _ => n - (intOf i).toNat)
  case atStart => exact ⟨0, Nat.zero_le _, rfl, rfl, Ext.refl w⟩
  case round =>
    obtain ⟨k, hkn, rfl, hr, hxr⟩ := hrel
    have HXr := hid hxr
    have HRr := hid hr
    by_cases hlt : k < n
    · obtain ⟨x, hx⟩ := rat_lt HL.out hlt
      have hcl := ((HK.out.ext hxr) k x hx).1.1
      have hk2 := HK.out.ext hxr
      obtain ⟨b, off, Ai, ni, ci, rfl, q0, q1, q2, q3, q4, q5, q6, q7, q8, q9, h1⟩ := asg_get hk2 hx
      have HN := hid (rname_any x.cl wr hcl)
      have HF := hid (fun W (hW : Ext wr W) => rformed_any x.ex Ai ni ci W (h1.ext hW))
      have HE := hid hx
      have HQ : Hid (∀ W, Ext wr W → W.cell? ⟨b, off + k * 10 + 2, none⟩ = some (.int .i64 x.ex.d.op) ∧ W.cell? ⟨b, off + k * 10 + 3, none⟩ = some (.string x.ex.d.tb) ∧ W.cell? ⟨b, off + k * 10 + 4, none⟩ = some (.string x.ex.d.nm) ∧ W.cell? ⟨b, off + k * 10 + 5, none⟩ = some (.int .i64 x.ex.d.ix) ∧ W.cell? ⟨b, off + k * 10 + 6, none⟩ = some (.int .i64 x.ex.d.vk) ∧ W.cell? ⟨b, off + k * 10 + 7, none⟩ = some (.int .i64 x.ex.d.vi) ∧ W.cell? ⟨b, off + k * 10 + 8, none⟩ = some (.string x.ex.d.vt) ∧ W.cell? ⟨b, off + k * 10 + 9, none⟩ = some (.slice Ai ni ci)) := fun W hW => ⟨hW.keep q2, hW.keep q3, hW.keep q4, hW.keep q5, hW.keep q6, hW.keep q7, hW.keep q8, hW.keep q9⟩
      have HRow : Hid (Asg.ok x = (nameB x.cl && x.ex.formed)) := rfl
      unfold Nd.val at HF
      clear hx hxr hr h1 hk2 hcl q1 q2 q3 q4 q5 q6 q7 q8 q9
      cases hp : nameB x.cl
      · have HP : Hid (L.all Asg.ok = false) := allA_no HE.out (by rw [HRow.out, hp]; rfl)
        rw [hp] at HN
        clear hp
        go_wp2_with (go_at_call 89; refine HN.out.mono ?_; rintro _ w2 ⟨rfl, hx2⟩)
        go_ret
        exact ⟨ret_bool (by rw [HP.out]; simp), HXr.out.trans hx2⟩
      · rw [hp] at HN
        cases hq : x.ex.formed
        · have HP : Hid (L.all Asg.ok = false) := allA_no HE.out (by rw [HRow.out, hq]; simp)
          rw [hq] at HF
          clear hp hq
          go_wp2_with (first | (go_at_call 89; refine HN.out.mono ?_; rintro _ w2 ⟨rfl, hx2⟩; obtain ⟨e2, e3, e4, e5, e6, e7, e8, e9⟩ := HQ.out _ hx2) | (go_at_call 48; refine (HF.out _ hx2).mono ?_; rintro _ w3 ⟨rfl, hx3⟩))
          go_ret
          exact ⟨ret_bool (by rw [HP.out]; simp), HXr.out.trans (hx2.trans hx3)⟩
        · have HP : Hid ((L.take (k + 1)).all Asg.ok = true) := allA_step HE.out HRr.out (by rw [HRow.out, hp, hq]; rfl)
          rw [hq] at HF
          clear hp hq
          go_wp2_with (first | (go_at_call 89; refine HN.out.mono ?_; rintro _ w2 ⟨rfl, hx2⟩; obtain ⟨e2, e3, e4, e5, e6, e7, e8, e9⟩ := HQ.out _ hx2) | (go_at_call 48; refine (HF.out _ hx2).mono ?_; rintro _ w3 ⟨rfl, hx3⟩))
          go_roundw
          case rel => exact ⟨k + 1, by omega, by go_num, HP.out, HXr.out.trans (hx2.trans hx3)⟩
          case measure => simp [intOf]; omega
    · obtain rfl : k = n := by omega
      have HP : Hid (L.all Asg.ok = true) := allA_end HL.out HRr.out
      clear hr
      go_wp2_with fail
      go_ret
      exact ⟨ret_bool (by rw [HP.out]; simp), HXr.out⟩
end Go.Proofs.YtcdnodjcnofogaaGreatDoor
