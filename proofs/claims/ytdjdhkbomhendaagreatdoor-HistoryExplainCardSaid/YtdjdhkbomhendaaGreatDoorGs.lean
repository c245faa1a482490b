/-
  Walks over history: the reference's readRow (plain part). · Walks over history: the reference's readRow.
-/
import Derived.Test.YtdjdhkbomhendaaGreatDoorGo
import Derived.Test.YtdjdhkbomhendaaGreatDoorGj
namespace Go.Proofs.YtdjdhkbomhendaaGreatDoor
open Go.RowKit
set_option linter.unusedVariables false
set_option linter.unusedSimpArgs false
set_option maxHeartbeats 400000
set_option maxRecDepth 100000

/-- where the reference's loop over a row stands -/
def RdSt (s : ByteArray) (rest : List UInt8) (acc : List Val) : Prop :=
  AccOk acc ∧ acc.length + rest.length ≤ s.size ∧ ∃ f, rest.length < f ∧ refRow s.data.toList = refGo f rest acc
theorem refScan_le : ∀ (l : List UInt8) (b : Bool), refScan b l ≤ l.length
  | [], b => Nat.le_refl _
  | c :: r, b => by
    have h := refScan_le r (if c = 39 then !b else b)
    rw [refScan]
    split
    · exact Nat.zero_le _
    · simp only [List.length_cons]; omega
theorem RdSt.start {s : ByteArray} (h : ¬ (s.data.toList.length < 2 ∨ s.data.toList.head? ≠ some 40 ∨ s.data.toList.getLast? ≠ some 41)) : RdSt s (s.data.toList.drop 1).dropLast [] := by
  have hz : s.data.toList.length = s.size := rfl
  have hl : ((s.data.toList.drop 1).dropLast).length = s.size - 1 - 1 := by rw [List.length_dropLast, List.length_drop, hz]
  have h2 : 2 ≤ s.size := by
    rcases Nat.lt_or_ge s.size 2 with h' | h'
    · exact absurd (.inl (by omega)) h
    · exact h'
  refine ⟨fun a h => (by cases h), by rw [hl]; simp; omega, s.data.toList.length, by rw [hl]; omega, ?_⟩
  unfold refRow
  rw [if_neg h]
theorem RdSt.fin {s : ByteArray} {acc : List Val} (h : RdSt s [] acc) : refRow s.data.toList = some acc := by
  obtain ⟨_, _, f, h1, h2⟩ := h
  obtain ⟨f, rfl⟩ : ∃ g, f = g + 1 := ⟨f - 1, by omega⟩
  rw [h2, refGo, if_pos rfl]
theorem RdSt.no {s : ByteArray} {rest : List UInt8} {acc : List Val} (h : RdSt s rest acc) (hr : rest ≠ []) (hp : ¬ (prs (BA (rest.take (refScan false rest)))).2 = 0) : refRow s.data.toList = none := by
  obtain ⟨_, _, f, h1, h2⟩ := h
  obtain ⟨f, rfl⟩ : ∃ g, f = g + 1 := ⟨f - 1, by omega⟩
  rw [h2, refGo, if_neg hr]
  exact if_neg hp
theorem RdSt.less {rest : List UInt8} (hp : (prs (BA (rest.take (refScan false rest)))).2 = 0) : (rest.drop (refScan false rest)).length < rest.length ∧ 1 ≤ refScan false rest := by
  have h6 := prs_ok hp
  have h7 := refScan_le rest false
  rcases Nat.eq_zero_or_pos (refScan false rest) with h0 | hpos
  · exfalso
    have := fmtV_ne h6.2.1
    rw [h6.1, h0] at this
    exact this rfl
  · rw [List.length_drop]
    exact ⟨by omega, hpos⟩
theorem RdSt.acc {s : ByteArray} {rest : List UInt8} {acc : List Val} (h : RdSt s rest acc) (q : ByteArray) : AccOk (acc ++ [(prs q).1]) := by
  intro a ha
  rcases List.mem_append.1 ha with ha | ha
  · exact h.1 a ha
  · obtain rfl := List.mem_singleton.1 ha
    exact ⟨by have := prs_t q; omega, prs_bd _⟩
theorem RdSt.last {s : ByteArray} {rest : List UInt8} {acc : List Val} (h : RdSt s rest acc) (hr : rest ≠ []) (hp : (prs (BA (rest.take (refScan false rest)))).2 = 0) (hd : rest.drop (refScan false rest) = []) :
    RdSt s [] (acc ++ [(prs (BA (rest.take (refScan false rest)))).1]) := by
  obtain ⟨f, h1, h2⟩ := h.2.2
  have hl := RdSt.less hp
  rw [hd] at hl
  have h4 := h.2.1
  obtain ⟨f, rfl⟩ : ∃ g, f = g + 1 := ⟨f - 1, by omega⟩
  refine ⟨h.acc _, by rw [List.length_append]; simp at hl ⊢; omega, f, by simp at hl ⊢; omega, ?_⟩
  rw [h2, refGo, if_neg hr]
  refine (if_pos hp).trans ?_
  rw [if_pos hd]
  rfl
theorem RdSt.no2 {s : ByteArray} {rest : List UInt8} {acc : List Val} (h : RdSt s rest acc) (hr : rest ≠ []) (hp : (prs (BA (rest.take (refScan false rest)))).2 = 0) (hd : rest.drop (refScan false rest) ≠ [])
    (hn : (rest.drop (refScan false rest)).length < 3 ∨ (rest.drop (refScan false rest))[1]? ≠ some 32) : refRow s.data.toList = none := by
  obtain ⟨_, _, f, h1, h2⟩ := h
  obtain ⟨f, rfl⟩ : ∃ g, f = g + 1 := ⟨f - 1, by omega⟩
  rw [h2, refGo, if_neg hr]
  refine (if_pos hp).trans ?_
  rw [if_neg hd]
  exact if_pos hn
theorem RdSt.step {s : ByteArray} {rest : List UInt8} {acc : List Val} (h : RdSt s rest acc) (hr : rest ≠ []) (hp : (prs (BA (rest.take (refScan false rest)))).2 = 0) (hd : rest.drop (refScan false rest) ≠ [])
    (hn : ¬ ((rest.drop (refScan false rest)).length < 3 ∨ (rest.drop (refScan false rest))[1]? ≠ some 32)) : RdSt s ((rest.drop (refScan false rest)).drop 2) (acc ++ [(prs (BA (rest.take (refScan false rest)))).1]) := by
  obtain ⟨f, h1, h2⟩ := h.2.2
  have hl := RdSt.less hp
  have h4 := h.2.1
  have hl2 : ((rest.drop (refScan false rest)).drop 2).length ≤ (rest.drop (refScan false rest)).length := by rw [List.length_drop]; omega
  obtain ⟨f, rfl⟩ : ∃ g, f = g + 1 := ⟨f - 1, by omega⟩
  refine ⟨h.acc _, by rw [List.length_append, List.length_singleton]; omega, f, by omega, ?_⟩
  rw [h2, refGo, if_neg hr]
  refine (if_pos hp).trans ?_
  rw [if_neg hd]
  exact if_neg hn
theorem scan_step (l : List UInt8) (k : Nat) (b : Bool) (h : k < l.length) (hc : ¬ (b = false ∧ l[k] = 44)) : refScan b (l.drop k) = 1 + refScan (if l[k] = 39 then !b else b) (l.drop (k + 1)) := by
  rw [← List.getElem_cons_drop h, refScan, if_neg hc]
theorem scan_halt (l : List UInt8) (k : Nat) (h : k < l.length) (hc : l[k] = 44) : refScan false (l.drop k) = 0 := by
  rw [← List.getElem_cons_drop h, refScan, if_pos ⟨rfl, hc⟩]
end Go.Proofs.YtdjdhkbomhendaaGreatDoor
namespace Go.Proofs.YtdjdhkbomhendaaGreatDoor
open Go.RowKit
set_option linter.unusedVariables false
set_option linter.unusedSimpArgs false
set_option maxHeartbeats 2000000
set_option maxRecDepth 100000

theorem head_at {s : ByteArray} (h : 0 < s.size) : s.data.toList.head? = some s[0] := by
  have hl : 0 < s.data.toList.length := h
  rw [List.head?_eq_getElem?, List.getElem?_eq_getElem hl]
  rfl
theorem last_at {s : ByteArray} (h : s.size - 1 < s.size) : s.data.toList.getLast? = some s[s.size - 1] := by
  have hl : s.data.toList.length - 1 < s.data.toList.length := h
  rw [List.getLast?_eq_getElem?, List.getElem?_eq_getElem hl]
  rfl
theorem u8_ne {a b : UInt8} (h : a ≠ b) : ¬ (a.toNat : Int) = (b.toNat : Int) := fun e => h (UInt8.toNat_inj.1 (by omega))
/-- the result of reading a row -/
def RowR (B n : Nat) (r : Option (List Val)) (e : Ending) (w' : World) : Prop :=
  ∃ v b acc, e = .returned (.tuple #[v, .bool b]) ∧ r = (if b = true then some acc else none) ∧ w'.ownsRow B 88 3 v acc.length (valcs acc) ∧ acc.length ≤ n
theorem RowR.no {B n : Nat} {r : Option (List Val)} {w : World} (h : r = none) : RowR B n r (.returned (.tuple #[.slice none 0 0, .bool false])) w :=
  ⟨_, false, [], rfl, by rw [h]; rfl, World.ownsRow_nil _ _ _ _, Nat.zero_le _⟩
theorem readrow_any (s : ByteArray) (w : World) (hs : s.size ≤ 1000000) :
    Calls Tryz.prog 77 #[.string s] w fun e w' => RowR w.heap.size s.size (refRow s.data.toList) e w' ∧ Ext w w' := by
  obtain ⟨i0, hi, hi0z, hz1, hz2⟩ := info_parts info_val
  have hlz : s.data.toList.length = s.size := rfl
  by_cases hbad : s.data.toList.length < 2 ∨ s.data.toList.head? ≠ some 40 ∨ s.data.toList.getLast? ≠ some 41
  · have HN : Hid (refRow s.data.toList = none) := by unfold Hid refRow; rw [if_pos hbad]
    by_cases h1 : s.size < 2
    · have b1 : (s.size : Int) < 2 := by omega
      clear hbad
      go_enter Tryz.func77, Tryz.ntmps77
      go_wp2_with fail
      go_ret2
      exact ⟨RowR.no HN.out, Ext.refl w⟩
    · have b1 : ¬ (s.size : Int) < 2 := by omega
      have hz0 : 0 < s.size := by omega
      have hzl : s.size - 1 < s.size := by omega
      by_cases h2 : s[0] = 40
      · have h3 : s[s.size - 1] ≠ 41 := by
          intro h3
          rw [head_at hz0, last_at hzl, h2, h3] at hbad
          rcases hbad with h | h | h
          · omega
          · exact h rfl
          · exact h rfl
        have b2 : ((s[0].toNat : Int) != 40) = false := by rw [h2]; rfl
        have b3 : ((s[s.size - 1].toNat : Int) != 41) = true := by rw [bne_iff_ne]; exact u8_ne h3
        have i1 : ((s.size : Int) - 1).toNat = s.size - 1 := by omega
        have i2 : (0 : Int) ≤ (s.size : Int) - 1 := by omega
        have i3 : (s.size : Int) - 1 < (s.size : Int) := by omega
        clear hbad h2 h3
        go_enter Tryz.func77, Tryz.ntmps77
        go_wp2_with fail
        go_ret2
        exact ⟨RowR.no HN.out, Ext.refl w⟩
      · have b2 : ((s[0].toNat : Int) != 40) = true := by rw [bne_iff_ne]; exact u8_ne h2
        clear hbad h2
        go_enter Tryz.func77, Tryz.ntmps77
        go_wp2_with fail
        go_ret2
        exact ⟨RowR.no HN.out, Ext.refl w⟩
  · have HS0 := hid (RdSt.start hbad)
    have h1 : ¬ s.size < 2 := fun h => hbad (.inl h)
    have b1 : ¬ (s.size : Int) < 2 := by omega
    have hz0 : 0 < s.size := by omega
    have hzl : s.size - 1 < s.size := by omega
    have h2 : s[0] = 40 := by
      apply Classical.byContradiction
      intro h
      exact hbad (.inr (.inl (by rw [head_at hz0]; intro e; exact h (Option.some.inj e))))
    have h3 : s[s.size - 1] = 41 := by
      apply Classical.byContradiction
      intro h
      exact hbad (.inr (.inr (by rw [last_at hzl]; intro e; exact h (Option.some.inj e))))
    have b2 : ((s[0].toNat : Int) != 40) = false := by rw [h2]; rfl
    have b3 : ((s[s.size - 1].toNat : Int) != 41) = false := by rw [h3]; rfl
    have i1 : ((s.size : Int) - 1).toNat = s.size - 1 := by omega
    have i2 : (0 : Int) ≤ (s.size : Int) - 1 := by omega
    have i3 : (s.size : Int) - 1 < (s.size : Int) := by omega
    have i4 : (s.size : Int) - 1 ≤ (s.size : Int) := by omega
    have i5 : (1 : Int) ≤ (s.size : Int) - 1 := by omega
    clear hbad h2 h3
    have hT0 : (s.extract 1 (s.size - 1)).data.toList = (s.data.toList.drop 1).dropLast := by
      have := Lib.extract_toList s 1 (s.size - 1)
      rw [ByteArray.toList_eq] at this
      rw [this, List.dropLast_eq_take, List.length_drop]
      rfl
    have HT0 := hid hT0
    clear hT0
    go_enter Tryz.func77, Tryz.ntmps77
    go_wp2_with fail
    generalize s.extract 1 (s.size - 1) = T0 at *
    rw [← HT0.out] at HS0
    have HT0s : Hid (T0.size ≤ s.size) := by
      have := congrArg List.length HT0.out
      rw [List.length_dropLast, List.length_drop] at this
      have h2 : T0.data.toList.length = T0.size := rfl
      unfold Hid
      omega
    clear HT0
    go_loopw [4, 5] (fun sv rv wr => ∃ (T : ByteArray) (acc : List Val), rv = .string T ∧ wr.ownsRow w.heap.size 88 3 sv acc.length (valcs acc) ∧ RdSt s T.data.toList acc ∧ Ext w wr)
      (fun _ rv _ => match rv with | .string t => t.size | _ => 0)
    case atStart =>
      exact ⟨T0, [], rfl, ⟨by simp [valcs], .inr ⟨w.heap.size, 0, #[], rfl, Nat.le_refl _, by show (w.heap.push _)[w.heap.size]? = _; simp, Nat.le_refl _, by decide, by simp, by simp [valcs]⟩⟩, HS0.out, (Ext.refl w).alloc _⟩
    case round =>
      obtain ⟨T, acc, rfl, hown, hst, hxr⟩ := hrel
      have HSt := hid hst
      have HXr := hid hxr
      obtain ⟨na, hna⟩ : ∃ na, acc.length = na := ⟨_, rfl⟩
      have HNA := hid hna
      rw [hna] at hown
      have HO := hid hown
      have hTl : T.data.toList.length = T.size := rfl
      have hnb : na + T.size ≤ 1000000 := by have := hst.2.1; omega
      have HNB := hid hnb
      clear hown hst hxr hna
      by_cases hz : T.size = 0
      · have e0 : T = ⟨#[]⟩ := t_inj (List.eq_nil_of_length_eq_zero hz)
        subst e0
        clear hz
        go_wp2_with fail
        go_ret2
        exact ⟨⟨_, true, acc, rfl, by rw [HSt.out.fin]; rfl, by rw [HNA.out]; exact HO.out, by rw [HNA.out]; have := HSt.out.2.1; rw [HNA.out] at this; omega⟩, HXr.out⟩
      · have hne : Hid (T.data.toList ≠ []) := fun h => hz (by rw [← hTl, h]; rfl)
        have e0 : T.toList.isEmpty = false := by
          rw [ByteArray.toList_eq]
          cases h : T.data.toList with
          | nil => exact absurd h hne.out
          | cons => rfl
        obtain ⟨Ax, cx, hvx⟩ := own_slice HO.out
        subst hvx
        have hTs : T.size ≤ 1000000 := by omega
        obtain ⟨q, hq⟩ : ∃ q, refScan false T.data.toList = q := ⟨_, rfl⟩
        have HQ := hid hq
        have hq1 : q ≤ T.size := by have := refScan_le T.data.toList false; omega
        clear hq
        go_upto_block 2 with fail
        go_cut [6, 7] from 34 to 54 (fun nv bv wx => nv = .int .i64 q ∧ (∃ b, bv = .bool b) ∧ wx = wr)
        case first =>
          go_wp2_with fail
          go_loop [6, 7] (fun nv bv => ∃ (k : Nat) (b : Bool), k ≤ T.size ∧ nv = .int .i64 k ∧ bv = .bool b ∧ refScan false T.data.toList = k + refScan b (T.data.toList.drop k)) (fun nv _ => T.size - (intOf nv).toNat)
          case atStart => exact ⟨0, false, Nat.zero_le _, rfl, rfl, by rw [List.drop_zero, Nat.zero_add]⟩
          case round =>
            obtain ⟨k, b, hk, rfl, rfl, hr⟩ := hrel
            rw [HQ.out] at hr
            have HR := hid hr
            clear hr
            by_cases hlt : k < T.size
            · have HStep := hid (scan_step T.data.toList k b hlt)
              have HHalt := hid (scan_halt T.data.toList k hlt)
              change Hid (¬ (b = false ∧ T[k] = 44) → refScan b (T.data.toList.drop k) = 1 + refScan (if T[k] = 39 then !b else b) (T.data.toList.drop (k + 1))) at HStep
              change Hid (T[k] = 44 → refScan false (T.data.toList.drop k) = 0) at HHalt
              by_cases hstop : b = false ∧ T[k] = 44
              · obtain ⟨rfl, h44⟩ := hstop
                have hqk : Hid (q = k) := by unfold Hid; rw [HR.out, HHalt.out h44, Nat.add_zero]
                have b44 : ((T[k].toNat : Int) != 44) = false := by rw [h44]; rfl
                clear HStep HHalt h44
                go_wp2_with fail
                go_meet
                exact ⟨by rw [hqk.out], ⟨_, rfl⟩, rfl⟩
              · have hs := HStep.out hstop
                by_cases h39 : T[k] = 39
                · rw [if_pos h39] at hs
                  have HS := hid hs
                  have b39 : ((T[k].toNat : Int) == 39) = true := by rw [h39]; rfl
                  have b44 : ((T[k].toNat : Int) != 44) = true := by rw [h39]; rfl
                  clear HStep HHalt hs h39 hstop
                  cases b
                  all_goals
                    go_wp2_with fail
                    refine ⟨⟨k + 1, _, by omega, by go_num, rfl, ?_⟩, by simp [intOf]; omega⟩
                    have h1 := HR.out
                    have h2 := HS.out
                    simp only [Bool.not_false, Bool.not_true] at h2
                    rw [HQ.out]
                    omega
                · rw [if_neg h39] at hs
                  have HS := hid hs
                  have b39 : ((T[k].toNat : Int) == 39) = false := by rw [beq_eq_false_iff_ne]; exact u8_ne h39
                  have HST := hid hstop
                  clear HStep HHalt hs h39 hstop
                  cases b
                  · have b44 : ((T[k].toNat : Int) != 44) = true := by rw [bne_iff_ne]; exact u8_ne (fun h => HST.out ⟨rfl, h⟩)
                    go_wp2_with fail
                    refine ⟨⟨k + 1, _, by omega, by go_num, rfl, ?_⟩, by simp [intOf]; omega⟩
                    rw [HQ.out, HR.out, HS.out]
                    omega
                  · go_wp2_with fail
                    refine ⟨⟨k + 1, _, by omega, by go_num, rfl, ?_⟩, by simp [intOf]; omega⟩
                    rw [HQ.out, HR.out, HS.out]
                    omega
            · obtain rfl : k = T.size := by omega
              have hqk : Hid (q = T.size) := by
                unfold Hid
                rw [HR.out, List.drop_of_length_le (show T.data.toList.length ≤ T.size from Nat.le_refl _)]
                rfl
              go_wp2_with fail
              go_meet
              exact ⟨by rw [hqk.out], ⟨_, rfl⟩, rfl⟩
        case rest =>
          obtain ⟨rfl, ⟨b0, rfl⟩, rfl⟩ := hcut
          have HPe := hid (ext_take T q)
          have HDr := hid (ext_drop T q)
          obtain ⟨P, hP⟩ : ∃ P, T.extract 0 q = P := ⟨_, rfl⟩
          have HPT : Hid (BA (T.data.toList.take (refScan false T.data.toList)) = P) := by unfold Hid; rw [HQ.out, ← HPe.out, hP]
          have HP := hid hP
          have hps : P.size ≤ 1000000 := by rw [← hP, ByteArray.size_extract]; omega
          have HRd := hid (fun W => read_any P W hps)
          obtain ⟨T5, hT5⟩ : ∃ T5, T.extract q T.size = T5 := ⟨_, rfl⟩
          have HT5 := hid hT5
          have HTD : Hid (T.data.toList.drop (refScan false T.data.toList) = T5.data.toList) := by unfold Hid; rw [HQ.out, ← hT5, HDr.out]; rfl
          obtain ⟨x, E, hxe⟩ : ∃ x E, prs P = (x, E) := ⟨_, _, rfl⟩
          rw [hxe] at HRd
          have HXE := hid hxe
          have hi0 : (0 : Int) ≤ (q : Int) := by omega
          have hi1 : (q : Int) ≤ (T.size : Int) := by omega
          clear hxe hps hP hT5
          dsimp only at HRd
          obtain ⟨xk, xn, xt⟩ := x
          dsimp only at HRd
          obtain ⟨eb, heb⟩ : ∃ eb, (E == 0) = eb := ⟨_, rfl⟩
          rw [heb] at HRd
          have HEB := hid heb
          clear heb
          cases eb
          · have HN : Hid (refRow s.data.toList = none) := HSt.out.no hne.out (by
              rw [HPT.out, HXE.out]
              have := HEB.out
              simpa using this)
            go_wp2_with (go_at_call 100; rw [HP.out]; (with_reducible refine (HRd.out _).mono ?_); rintro _ w3 ⟨rfl, hx3⟩)
            go_ret2
            exact ⟨RowR.no HN.out, HXr.out.trans (hx3.trans ((Ext.refl _).alloc _))⟩
          · have HP0 : Hid ((prs (BA (T.data.toList.take (refScan false T.data.toList)))).2 = 0) := by
              unfold Hid
              rw [HPT.out, HXE.out]
              have := HEB.out
              simpa using this
            have HLess := hid (RdSt.less HP0.out)
            rw [HTD.out, HQ.out] at HLess
            have HSZ5 : Hid (na + 1 ≤ 1000002) := by unfold Hid; omega
            have HAcc : Hid (∀ (W : World) (v : Value), W.ownsRow w.heap.size 88 3 v (na + 1) (valcs acc ++ [.int .i64 xk, .int .i64 xn, .string xt]) → W.ownsRow w.heap.size 88 3 v (acc ++ [Val.mk xk xn xt]).length (valcs (acc ++ [Val.mk xk xn xt]))) := fun W v h => by
              have e : (acc ++ [Val.mk xk xn xt]).length = na + 1 := by rw [List.length_append, HNA.out]; rfl
              rw [e, valcs_app]
              exact h
            go_upto_region 14 with (go_at_call 100; rw [HP.out]; (with_reducible refine (HRd.out _).mono ?_); rintro _ w3 ⟨rfl, hx3⟩)
            have HB8 := hid (Blk.of_new w3 88 [.int .i64 xk, .int .i64 xn, .string xt])
            have HX8 := hid ((Ext.refl w3).alloc (.cells #[.int .i64 xk, .int .i64 xn, .string xt] 88))
            have HOw := hid (ownN_ext (ownN_ext HO.out hx3) HX8.out)
            have HX9 := hid (HXr.out.trans (hx3.trans HX8.out))
            generalize w3.alloc (.cells #[.int .i64 xk, .int .i64 xn, .string xt] 88) = w8 at *
            generalize w3.heap.size = g8 at *
            obtain ⟨e0', e1', e2'⟩ := blk3c HB8.out
            have hsz5 : T5.size = T.size - q := by rw [← HT5.out, ByteArray.size_extract]; omega
            have HSz := hid hsz5
            have HLs : Hid (T5.size < T.size) := by
              have h9 : T5.data.toList.length = T5.size := rfl
              have := HLess.out.1
              unfold Hid
              omega
            have hT5s : T5.size ≤ 1000000 := by omega
            go_upto_region 16 with (at_builtin; refine wpList_append_any _ rfl (.tmp 64) (.tmp 66) 60 rfl w.heap.size 88 i0 _ 3 32 Tryz.underlying60 hi hi0z hz1 hz2 rfl (by decide) _ na _ rfl (HOw.out.alloc _) _ _ 1 1 [.int .i64 xk, .int .i64 xn, .string xt] rfl (reads_new3 _ _ _ _ _) (by simp [Value.oneCell']) (by have := HSZ5.out; unfold maxLen; omega) (by have := HSZ5.out; omega) (by have := HX9.out.size; simp; omega) ?_; intro v5 w5 hown5 hgr5 hblk5)
            rw [HT5.out]
            have HO5 := hid hown5
            have HG5 : Hid (Ext w w5) := Ext.grown (HX9.out.alloc _) hgr5 (fun g hg => own_ge HO.out hg)
            clear hown5 hgr5 hblk5 e0' e1' e2' hsz5 hi0 hi1 e0 hq1 hTs
            by_cases hz5 : T5.size = 0
            · have h5 : T5.data.toList = [] := List.eq_nil_of_length_eq_zero hz5
              have HK : Hid (RdSt s T5.data.toList (acc ++ [Val.mk xk xn xt])) := by
                have h6 := HSt.out.last hne.out HP0.out (by rw [HTD.out]; exact h5)
                rw [HPT.out, HXE.out] at h6
                unfold Hid
                rw [h5]
                exact h6
              have e5 : T5.toList.isEmpty = true := by rw [ByteArray.toList_eq, h5]; rfl
              have e6 : T5.toList = [] := by rw [ByteArray.toList_eq, h5]
              clear hz5 HSt HTD HPT h5
              go_wp2_with fail
              exact ⟨⟨T5, acc ++ [Val.mk xk xn xt], rfl, HAcc.out _ _ HO5.out, HK.out, HG5.out⟩, HLs.out⟩
            · have e5 : T5.toList.isEmpty = false := by
                rw [ByteArray.toList_eq]
                cases h : T5.data.toList with
                | nil => exact absurd (by show T5.data.toList.length = 0; rw [h]; rfl) hz5
                | cons => rfl
              have hd0 : Hid (T.data.toList.drop (refScan false T.data.toList) ≠ []) := by
                intro h
                rw [HTD.out] at h
                exact hz5 (by show T5.data.toList.length = 0; rw [h]; rfl)
              by_cases h3 : T5.size < 3
              · have hN : Hid (refRow s.data.toList = none) := HSt.out.no2 hne.out HP0.out hd0.out (.inl (by rw [HTD.out]; exact h3))
                have b5 : (T5.size : Int) < 3 := by omega
                clear hz5 HSt HTD HPT h3
                go_wp2_with fail
                go_ret2
                exact ⟨RowR.no hN.out, HG5.out⟩
              · have b5 : ¬ (T5.size : Int) < 3 := by omega
                have hlt1 : 1 < T5.size := by omega
                have hget : Hid (T5.data.toList[1]? = some (T5[1]'hlt1)) := by
                  have hl : 1 < T5.data.toList.length := hlt1
                  unfold Hid
                  rw [List.getElem?_eq_getElem hl]
                  rfl
                by_cases h32 : T5[1]'hlt1 = 32
                · have hst := HSt.out.step hne.out HP0.out hd0.out (by
                    rw [HTD.out, hget.out, h32]
                    rintro (h | h)
                    · exact h3 h
                    · exact h rfl)
                  rw [HPT.out, HXE.out, HTD.out] at hst
                  have HK : Hid (RdSt s (T5.extract 2 T5.size).data.toList (acc ++ [Val.mk xk xn xt])) := by
                    unfold Hid
                    rw [ext_drop, BA_list]
                    exact hst
                  have b32 : (((T5[1]'hlt1).toNat : Int) != 32) = false := by rw [h32]; rfl
                  have i2' : (2 : Int) ≤ (T5.size : Int) := by omega
                  have HMl : Hid ((T5.extract 2 T5.size).size < T.size) := by
                    unfold Hid
                    rw [ByteArray.size_extract]
                    have := HLs.out
                    omega
                  clear hz5 HSt HTD HPT h3 h32 hst
                  go_wp2_with fail
                  exact ⟨⟨T5.extract 2 T5.size, acc ++ [Val.mk xk xn xt], rfl, HAcc.out _ _ HO5.out, HK.out, HG5.out⟩, by show (T5.extract 2 T5.size).size < T.size; exact HMl.out⟩
                · have hN : Hid (refRow s.data.toList = none) := HSt.out.no2 hne.out HP0.out hd0.out (.inr (by
                    rw [HTD.out, hget.out]
                    exact fun h => h32 (Option.some.inj h)))
                  have b32 : (((T5[1]'hlt1).toNat : Int) != 32) = true := by rw [bne_iff_ne]; exact u8_ne h32
                  clear hz5 HSt HTD HPT h3 h32
                  go_wp2_with fail
                  go_ret2
                  exact ⟨RowR.no hN.out, HG5.out⟩
end Go.Proofs.YtdjdhkbomhendaaGreatDoor
