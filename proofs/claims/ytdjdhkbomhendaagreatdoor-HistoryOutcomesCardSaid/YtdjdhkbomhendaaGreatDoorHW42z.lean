/-
  Walks over history: the reference's first.
-/
import Derived.Test.YtdjdhkbomhendaaGreatDoorHW41z
namespace Go.Proofs.YtdjdhkbomhendaaGreatDoor
open Go.RowKit
set_option linter.unusedVariables false
set_option linter.unusedSimpArgs false
set_option maxHeartbeats 4000000
set_option maxRecDepth 100000

theorem str_beq {a b : ByteArray} (h : a.data.toList = b.data.toList) : (a.toList == b.toList) = true := by
  rw [ByteArray.toList_eq, ByteArray.toList_eq]
  exact beq_iff_eq.2 h
theorem str_nbeq {a b : ByteArray} (h : ¬ a.data.toList = b.data.toList) : (a.toList == b.toList) = false := by
  rw [ByteArray.toList_eq, ByteArray.toList_eq]
  exact beq_eq_false_iff_ne.2 h
theorem first_any (s : ByteArray) (w : World) (hs : s.size ≤ 999980) (ht : Tab w) :
    Calls Tryz.prog 39 #[.string s] w fun e w' => HdrR (hdrP s.data.toList) e ∧ Ext w w' := by
  obtain ⟨ii, hii, hi0, hi1, hi2⟩ := info_parts info_i64
  have z1 := k_size s
  have hsl := size_list s
  have HC1 := hid (fun W => rcut_k s W (by omega))
  have HCk := hid (fun (T : ByteArray) W (h : T.size ≤ s.size) => rcut_k T W (by omega))
  have HNk := hid (fun (T : ByteArray) W (h : T.size ≤ s.size) => rnumber_any T W (by omega))
  have HS := hid hs
  have HT := hid ht
  have hk13 := kind_or (k1 s).data.toList
  have HKs : Hid (kTo (k1 s).data.toList 1 = 0) := kTo_start _
  have HKf : Hid (kTo (k1 s).data.toList 14 = kindOf (k1 s).data.toList) := kTo_fin _
  have HKy : Hid (∀ k : Int, 1 ≤ k → k ≤ 13 → (kwB k).data.toList = (k1 s).data.toList → kTo (k1 s).data.toList (k + 1) = k) := fun k h1 h2 h3 => kTo_yes h1 h2 h3
  have HKn : Hid (∀ k : Int, 1 ≤ k → k ≤ 13 → ¬ (kwB k).data.toList = (k1 s).data.toList → kTo (k1 s).data.toList (k + 1) = kTo (k1 s).data.toList k) := fun k h1 h2 h3 => kTo_no h1 h2 h3
  have HSt : Hid (NumSt (s.size + 1) (k2 s).data.toList [] (k2 s).data.toList) := NumSt.start (by rw [size_list]; omega)
  have HNo : Hid (refNums (s.size + 1) (k2 s).data.toList = none → hdrP s.data.toList = none) := fun h => hdr_none (by rw [hsl]; exact h)
  have HBig : Hid (∀ ns, refNums (s.size + 1) (k2 s).data.toList = some ns → kindOf (k1 s).data.toList < 11 ∧ 3 ≤ ns.length ∧ 7 < ns.getD 0 0 → hdrP s.data.toList = none) := fun ns h hc => hdr_big (by rw [hsl]; exact h) hc
  have HFin : Hid (∀ ns, refNums (s.size + 1) (k2 s).data.toList = some ns → ¬ (kindOf (k1 s).data.toList < 11 ∧ 3 ≤ ns.length ∧ 7 < ns.getD 0 0) → hdrP s.data.toList = if (chk (refE (kindOf (k1 s).data.toList) ns)).ok = true ∧ (refE (kindOf (k1 s).data.toList) ns).head.data.toList = s.data.toList then some (refE (kindOf (k1 s).data.toList) ns) else none) :=
    fun ns h hc => hdr_fin (by rw [hsl]; exact h) hc
  have HBd : Hid (∀ ns, refNums (s.size + 1) (k2 s).data.toList = some ns → ∀ n ∈ ns, 0 ≤ n ∧ n ≤ 9223372036854775807) := fun ns h => refNums_bd _ _ _ h
  have HZ : Hid ((k2 s).size ≤ s.size) := z1.2
  clear hs ht z1 hsl
  generalize hdrP s.data.toList = R at *
  generalize k1 s = X at *
  generalize k2 s = Y at *
  generalize kindOf X.data.toList = kd at *
  have HKd : Hid (0 ≤ kd ∧ kd ≤ 13) := by unfold Hid; omega
  clear hk13

  have HB := hid (Blk.of_new w 36 evZ)
  have HX := hid ((Ext.refl w).alloc (.cells evZ.toArray 36))
  go_enter Tryz.func39, Tryz.ntmps39
  go_upto_region 1 with fail
  generalize w.alloc (.cells #[.int .i64 0, .int .i64 0, .int .i64 0, .int .i64 0, .int .i64 0, .int .i64 0, .slice none 0 0, .slice none 0 0] 36) = W1 at *
  obtain ⟨g, hg⟩ : ∃ g, w.heap.size = g := ⟨_, rfl⟩
  have HG := hid hg
  rw [hg] at HB ⊢
  clear hg
  go_upto_region 2 with (go_at_call 76; (with_reducible refine (HC1.out _).mono ?_); rintro _ w2 ⟨rfl, hx2⟩)
  have HB2 := hid ((HB.out.ext hx2).ext ((Ext.refl w2).alloc (.cells evZ.toArray 36)))
  have HD2 := hid (Blk.of_new w2 36 evZ)
  have HX2 := hid ((HX.out.trans hx2).alloc (.cells evZ.toArray 36))
  have hgd : g < w2.heap.size := (HB.out.ext hx2).lt
  have HGD : Hid (g ≠ w2.heap.size) := by unfold Hid; omega
  have HGl : Hid (g ≤ w2.heap.size) := by unfold Hid; omega
  clear hgd
  clear hx2 HB HX HC1
  go_upto_region 3 with fail
  generalize w2.alloc (.cells #[.int .i64 0, .int .i64 0, .int .i64 0, .int .i64 0, .int .i64 0, .int .i64 0, .slice none 0 0, .slice none 0 0] 36) = W2 at *
  generalize w2.heap.size = d at *
  go_wp2_with fail
  go_loopw [7] (fun iv wr => ∃ k : Int, 1 ≤ k ∧ k ≤ 14 ∧ iv = .int .i64 k ∧ Blk wr d 36 [.int .i64 (kTo X.data.toList k), .int .i64 0, .int .i64 0, .int .i64 0, .int .i64 0, .int .i64 0, .slice none 0 0, .slice none 0 0] ∧ Blk wr g 36 evZ ∧ Ext w wr) (fun i _ => (14 - intOf i).toNat)
  case atStart => exact ⟨1, by decide, by decide, rfl, by rw [HKs.out]; exact HD2.out, HB2.out, HX2.out⟩
  case round =>
    obtain ⟨k, hk1, hk2, rfl, hb6, hb2, hxr⟩ := hrel
    have HB6 := hid hb6
    have HBr := hid hb2
    have HXr := hid hxr
    clear hb6 hb2 hxr HD2 HB2 HX2
    by_cases hlt : k ≤ 13
    · have HNm := hid (fun W => name_any k W)
      by_cases hq : (kwB k).data.toList = X.data.toList
      · have HKk := hid (HKy.out k hk1 hlt hq)
        have hq' := str_beq hq
        clear hq
        generalize kwB k = Kk at *
        go_wp2_with (go_at_call 65; (with_reducible refine (HNm.out _).mono ?_); rintro _ w3 ⟨rfl, hx3⟩; have HB3 := hid (HB6.out.ext hx3); have x0 := HB3.out.cell_some (i := 0) rfl; have f0 := HB3.out.frozen 0; have HBq := hid (HBr.out.ext hx3); have HXq := hid (HXr.out.trans hx3))
        go_roundw
        case rel =>
          refine ⟨k + 1, by omega, by omega, by go_num, ?_, HBq.out.far (by show g ≠ d; exact HGD.out) _, HXq.out.setCell (by have := HG.out; have := HGl.out; show w.heap.size ≤ d; omega) _⟩
          rw [HKk.out]
          exact HB3.out.set 0 _
        case measure => simp [intOf]; omega
      · have HKk := hid (HKn.out k hk1 hlt hq)
        have hq' := str_nbeq hq
        clear hq
        generalize kwB k = Kk at *
        go_wp2_with (go_at_call 65; (with_reducible refine (HNm.out _).mono ?_); rintro _ w3 ⟨rfl, hx3⟩; have HB3 := hid (HB6.out.ext hx3); have HBq := hid (HBr.out.ext hx3); have HXq := hid (HXr.out.trans hx3))
        go_roundw
        case rel => exact ⟨k + 1, by omega, by omega, by go_num, by rw [HKk.out]; exact HB3.out, HBq.out, HXq.out⟩
        case measure => simp [intOf]; omega
    · obtain rfl : k = 14 := by omega
      have HB7 : Hid (Blk wr d 36 [.int .i64 kd, .int .i64 0, .int .i64 0, .int .i64 0, .int .i64 0, .int .i64 0, .slice none 0 0, .slice none 0 0]) := by rw [← HKf.out]; exact HB6.out
      clear HB6 HKy HKn HKs HKf hk1 hk2 hlt

      generalize wr = W2 at *
      have HDl : Hid (d + 1 ≤ W2.heap.size) := HB7.out.lt
      have HE0 := hid (own_empty W2 (d + 1) 2 1 HDl.out)
      have HB8 := hid (HB7.out.ext ((Ext.refl W2).alloc (.cells #[] 2)))
      have HBs := hid (HBr.out.ext ((Ext.refl W2).alloc (.cells #[] 2)))
      have HXs := hid (HXr.out.alloc (.cells #[] 2))
      clear HB7 HBr HXr
      go_wp2_with fail
      go_loopw [4, 5, 8] (fun wv rv lv wr => ∃ (wd T : ByteArray) (ns : List Int), wv = .string wd ∧ rv = .string T ∧ wr.ownsRow (d + 1) 2 1 lv ns.length (i64s ns) ∧ NumSt (s.size + 1) Y.data.toList ns T.data.toList ∧ ns.length + T.size ≤ s.size ∧ Blk wr d 36 [.int .i64 kd, .int .i64 0, .int .i64 0, .int .i64 0, .int .i64 0, .int .i64 0, .slice none 0 0, .slice none 0 0] ∧ Blk wr g 36 evZ ∧ Ext w wr) (fun _ rv _ _ => strMs rv)
      case atStart => exact ⟨X, Y, [], rfl, rfl, HE0.out, HSt.out, by simp; exact HZ.out, HB8.out, HBs.out, HXs.out⟩
      case round =>
        obtain ⟨wd, T, ns, rfl, rfl, hown, hst, hsz, hb6, hb2, hxr⟩ := hrel
        obtain ⟨A8, c8, hv8⟩ := own_slice hown
        subst hv8
        have HO := hid hown
        have HNS := hid hst
        have HSz := hid hsz
        have HB6 := hid hb6
        have HBr := hid hb2
        have HXr := hid hxr
        have HDq : Hid (d + 1 ≤ wr.heap.size) := hb6.lt
        clear hown hst hsz hb6 hb2 hxr HE0 HB8 HBs HXs HSt HZ
        cases hT : T.data.toList.isEmpty
        · have e0 : (T.toList == []) = false := by
            rw [ByteArray.toList_eq]
            cases h : T.data.toList with
            | nil => rw [h] at hT; cases hT
            | cons x l => rfl
          have HTs : Hid (T.size ≤ s.size) := by have := HSz.out; unfold Hid; omega
          have HCc := hid (fun W => HCk.out T W HTs.out)
          have HNc := hid (fun W => HNk.out (k1 T) W (Nat.le_trans (k_size T).1 HTs.out))
          have HLess : Hid ((k2 T).size < T.size) := by
            have := (cutW_less (c := 32) hT).1
            rw [size_list] at this
            unfold Hid k2
            rw [BA_size]
            exact this
          have HBad : Hid (numP (k1 T) = none → R = none) := fun h => HNo.out (HNS.out.bad hT h)
          have HYes : Hid (∀ n, numP (k1 T) = some n → NumSt (s.size + 1) Y.data.toList (ns ++ [n]) (k2 T).data.toList) := fun n h => HNS.out.step hT h
          have hne := hid hT
          clear hT
          generalize k1 T = T1 at *
          generalize k2 T = T2 at *
          go_upto_region 12 with (first
            | (go_at_call 78; (with_reducible refine (HNc.out _).mono ?_); rintro _ w4 ⟨⟨n, bb, rfl, hn1, hn2⟩, hx4⟩)
            | (go_at_call 76; (with_reducible refine (HCc.out _).mono ?_); rintro _ w3 ⟨rfl, hx3⟩))
          have hx34 := hx3.trans hx4
          have HX5 := hid (HXr.out.trans hx34)
          have HB5 := hid (HB6.out.ext hx34)
          have HZ5 := hid (HBr.out.ext hx34)
          have HO5 := hid (ownN_ext HO.out hx34)
          have HDr : Hid (d + 1 ≤ w4.heap.size) := HB5.out.lt
          clear hx3 hx4 hx34 HXr HB6 HBr HO HCc HNc
          cases bb
          · have HR : Hid (R = none) := HBad.out (by cases h : numP T1 with | none => rfl | some m => rw [h] at hn1; cases hn1)
            clear hn1 hn2
            obtain ⟨x0, x1, x2, x3, x4, x5, x6, x7⟩ := blk8 HB5.out
            obtain ⟨o0, o1, o2, o3, o4, o5, o6, o7⟩ := blk8 HZ5.out
            have f0 := (HZ5.out).frozen 0
            have f1 := (HZ5.out).frozen 1
            have f2 := (HZ5.out).frozen 2
            have f3 := (HZ5.out).frozen 3
            have f4 := (HZ5.out).frozen 4
            have f5 := (HZ5.out).frozen 5
            have f6 := (HZ5.out).frozen 6
            have f7 := (HZ5.out).frozen 7
            go_wp2_with fail
            obtain ⟨q0, q1, q2, q3, q4, q5, q6, q7⟩ := blk8 (blk8s HZ5.out (.int .i64 kd) (.int .i64 0) (.int .i64 0) (.int .i64 0) (.int .i64 0) (.int .i64 0) (.slice none 0 0) (.slice none 0 0))
            exact bodyPost_ret (v := .tuple #[.agg #[.int .i64 kd, .int .i64 0, .int .i64 0, .int .i64 0, .int .i64 0, .int .i64 0, .slice none 0 0, .slice none 0 0], .bool false]) (by simp [results, Tryz.results39, go_sem, q0, q1, q2, q3, q4, q5, q6, q7]) rfl ⟨⟨kd, 0, 0, 0, 0, 0, false, rfl, HR.out⟩, ext8s HX5.out (Nat.le_of_eq HG.out) _ _ _ _ _ _ _ _⟩
          · have HY2 : Hid (NumSt (s.size + 1) Y.data.toList (ns ++ [n]) T2.data.toList) := by
              cases h : numP T1 with
              | none => rw [h] at hn1; cases hn1
              | some m =>
                have := hn2 m h
                subst this
                exact HYes.out _ h
            clear hn1 hn2 HYes HBad
            have HArm : Hid (∀ (v5 : Value) (w5 : World), w5.ownsRow (d + 1) 2 1 v5 (ns.length + 1) (i64s ns ++ [.int .i64 n]) → (w4.alloc (.cells #[.int .i64 n] 2)).grownBy w5 (Value.slice A8 ns.length c8).ownBlock →
                w5.ownsRow (d + 1) 2 1 v5 (ns ++ [n]).length (i64s (ns ++ [n])) ∧ Blk w5 d 36 [.int .i64 kd, .int .i64 0, .int .i64 0, .int .i64 0, .int .i64 0, .int .i64 0, .slice none 0 0, .slice none 0 0] ∧ Blk w5 g 36 evZ ∧ Ext w w5) := fun v5 w5 hown hgr => by
              have hd : ∀ k, (Value.slice A8 ns.length c8).ownBlock = some k → d + 1 ≤ k := fun k hk => own_ge HO5.out hk
              have hx := (Ext.refl w4).alloc (.cells #[.int .i64 n] 2)
              refine ⟨?_, (HB5.out.ext hx).grown hgr (fun e => ?_), (HZ5.out.ext hx).grown hgr (fun e => ?_), Ext.grown (HX5.out.trans hx) hgr fun k hk => ?_⟩
              · rw [List.length_append, i64s_app]
                exact hown
              · have := hd _ e.symm
                omega
              · have := hd _ e.symm
                have := HGl.out
                omega
              · have := hd k hk
                have := HGl.out
                have := HG.out
                omega
            have hL9 : Hid (ns.length ≤ 1000000) := by have := HSz.out; have := HS.out; unfold Hid; omega
            go_wp2_with (at_builtin; refine wpList_append_any _ rfl (.tmp 44) (.tmp 46) 52 rfl (d + 1) 2 ii _ 1 8 Tryz.underlying52 hii hi0 hi1 hi2 rfl (by decide) _ ns.length _ rfl (HO5.out.alloc _) _ _ 1 1 [.int .i64 n] rfl (reads_new1 _ _ _) (by simp [Value.oneCell']) (by have := hL9.out; unfold maxLen; omega) (by have := hL9.out; omega) (by have := HDr.out; simp; omega) ?_; intro v5 w5 hown5 hgr5 hblk5; obtain ⟨ho5, hb5, hg5, hx5⟩ := HArm.out _ _ hown5 hgr5)
            have HOq := hid ho5
            have HBq := hid hb5
            have HGq := hid hg5
            have HXq := hid hx5
            clear ho5 hb5 hg5 hx5 hown5 hgr5 hblk5
            go_roundw
            case rel => exact ⟨T1, T2, ns ++ [n], rfl, rfl, HOq.out, HY2.out, by have := HLess.out; have := HSz.out; rw [List.length_append, List.length_singleton]; omega, HBq.out, HGq.out, HXq.out⟩
            case measure => exact HLess.out
        · have e0 : (T.toList == []) = true := by
            rw [ByteArray.toList_eq, List.isEmpty_iff.1 hT]
            rfl
          have hfn := HNS.out.fin hT
          have HBg : Hid (kd < 11 ∧ 3 ≤ ns.length ∧ 7 < ns.getD 0 0 → R = none) := fun h => HBig.out ns hfn h
          have HFi : Hid (¬ (kd < 11 ∧ 3 ≤ ns.length ∧ 7 < ns.getD 0 0) → R = if (chk (refE kd ns)).ok = true ∧ (refE kd ns).head.data.toList = s.data.toList then some (refE kd ns) else none) := fun h => HFin.out ns hfn h
          have HSm : Hid (refE kd ns).sm := refE_sm HKd.out (HBd.out ns hfn)
          clear hfn hT HNS HBig HFin HBd HNo HCk HNk
          obtain ⟨A9, c9, hv9, hget⟩ := nums_own HO.out
          simp only [Value.slice.injEq, true_and] at hv9
          obtain ⟨rfl, rfl⟩ := hv9
          have HGt := hid hget
          clear hget
          generalize wr = W2 at *
          have HEq : Hid (refE kd ns = ⟨kd, if kd < 11 ∧ 3 ≤ ns.length then ns.getD 0 0 else 0, if kd < 11 ∧ 3 ≤ ns.length then ns.getD 1 0 else 0, if kd < 11 ∧ 3 ≤ ns.length then ns.getD 2 0 else 0, if ns.length = 4 ∧ (kd = 7 ∨ kd = 10) ∧ ns.getD 3 0 < 18 then ns.getD 3 0 else 0, if ns.length = 4 ∧ kd = 5 then ns.getD 3 0 else 0, [], []⟩) := rfl
          generalize refE kd ns = E at *
          obtain ⟨n1, hn1⟩ : ∃ n, ns.getD 1 0 = n := ⟨_, rfl⟩
          have HN1 := hid hn1
          rw [hn1] at HEq
          obtain ⟨n2, hn2⟩ : ∃ n, ns.getD 2 0 = n := ⟨_, rfl⟩
          have HN2 := hid hn2
          rw [hn2] at HEq
          obtain ⟨n3, hn3⟩ : ∃ n, ns.getD 3 0 = n := ⟨_, rfl⟩
          have HN3 := hid hn3
          rw [hn3] at HEq
          clear hn1 hn2 hn3
          obtain ⟨n0, hn0⟩ : ∃ n0, ns.getD 0 0 = n0 := ⟨_, rfl⟩
          have HN0 := hid hn0
          rw [hn0] at HBg HFi HEq
          clear hn0
          have hE7 : E.rows = [] ∧ E.wts = [] := by rw [HEq.out]; exact ⟨rfl, rfl⟩
          have HE7 := hid hE7
          have hEk : E.kd = kd := by rw [HEq.out]
          have hEs : E.ss = if kd < 11 ∧ 3 ≤ ns.length then n0 else 0 := by rw [HEq.out]
          have hEt : E.tx = if kd < 11 ∧ 3 ≤ ns.length then n1 else 0 := by rw [HEq.out]
          have hEu : E.st = if kd < 11 ∧ 3 ≤ ns.length then n2 else 0 := by rw [HEq.out]
          have hEe : E.er = if ns.length = 4 ∧ (kd = 7 ∨ kd = 10) ∧ n3 < 18 then n3 else 0 := by rw [HEq.out]
          have hEc : E.ct = if ns.length = 4 ∧ kd = 5 then n3 else 0 := by rw [HEq.out]
          have HEk := hid hEk
          have HEs := hid hEs
          have HEt := hid hEt
          have HEu := hid hEu
          have HEe := hid hEe
          have HEc := hid hEc
          have HVd := hid (fun W vw h => rchk_valid E hE7.1 hE7.2 vw W h)
          have HLn := hid (fun W (hW : Ext w W) => rlines_any E (.slice none 0 0) (.slice none 0 0) W (by rw [hE7.1]; exact ⟨none, 0, rfl, fun i r h => by simp at h⟩) (by rw [hE7.2]; exact ⟨none, 0, rfl, fun i r h => by simp at h⟩) HSm.out (HT.out.ext hW))
          obtain ⟨q, hq⟩ : ∃ q, (E.lines.toList == (s ++ ⟨#[10]⟩ : ByteArray).toList) = q := ⟨_, rfl⟩
          have HQ := hid (lines_nl hE7.1 hE7.2 hq)
          have HCw2 : Hid (kd = 2 → (chk E).wts = [⟨1, 0, [⟨0, 0, ⟨#[]⟩⟩]⟩]) := fun h => chk_w2 (by rw [hEk]; exact h)
          have HCw0 : Hid (¬ kd = 2 → (chk E).wts = []) := fun h => by
            rw [chk_w (by rw [hEk]; exact h)]
            exact hE7.2
          have HEE : Hid (E = ⟨kd, E.ss, E.tx, E.st, E.er, E.ct, [], []⟩) := by
            obtain ⟨k, a, b, c, d, e, f, g⟩ := E
            obtain rfl := hEk
            obtain ⟨rfl, rfl⟩ := hE7
            rfl
          have HLb : Hid (∀ a b, evV E a b = .agg #[.int .i64 kd, .int .i64 E.ss, .int .i64 E.tx, .int .i64 E.st, .int .i64 E.er, .int .i64 E.ct, a, b]) := fun a b => by unfold evV; rw [hEk]
          rw [hEk] at HVd
          clear hE7 hEk hEs hEt hEu hEe hEc HEq
          rw [HLb.out] at HLn
          generalize E.lines = Ln at *
          generalize E.ss = ss at *
          generalize E.tx = tx at *
          generalize E.st = st at *
          generalize E.er = er at *
          generalize E.ct = ct at *
          generalize (chk E).wts = cw at *
          by_cases hbad : kd < 11 ∧ 3 ≤ ns.length ∧ 7 < n0
          · have HR := hid (HBg.out hbad)
            obtain ⟨b1, b2, b3⟩ := hbad
            obtain ⟨g8, rfl, l0⟩ := HGt.out 0 (by omega)
            have b2' : (3 : Int) ≤ (ns.length : Int) := by omega
            have b4 : (0 : Int) < (ns.length : Int) := by omega
            have hn0 : ns.getD 0 0 = n0 := HN0.out
            rw [hn0] at l0
            generalize ns.length = m at *
            obtain ⟨x0, x1, x2, x3, x4, x5, x6, x7⟩ := blk8 HB6.out
            obtain ⟨o0, o1, o2, o3, o4, o5, o6, o7⟩ := blk8 HBr.out
            have f0 := (HBr.out).frozen 0
            have f1 := (HBr.out).frozen 1
            have f2 := (HBr.out).frozen 2
            have f3 := (HBr.out).frozen 3
            have f4 := (HBr.out).frozen 4
            have f5 := (HBr.out).frozen 5
            have f6 := (HBr.out).frozen 6
            have f7 := (HBr.out).frozen 7
            go_wp2_with fail
            obtain ⟨q0, q1, q2, q3, q4, q5, q6, q7⟩ := blk8 (blk8s HBr.out (.int .i64 kd) (.int .i64 0) (.int .i64 0) (.int .i64 0) (.int .i64 0) (.int .i64 0) (.slice none 0 0) (.slice none 0 0))
            exact bodyPost_ret (v := .tuple #[.agg #[.int .i64 kd, .int .i64 0, .int .i64 0, .int .i64 0, .int .i64 0, .int .i64 0, .slice none 0 0, .slice none 0 0], .bool false]) (by simp [results, Tryz.results39, go_sem, q0, q1, q2, q3, q4, q5, q6, q7]) rfl ⟨⟨kd, 0, 0, 0, 0, 0, false, rfl, HR.out⟩, ext8s HXr.out (Nat.le_of_eq HG.out) _ _ _ _ _ _ _ _⟩
          · have HRf := hid (HFi.out hbad)
            have HNb := hid hbad
            clear hbad HBg HFi
            obtain ⟨m, hm⟩ : ∃ m, ns.length = m := ⟨_, rfl⟩
            have HM := hid hm
            rw [hm] at HO HGt HEs HEt HEu HEe HEc HNb ⊢
            clear hm
            obtain ⟨ca, hca⟩ : ∃ c, decide (kd < 11 ∧ 3 ≤ m) = c := ⟨_, rfl⟩
            obtain ⟨cb, hcb⟩ : ∃ c, decide (m = 4 ∧ kd = 5) = c := ⟨_, rfl⟩
            obtain ⟨cc, hcc⟩ : ∃ c, decide (m = 4 ∧ (kd = 7 ∨ kd = 10) ∧ n3 < 18) = c := ⟨_, rfl⟩
            have HCA : Hid (ca = true ↔ kd < 11 ∧ 3 ≤ m) := by rw [← hca]; exact decide_eq_true_iff
            have HCB : Hid (cb = true ↔ m = 4 ∧ kd = 5) := by rw [← hcb]; exact decide_eq_true_iff
            have HCC : Hid (cc = true ↔ m = 4 ∧ (kd = 7 ∨ kd = 10) ∧ n3 < 18) := by rw [← hcc]; exact decide_eq_true_iff
            clear hca hcb hcc
            have x0 := HB6.out.cell_some (i := 0) rfl
            go_upto_region 15 with fail
            go_cut [55] from 48 to 55 (fun cv wx => cv = .bool ca ∧ wx = W2)
            case first =>
              by_cases h11 : kd < 11
              · by_cases h3 : 3 ≤ m
                · have h3' : (3 : Int) ≤ (m : Int) := by omega
                  obtain rfl : ca = true := HCA.out.2 ⟨h11, h3⟩
                  clear h3
                  go_wp2_with fail
                  go_meet
                  exact ⟨rfl, rfl⟩
                · have h3' : ¬ (3 : Int) ≤ (m : Int) := by omega
                  obtain rfl : ca = false := by cases ca; rfl; exact absurd (HCA.out.1 rfl).2 h3
                  clear h3
                  go_wp2_with fail
                  go_meet
                  exact ⟨rfl, rfl⟩
              · obtain rfl : ca = false := by cases ca; rfl; exact absurd (HCA.out.1 rfl).1 h11
                go_wp2_with fail
                go_meet
                exact ⟨rfl, rfl⟩
            case rest =>
            obtain ⟨rfl, rfl⟩ := hcut
            generalize wc = W2 at *
            obtain ⟨x0, x1, x2, x3, x4, x5, x6, x7⟩ := blk8 HB6.out
            have f1 := HB6.out.frozen 1
            have f2 := HB6.out.frozen 2
            have f3 := HB6.out.frozen 3
            go_upto_if 55 with fail
            go_cut [] from 56 to 72 (fun wx => Blk wx d 36 [.int .i64 kd, .int .i64 ss, .int .i64 tx, .int .i64 st, .int .i64 0, .int .i64 0, .slice none 0 0, .slice none 0 0] ∧ Blk wx g 36 evZ ∧ wx.ownsRow (d + 1) 2 1 (.slice A8 m c8) m (i64s ns) ∧ Ext w wx)
            case first =>
              cases ca
              · have hn : ¬ (kd < 11 ∧ 3 ≤ m) := fun h => by have := HCA.out.2 h; cases this
                obtain rfl : ss = 0 := by rw [HEs.out, if_neg hn]
                obtain rfl : tx = 0 := by rw [HEt.out, if_neg hn]
                obtain rfl : st = 0 := by rw [HEu.out, if_neg hn]
                clear hn
                go_wp2_with fail
                go_meet
                exact ⟨HB6.out, HBr.out, HO.out, HXr.out⟩
              · have hy := HCA.out.1 rfl
                obtain rfl : ss = n0 := by rw [HEs.out, if_pos hy]
                obtain rfl : tx = n1 := by rw [HEt.out, if_pos hy]
                obtain rfl : st = n2 := by rw [HEu.out, if_pos hy]
                obtain ⟨g8, rfl, l0⟩ := HGt.out 0 (by omega)
                obtain ⟨g8', hg8, l1⟩ := HGt.out 1 (by omega)
                obtain rfl : g8 = g8' := by simpa using hg8
                obtain ⟨g8', hg8', l2⟩ := HGt.out 2 (by omega)
                obtain rfl : g8 = g8' := by simpa using hg8'
                have hdg8 : d ≠ g8 := by have h : d + 1 ≤ g8 := own_ge HO.out rfl; omega
                have hdg9 : ¬ g8 = d := fun h => hdg8 h.symm
                have HDG := hid hdg8
                rw [HN0.out] at l0
                rw [HN1.out] at l1
                rw [HN2.out] at l2
                have b0 : (0 : Int) < (m : Int) := by omega
                have b1 : (1 : Int) < (m : Int) := by omega
                have b2 : (2 : Int) < (m : Int) := by omega
                have b7 : ¬ 7 < ss := fun h => HNb.out ⟨hy.1, hy.2, h⟩
                clear hg8 hg8' hy
                go_wp2_with fail
                go_region
                all_goals
                  go_wp2_with fail
                  go_meet
                  exact ⟨((HB6.out.set 1 _).set 2 _).set 3 _, ((HBr.out.far (p := ⟨d, 1, none⟩) HGD.out _).far (p := ⟨d, 2, none⟩) HGD.out _).far (p := ⟨d, 3, none⟩) HGD.out _, own_far (own_far (own_far HO.out (fun h => HDG.out (Option.some.inj h).symm) 1 _) (fun h => HDG.out (Option.some.inj h).symm) 2 _) (fun h => HDG.out (Option.some.inj h).symm) 3 _, (((HXr.out.setCell (p := ⟨d, 1, none⟩) (by have := HG.out; have := HGl.out; show w.heap.size ≤ d; omega) _).setCell (p := ⟨d, 2, none⟩) (by have := HG.out; have := HGl.out; show w.heap.size ≤ d; omega) _).setCell (p := ⟨d, 3, none⟩) (by have := HG.out; have := HGl.out; show w.heap.size ≤ d; omega) _).drew⟩
            case rest =>
            obtain ⟨hb6, hbr, ho, hx⟩ := hcut
            generalize wc = W3 at *
            have HBa := hid hb6
            have HBb := hid hbr
            have HOa := hid ho
            have HXa := hid hx
            clear hb6 hbr ho hx HB6 HBr HO HXr x0 x1 x2 x3 x4 x5 x6 x7 f1 f2 f3
            have hgd : w.heap.size ≤ d := by have := HG.out; have := HGl.out; omega
            have HWd := hid hgd
            clear hgd
            have hgt : ∀ j, j < m → ∃ g8, A8 = some ⟨g8, 0, none⟩ ∧ W3.cell? ⟨g8, j, none⟩ = some (.int .i64 (ns.getD j 0)) ∧ d + 1 ≤ g8 := fun j hj => by
              obtain ⟨A9, c9, hv9, h2⟩ := nums_own (by rw [HM.out]; exact HOa.out)
              rw [HM.out] at hv9 h2
              simp only [Value.slice.injEq, true_and] at hv9
              obtain ⟨rfl, rfl⟩ := hv9
              obtain ⟨g8, rfl, h3⟩ := h2 j hj
              exact ⟨g8, rfl, h3, own_ge HOa.out rfl⟩
            have HGu := hid hgt
            clear hgt HGt
            have x0 := HBa.out.cell_some (i := 0) rfl
            go_upto_region 19 with fail
            go_cut [80] from 73 to 80 (fun cv wx => cv = .bool cb ∧ wx = W3)
            case first =>
              by_cases h4 : m = 4
              · have h4' : ((m : Int) == 4) = true := by rw [beq_iff_eq]; omega
                by_cases h5 : kd = 5
                · obtain rfl : cb = true := HCB.out.2 ⟨h4, h5⟩
                  have h5' : (kd == 5) = true := beq_iff_eq.2 h5
                  clear h4 h5
                  go_wp2_with fail
                  go_meet
                  exact ⟨rfl, rfl⟩
                · obtain rfl : cb = false := by cases cb; rfl; exact absurd (HCB.out.1 rfl).2 h5
                  have h5' : (kd == 5) = false := beq_eq_false_iff_ne.2 h5
                  clear h4 h5
                  go_wp2_with fail
                  go_meet
                  exact ⟨rfl, rfl⟩
              · obtain rfl : cb = false := by cases cb; rfl; exact absurd (HCB.out.1 rfl).1 h4
                have h4' : ((m : Int) == 4) = false := by rw [beq_eq_false_iff_ne]; omega
                clear h4
                go_wp2_with fail
                go_meet
                exact ⟨rfl, rfl⟩
            case rest =>
            obtain ⟨rfl, rfl⟩ := hcut
            generalize wc = W3 at *
            obtain ⟨x0, x1, x2, x3, x4, x5, x6, x7⟩ := blk8 HBa.out
            have f5 := HBa.out.frozen 5
            go_upto_if 80 with fail
            go_cut [] from 81 to 84 (fun wx => Blk wx d 36 [.int .i64 kd, .int .i64 ss, .int .i64 tx, .int .i64 st, .int .i64 0, .int .i64 ct, .slice none 0 0, .slice none 0 0] ∧ Blk wx g 36 evZ ∧ wx.ownsRow (d + 1) 2 1 (.slice A8 m c8) m (i64s ns) ∧ Ext w wx)
            case first =>
              cases cb
              · obtain rfl : ct = 0 := by rw [HEc.out, if_neg fun h => by have := HCB.out.2 h; cases this]
                go_wp2_with fail
                go_meet
                exact ⟨HBa.out, HBb.out, HOa.out, HXa.out⟩
              · have hy := HCB.out.1 rfl
                obtain rfl : ct = n3 := by rw [HEc.out, if_pos hy]
                obtain ⟨g8, rfl, l3, hd8⟩ := HGu.out 3 (by omega)
                rw [HN3.out] at l3
                have HDG := hid hd8
                have b3 : (3 : Int) < (m : Int) := by omega
                clear hd8 hy
                go_wp2_with fail
                go_meet
                exact ⟨HBa.out.set 5 _, HBb.out.far (p := ⟨d, 5, none⟩) HGD.out _, own_far HOa.out (fun h => by have h1 : g8 = d := Option.some.inj h; have := HDG.out; omega) 5 _, HXa.out.setCell (p := ⟨d, 5, none⟩) HWd.out _⟩
            case rest =>
            obtain ⟨hb6, hbr, ho, hx⟩ := hcut
            generalize wc = W4 at *
            have HBc := hid hb6
            have HBd := hid hbr
            have HOc := hid ho
            have HXc := hid hx
            have hgt : ∀ j, j < m → ∃ g8, A8 = some ⟨g8, 0, none⟩ ∧ W4.cell? ⟨g8, j, none⟩ = some (.int .i64 (ns.getD j 0)) ∧ d + 1 ≤ g8 := fun j hj => by
              obtain ⟨A9, c9, hv9, h2⟩ := nums_own (by rw [HM.out]; exact ho)
              rw [HM.out] at hv9 h2
              simp only [Value.slice.injEq, true_and] at hv9
              obtain ⟨rfl, rfl⟩ := hv9
              obtain ⟨g8, rfl, h3⟩ := h2 j hj
              exact ⟨g8, rfl, h3, own_ge ho rfl⟩
            have HGv := hid hgt
            clear hb6 hbr ho hx hgt HBa HBb HOa HXa HGu x0 x1 x2 x3 x4 x5 x6 x7 f5
            have x0 := HBc.out.cell_some (i := 0) rfl
            go_upto_region 21 with fail
            go_cut [103] from 85 to 103 (fun cv wx => cv = .bool cc ∧ wx = W4)
            case first =>
              by_cases h4 : m = 4
              · have h4' : ((m : Int) == 4) = true := by rw [beq_iff_eq]; omega
                obtain ⟨g8, rfl, l3, _⟩ := HGv.out 3 (by omega)
                rw [HN3.out] at l3
                have b3 : (3 : Int) < (m : Int) := by omega
                by_cases h7 : kd = 7
                · have h7' : (kd == 7) = true := beq_iff_eq.2 h7
                  by_cases h18 : n3 < 18
                  · obtain rfl : cc = true := HCC.out.2 ⟨h4, .inl h7, h18⟩
                    clear h4 h7
                    go_wp2_with fail
                    go_meet
                    exact ⟨rfl, rfl⟩
                  · obtain rfl : cc = false := by cases cc; rfl; exact absurd (HCC.out.1 rfl).2.2 h18
                    clear h4 h7
                    go_wp2_with fail
                    go_meet
                    exact ⟨rfl, rfl⟩
                · have h7' : (kd == 7) = false := beq_eq_false_iff_ne.2 h7
                  by_cases h10 : kd = 10
                  · have h10' : (kd == 10) = true := beq_iff_eq.2 h10
                    by_cases h18 : n3 < 18
                    · obtain rfl : cc = true := HCC.out.2 ⟨h4, .inr h10, h18⟩
                      clear h4 h7 h10
                      go_wp2_with fail
                      go_meet
                      exact ⟨rfl, rfl⟩
                    · obtain rfl : cc = false := by cases cc; rfl; exact absurd (HCC.out.1 rfl).2.2 h18
                      clear h4 h7 h10
                      go_wp2_with fail
                      go_meet
                      exact ⟨rfl, rfl⟩
                  · have h10' : (kd == 10) = false := beq_eq_false_iff_ne.2 h10
                    obtain rfl : cc = false := by cases cc; rfl; exact absurd (HCC.out.1 rfl).2.1 (by rintro (h | h); exact h7 h; exact h10 h)
                    clear h4 h7 h10
                    go_wp2_with fail
                    go_meet
                    exact ⟨rfl, rfl⟩
              · obtain rfl : cc = false := by cases cc; rfl; exact absurd (HCC.out.1 rfl).1 h4
                have h4' : ((m : Int) == 4) = false := by rw [beq_eq_false_iff_ne]; omega
                clear h4
                go_wp2_with fail
                go_meet
                exact ⟨rfl, rfl⟩
            case rest =>
            obtain ⟨rfl, rfl⟩ := hcut
            generalize wc = W4 at *
            obtain ⟨x0, x1, x2, x3, x4, x5, x6, x7⟩ := blk8 HBc.out
            have f4 := HBc.out.frozen 4
            go_upto_if 103 with fail
            go_cut [] from 104 to 107 (fun wx => Blk wx d 36 [.int .i64 kd, .int .i64 ss, .int .i64 tx, .int .i64 st, .int .i64 er, .int .i64 ct, .slice none 0 0, .slice none 0 0] ∧ Blk wx g 36 evZ ∧ Ext w wx)
            case first =>
              cases cc
              · obtain rfl : er = 0 := by rw [HEe.out, if_neg fun h => by have := HCC.out.2 h; cases this]
                go_wp2_with fail
                go_meet
                exact ⟨HBc.out, HBd.out, HXc.out⟩
              · have hy := HCC.out.1 rfl
                obtain rfl : er = n3 := by rw [HEe.out, if_pos hy]
                obtain ⟨g8, rfl, l3, hd8⟩ := HGv.out 3 (by omega)
                rw [HN3.out] at l3
                have b3 : (3 : Int) < (m : Int) := by omega
                clear hd8 hy
                go_wp2_with fail
                go_meet
                exact ⟨HBc.out.set 4 _, HBd.out.far (p := ⟨d, 4, none⟩) HGD.out _, HXc.out.setCell (p := ⟨d, 4, none⟩) HWd.out _⟩
            case rest =>
            obtain ⟨hb6, hbr, hx⟩ := hcut
            generalize wc = W7 at *
            have HP7 := hid hb6
            have HB7 := hid hbr
            have HX7 := hid hx
            clear hb6 hbr hx HBc HBd HOc HXc HGv HCA HCB HCC HEs HEt HEu HEe HEc HN0 HN1 HN2 HN3 HNb x0 x1 x2 x3 x4 x5 x6 x7 f4
            obtain ⟨p0, p1, p2, p3, p4, p5, p6, p7⟩ := blk8 HP7.out
            have HC2 := hid (Blk.of_new W7 36 [.int .i64 kd, .int .i64 ss, .int .i64 tx, .int .i64 st, .int .i64 er, .int .i64 ct, .slice none 0 0, .slice none 0 0])
            have hxa := (Ext.refl W7).alloc (.cells #[.int .i64 kd, .int .i64 ss, .int .i64 tx, .int .i64 st, .int .i64 er, .int .i64 ct, .slice none 0 0, .slice none 0 0] 36)
            have HP8 := hid (HP7.out.ext hxa)
            have HB8 := hid (HB7.out.ext hxa)
            have HX8 := hid (HX7.out.trans hxa)
            have HCL : Hid (w.heap.size ≤ W7.heap.size ∧ W7.heap.size ≠ g ∧ W7.heap.size ≠ d) := by
              have h1 := HB7.out.lt
              have h2 := HP7.out.lt
              have h3 := HX7.out.size
              unfold Hid
              omega
            clear hxa
            go_upto_region 24 with fail
            clear p0 p1 p2 p3 p4 p5 p6 p7 HP7 HB7 HX7
            generalize W7.alloc (.cells #[.int .i64 kd, .int .i64 ss, .int .i64 tx, .int .i64 st, .int .i64 er, .int .i64 ct, .slice none 0 0, .slice none 0 0] 36) = W8 at *
            generalize W7.heap.size = dc at *
            have d0 : W8.cell? ⟨dc, 0, none⟩ = some (.int .i64 kd) := HC2.out.cell_some rfl
            have d7 : W8.cell? ⟨dc, 7, none⟩ = some (.slice none 0 0) := HC2.out.cell_some rfl
            have f7 := HC2.out.frozen 7
            go_upto_if 111 with fail
            go_cut [] from 109 to 116 (fun wx => ∃ vw, Blk wx dc 36 [.int .i64 kd, .int .i64 ss, .int .i64 tx, .int .i64 st, .int .i64 er, .int .i64 ct, .slice none 0 0, vw] ∧ WsAt wx vw cw ∧ Blk wx d 36 [.int .i64 kd, .int .i64 ss, .int .i64 tx, .int .i64 st, .int .i64 er, .int .i64 ct, .slice none 0 0, .slice none 0 0] ∧ Blk wx g 36 evZ ∧ Ext w wx)
            case first =>
              by_cases h2 : kd = 2
              · subst h2
                have hcw := HCw2.out rfl
                subst hcw
                have hxr := (Ext.refl W8).alloc (.cells #[.int .i64 0, .int .i64 0, .string ⟨#[]⟩] 88)
                have hr1 := Blk.of_new W8 88 [.int .i64 0, .int .i64 0, .string ⟨#[]⟩]
                have hr2 := Blk.of_new (W8.alloc (.cells #[.int .i64 0, .int .i64 0, .string ⟨#[]⟩] 88)) 62 [.int .i64 1, .int .i64 0, .slice (some ⟨W8.heap.size, 0, none⟩) 1 1]
                have hxw := (Ext.refl (W8.alloc (.cells #[.int .i64 0, .int .i64 0, .string ⟨#[]⟩] 88))).alloc (.cells #[.int .i64 1, .int .i64 0, .slice (some ⟨W8.heap.size, 0, none⟩) 1 1] 62)
                have HC3 := hid (HC2.out.ext (hxr.trans hxw))
                rw [show (W8.alloc (.cells #[.int .i64 0, .int .i64 0, .string ⟨#[]⟩] 88)).heap.size = W8.heap.size + 1 by simp] at hr2
                have HR1 := hid (hr1.ext hxw)
                have HR2 := hid hr2
                have HXX := hid (hxr.trans hxw)
                have hd8 : dc < W8.heap.size := HC2.out.lt
                have HD8 := hid hd8
                have d7' := HC3.out.cell 7
                have f7' := HC3.out.frozen 7
                simp only [List.getElem?_cons_succ, List.getElem?_cons_zero] at d7'
                clear hxr hr1 hr2 hxw hd8
                go_wp2_with fail
                go_meet
                refine ⟨_, HC3.out.set 7 _, chk_ws (HR1.out.far (by have := HD8.out; show W8.heap.size ≠ dc; omega) _) (HR2.out.far (by have := HD8.out; show W8.heap.size + 1 ≠ dc; omega) _), (HP8.out.ext HXX.out).far (fun h => HCL.out.2.2 h.symm) _, (HB8.out.ext HXX.out).far (fun h => HCL.out.2.1 h.symm) _, (HX8.out.trans HXX.out).setCell HCL.out.1 _⟩
              · have hcw := HCw0.out h2
                subst hcw
                have e2 : (kd == 2) = false := beq_eq_false_iff_ne.2 h2
                go_wp2_with fail
                go_meet
                exact ⟨_, HC2.out, ⟨none, 0, rfl, fun i x h => by simp at h⟩, HP8.out, HB8.out, HX8.out⟩
            case rest =>
            obtain ⟨vw, hd, hws, hp, hb, hx⟩ := hcut
            have HD9 := hid hd
            have HW9 := hid hws
            have HP9 := hid hp
            have HB9 := hid hb
            have HX9 := hid hx
            clear hd hws hp hb hx HC2 HP8 HB8 HX8 d0 d7 f7
            generalize wc = W9 at *
            have HV := hid (HVd.out W9 vw HW9.out)
            obtain ⟨d0, d1, d2, d3, d4, d5, d6, d7⟩ := blk8 HD9.out
            obtain ⟨Aw, kw, rfl⟩ : ∃ A c, vw = .slice A cw.length c := by obtain ⟨A, c, h, _⟩ := HW9.out; exact ⟨A, c, h⟩
            generalize (chk E).ok = V at *
            cases V
            · have HR : Hid (R = none) := by unfold Hid; rw [HRf.out, if_neg]; simp
              go_upto_region 27 with (go_at_call 31; (with_reducible refine HV.out.mono ?_); rintro _ w10 ⟨rfl, hx10⟩)
              have HPa := hid (HP9.out.ext hx10)
              have HBa := hid (HB9.out.ext hx10)
              have HXa := hid (HX9.out.trans hx10)
              clear hx10 d0 d1 d2 d3 d4 d5 d6 d7
              obtain ⟨x0, x1, x2, x3, x4, x5, x6, x7⟩ := blk8 HPa.out
              obtain ⟨o0, o1, o2, o3, o4, o5, o6, o7⟩ := blk8 HBa.out
              have f0 := (HBa.out).frozen 0
              have f1 := (HBa.out).frozen 1
              have f2 := (HBa.out).frozen 2
              have f3 := (HBa.out).frozen 3
              have f4 := (HBa.out).frozen 4
              have f5 := (HBa.out).frozen 5
              have f6 := (HBa.out).frozen 6
              have f7 := (HBa.out).frozen 7
              go_wp2_with fail
              obtain ⟨q0, q1, q2, q3, q4, q5, q6, q7⟩ := blk8 (blk8s HBa.out (.int .i64 kd) (.int .i64 ss) (.int .i64 tx) (.int .i64 st) (.int .i64 er) (.int .i64 ct) (.slice none 0 0) (.slice none 0 0))
              exact bodyPost_ret (v := .tuple #[.agg #[.int .i64 kd, .int .i64 ss, .int .i64 tx, .int .i64 st, .int .i64 er, .int .i64 ct, .slice none 0 0, .slice none 0 0], .bool false]) (by simp [results, Tryz.results39, go_sem, q0, q1, q2, q3, q4, q5, q6, q7]) rfl ⟨⟨kd, ss, tx, st, er, ct, false, rfl, HR.out⟩, ext8s HXa.out (Nat.le_of_eq HG.out) _ _ _ _ _ _ _ _⟩
            · have HR : Hid (R = if q = true then some E else none) := by
                unfold Hid
                rw [HRf.out]
                have h := HQ.out
                cases q
                · rw [if_neg (fun h2 => by have := h.2 h2.2; cases this), if_neg (by simp)]
                · rw [if_pos ⟨rfl, h.1 rfl⟩, if_pos rfl]
              go_upto_region 28 with (go_at_call 31; (with_reducible refine HV.out.mono ?_); rintro _ w10 ⟨rfl, hx10⟩)
              have HPa := hid (HP9.out.ext hx10)
              have HBa := hid (HB9.out.ext hx10)
              have HXa := hid (HX9.out.trans hx10)
              have hs1 : s.size ≤ 999980 := HS.out
              clear hx10 d0 d1 d2 d3 d4 d5 d6 d7 HP9 HB9 HX9 HD9 HW9 HV
              obtain ⟨d0, d1, d2, d3, d4, d5, d6, d7⟩ := blk8 HPa.out
              obtain ⟨c0, c1, c2, c3, c4, c5, c6, c7⟩ := blk8 HBa.out
              have f0 := HBa.out.frozen 0
              have f1 := HBa.out.frozen 1
              have f2 := HBa.out.frozen 2
              have f3 := HBa.out.frozen 3
              have f4 := HBa.out.frozen 4
              have f5 := HBa.out.frozen 5
              have f6 := HBa.out.frozen 6
              have f7 := HBa.out.frozen 7
              first | go_region_with (go_at_call 32; (with_reducible refine (HLn.out _ (by first | exact HXa.out.drew | exact HXa.out)).mono ?_); rintro e w11 ⟨rfl, hx11⟩; have hx11' : Ext w10 w11 := (Ext.refl w10).drew.trans hx11; have HB11 := hid (HBa.out.ext hx11'); obtain ⟨v0, v1, v2, v3, v4, v5, v6, v7⟩ := blk8 HB11.out; obtain ⟨l0, l1, l2, l3, l4, l5, l6, l7⟩ := blk8 (HPa.out.ext hx11'); have x0 := HB11.out.frozen 0; have x1 := HB11.out.frozen 1; have x2 := HB11.out.frozen 2; have x3 := HB11.out.frozen 3; have x4 := HB11.out.frozen 4; have x5 := HB11.out.frozen 5; have x6 := HB11.out.frozen 6; have x7 := HB11.out.frozen 7) | fail
              all_goals
                go_wp2_with fail
                obtain ⟨q0, q1, q2, q3, q4, q5, q6, q7⟩ := blk8 (blk8s HB11.out (.int .i64 kd) (.int .i64 ss) (.int .i64 tx) (.int .i64 st) (.int .i64 er) (.int .i64 ct) (.slice none 0 0) (.slice none 0 0))
                exact bodyPost_ret (v := .tuple #[.agg #[.int .i64 kd, .int .i64 ss, .int .i64 tx, .int .i64 st, .int .i64 er, .int .i64 ct, .slice none 0 0, .slice none 0 0], .bool q]) (by simp [results, Tryz.results39, go_sem, q0, q1, q2, q3, q4, q5, q6, q7]) rfl ⟨⟨kd, ss, tx, st, er, ct, q, rfl, by rw [HR.out, HEE.out]⟩, ext8s (HXa.out.trans hx11') (Nat.le_of_eq HG.out) _ _ _ _ _ _ _ _⟩
end Go.Proofs.YtdjdhkbomhendaaGreatDoor
