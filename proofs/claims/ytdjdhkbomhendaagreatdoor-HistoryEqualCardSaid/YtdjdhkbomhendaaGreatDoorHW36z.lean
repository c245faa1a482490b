/-
  Walks over history: header.
-/
import Derived.Test.YtdjdhkbomhendaaGreatDoorGp
import Derived.Test.YtdjdhkbomhendaaGreatDoorHW15z
import Derived.Test.YtdjdhkbomhendaaGreatDoorHW27z
import Derived.Test.YtdjdhkbomhendaaGreatDoorGk
namespace Go.Proofs.YtdjdhkbomhendaaGreatDoor
open Go.RowKit
set_option linter.unusedVariables false
set_option linter.unusedSimpArgs false
set_option maxHeartbeats 1000000
set_option maxRecDepth 100000

/-- the result of header -/
def HdrR (r : Option Ev) (e : Ending) : Prop := ∃ kd ss tx st er ct b, e = .returned (.tuple #[.agg #[.int .i64 kd, .int .i64 ss, .int .i64 tx, .int .i64 st, .int .i64 er, .int .i64 ct, .slice none 0 0, .slice none 0 0], .bool b]) ∧ r = (if b = true then some ⟨kd, ss, tx, st, er, ct, [], []⟩ else none)
theorem HdrR.no {r : Option Ev} (h : r = none) : HdrR r (.returned (.tuple #[.agg #[.int .i64 0, .int .i64 0, .int .i64 0, .int .i64 0, .int .i64 0, .int .i64 0, .slice none 0 0, .slice none 0 0], .bool false])) := ⟨0, 0, 0, 0, 0, 0, false, rfl, by rw [h]; rfl⟩
theorem blk8s {w : World} {g : Nat} {t : TypeId} {a0 a1 a2 a3 a4 a5 a6 a7 : Value} (h : Blk w g t [a0, a1, a2, a3, a4, a5, a6, a7]) (b0 b1 b2 b3 b4 b5 b6 b7 : Value) :
    Blk ((((((((w.setCell ⟨g, 0, none⟩ b0).setCell ⟨g, 1, none⟩ b1).setCell ⟨g, 2, none⟩ b2).setCell ⟨g, 3, none⟩ b3).setCell ⟨g, 4, none⟩ b4).setCell ⟨g, 5, none⟩ b5).setCell ⟨g, 6, none⟩ b6).setCell ⟨g, 7, none⟩ b7) g t [b0, b1, b2, b3, b4, b5, b6, b7] :=
  (((((((h.set 0 b0).set 1 b1).set 2 b2).set 3 b3).set 4 b4).set 5 b5).set 6 b6).set 7 b7
theorem ext8s {w w' : World} {g : Nat} (h : Ext w w') (hg : w.heap.size ≤ g) (b0 b1 b2 b3 b4 b5 b6 b7 : Value) :
    Ext w ((((((((w'.setCell ⟨g, 0, none⟩ b0).setCell ⟨g, 1, none⟩ b1).setCell ⟨g, 2, none⟩ b2).setCell ⟨g, 3, none⟩ b3).setCell ⟨g, 4, none⟩ b4).setCell ⟨g, 5, none⟩ b5).setCell ⟨g, 6, none⟩ b6).setCell ⟨g, 7, none⟩ b7) :=
  (((((((h.setCell hg b0).setCell hg b1).setCell hg b2).setCell hg b3).setCell hg b4).setCell hg b5).setCell hg b6).setCell hg b7
theorem chk_f (e : Ev) : (chk e).kd = e.kd ∧ (chk e).ss = e.ss ∧ (chk e).tx = e.tx ∧ (chk e).st = e.st ∧ (chk e).er = e.er ∧ (chk e).ct = e.ct ∧ (chk e).rows = e.rows := by
  unfold chk
  split <;> exact ⟨rfl, rfl, rfl, rfl, rfl, rfl, rfl⟩
theorem chk_w2 {e : Ev} (h : e.kd = 2) : (chk e).wts = [⟨1, 0, [⟨0, 0, ⟨#[]⟩⟩]⟩] := by
  unfold chk
  rw [if_pos h]
theorem chk_w {e : Ev} (h : ¬ e.kd = 2) : (chk e).wts = e.wts := by
  unfold chk
  rw [if_neg h]
theorem chk_ws {w : World} {a b : Nat} {t1 t2 : TypeId} (h1 : Blk w a t1 [.int .i64 0, .int .i64 0, .string ⟨#[]⟩]) (h2 : Blk w b t2 [.int .i64 1, .int .i64 0, .slice (some ⟨a, 0, none⟩) 1 1]) :
    WsAt w (.slice (some ⟨b, 0, none⟩) 1 1) [⟨1, 0, [⟨0, 0, ⟨#[]⟩⟩]⟩] := by
  refine ⟨_, _, rfl, fun i x hx => ?_⟩
  have hi := (List.getElem?_eq_some_iff.1 hx).1
  obtain rfl : i = 0 := by simpa using hi
  obtain rfl := Option.some.inj hx
  refine ⟨b, 0, _, rfl, h2.cell_some rfl, h2.cell_some rfl, h2.cell_some rfl, _, _, rfl, fun j v hv => ?_⟩
  have hj := (List.getElem?_eq_some_iff.1 hv).1
  obtain rfl : j = 0 := by simpa using hj
  obtain rfl := Option.some.inj hv
  exact ⟨a, 0, rfl, h1.cell_some rfl, h1.cell_some rfl, h1.cell_some rfl⟩
theorem chk_valid (E : Ev) (hr : E.rows = []) (hw : E.wts = []) (vw : Value) (W : World) (h : WsAt W vw (chk E).wts) :
    Calls Tryz.prog 27 #[.agg #[.int .i64 E.kd, .int .i64 E.ss, .int .i64 E.tx, .int .i64 E.st, .int .i64 E.er, .int .i64 E.ct, .slice none 0 0, vw]] W fun r w' => r = .returned (.bool (chk E).ok) ∧ Ext W w' := by
  obtain ⟨e1, e2, e3, e4, e5, e6, e7⟩ := chk_f E
  have hww : (chk E).wts = [] ∨ (chk E).wts = [⟨1, 0, [⟨0, 0, ⟨#[]⟩⟩]⟩] := by
    by_cases h2 : E.kd = 2
    · exact .inr (chk_w2 h2)
    · exact .inl (by rw [chk_w h2, hw])
  have hf : (chk E).fit := ⟨by rw [e7, hr]; simp, by rcases hww with h | h <;> rw [h] <;> simp, fun r h => by rw [e7, hr] at h; simp at h, fun x h => by rcases hww with h' | h' <;> rw [h'] at h <;> simp at h; subst h; simp⟩
  have ht : (chk E).tx4 := ⟨fun r h => by rw [e7, hr] at h; simp at h, fun x h => by
    rcases hww with h' | h' <;> rw [h'] at h <;> simp at h
    subst h
    intro a ha
    obtain rfl := List.mem_singleton.1 ha
    exact Nat.zero_le _⟩
  have := evalid_any (chk E) (.slice none 0 0) vw W (by rw [e7, hr]; exact ⟨none, 0, rfl, fun i r h => by simp at h⟩) h hf ht
  unfold evV at this
  rw [e1, e2, e3, e4, e5, e6] at this
  exact this
abbrev evZ : List Value := [.int .i64 0, .int .i64 0, .int .i64 0, .int .i64 0, .int .i64 0, .int .i64 0, .slice none 0 0, .slice none 0 0]
theorem header_any (s : ByteArray) (w : World) (hs : s.size ≤ 999990) (hw : Sh w) (ht : Tab w) (he : Er w) :
    Calls Tryz.prog 37 #[.string s] w fun e w' => HdrR (hdrP s.data.toList) e ∧ Ext w w' := by
  obtain ⟨wd, r, hwr⟩ := words_cons s.data.toList
  have HHy : Hid (1 ≤ kindOf wd → r.length = numK (kindOf wd) → hdrP s.data.toList = hdrN (kindOf wd) r) := fun h1 h2 => hdr_yes hwr h1 h2
  have HHn : Hid (¬ (1 ≤ kindOf wd ∧ r.length = numK (kindOf wd)) → hdrP s.data.toList = none) := fun h1 => hdr_no hwr h1
  have HSp := hid (fun W (hW : Ext w W) => split_any s W (by omega) (hw.ext hW))
  have HSz : Hid (∀ x ∈ wd :: r, x.length ≤ s.size) := by rw [← hwr]; exact split_size _ _
  rw [hwr] at HSp
  have HT := hid ht
  have HE := hid he
  have hKi := idx_kw (BA wd)
  have HIx := hid (fun b W (hb : WordsAt W b) => windex_any b (BA wd) W hb)
  rw [show (BA wd).data.toList = wd from rfl] at hKi
  have HKi := hid hKi
  have hkd13 : 1 ≤ kindOf wd → kindOf wd ≤ 13 := fun h => (kindOf_some h).2
  have HK13 := hid hkd13
  clear hKi hkd13 hw ht he hwr
  generalize hdrP s.data.toList = R at *
  generalize kindOf wd = kd at *
  generalize Lib.idxOfS kwL (BA wd) = ki at *
  have HB := hid (Blk.of_new w 36 evZ)
  have HX := hid ((Ext.refl w).alloc (.cells evZ.toArray 36))
  go_enter Tryz.func37, Tryz.ntmps37
  go_upto_region 1 with fail
  generalize w.alloc (.cells #[.int .i64 0, .int .i64 0, .int .i64 0, .int .i64 0, .int .i64 0, .int .i64 0, .slice none 0 0, .slice none 0 0] 36) = W1 at *
  obtain ⟨g, hg⟩ : ∃ g, w.heap.size = g := ⟨_, rfl⟩
  have HG := hid hg
  rw [hg] at HB ⊢
  clear hg
  go_upto_region 2 with (go_at_call 74; (with_reducible refine (HSp.out _ HX.out).mono ?_); rintro _ w2 ⟨⟨b, c, rfl, hcap, htx⟩, hx2⟩)
  have HC : Hid (r.length + 1 ≤ c) := hcap
  clear hcap
  have HTx := hid htx
  have HX2 := hid (HX.out.trans hx2)
  have HB2 := hid (HB.out.ext hx2)
  clear htx hx2 HSp HX HB
  have t0 : w2.cell? ⟨b, 0, none⟩ = some (.string (BA wd)) := HTx.out 0 wd rfl
  generalize BA wd = Wd at *
  go_cut [5] from 15 to 19 (fun v wx => v = .int .i64 ki ∧ Ext w2 wx)
  case first =>
    first | go_region_with (first
      | (go_at_call 75; (with_reducible refine (HIx.out _ _ (by first | exact hwa | exact hwa.ext (Ext.refl _).drew)).mono ?_); rintro _ w4 ⟨rfl, rfl⟩)
      | (go_at_call 63; (with_reducible refine (words_any _).mono ?_); rintro _ w3 ⟨bw, rfl, hwa, _, hx3⟩; replace hx3 : Ext w2 w3 := (Ext.refl w2).drew.trans hx3; have t0 : w3.cell? ⟨b, 0, none⟩ = some (.string Wd) := hx3.keep t0)) | fail
    all_goals
      go_wp2_with fail
      go_meet
      exact ⟨rfl, hx3⟩
  case rest =>
    obtain ⟨rfl, hxc⟩ := hcut
    generalize wc = W3 at *
    have HX3 := hid (HX2.out.trans hxc)
    have HB3 := hid (HB2.out.ext hxc)
    have HTx3 := hid (HTx.out.ext hxc)
    clear hxc HX2 HB2 HTx t0 HIx
    by_cases h1 : ki < 1
    · have hR : R = none := by
        have := HKi.out
        exact HHn.out (by omega)
      have HR := hid hR
      clear hR
      obtain ⟨c0, c1, c2, c3, c4, c5, c6, c7⟩ := blk8 HB3.out
      have f0 := HB3.out.frozen 0
      have f1 := HB3.out.frozen 1
      have f2 := HB3.out.frozen 2
      have f3 := HB3.out.frozen 3
      have f4 := HB3.out.frozen 4
      have f5 := HB3.out.frozen 5
      have f6 := HB3.out.frozen 6
      have f7 := HB3.out.frozen 7
      go_wp2_with fail
      obtain ⟨q0, q1, q2, q3, q4, q5, q6, q7⟩ := blk8 (blk8s HB3.out (.int .i64 0) (.int .i64 0) (.int .i64 0) (.int .i64 0) (.int .i64 0) (.int .i64 0) (.slice none 0 0) (.slice none 0 0))
      exact bodyPost_ret (v := .tuple #[.agg #[.int .i64 0, .int .i64 0, .int .i64 0, .int .i64 0, .int .i64 0, .int .i64 0, .slice none 0 0, .slice none 0 0], .bool false]) (by simp [results, Tryz.results37, go_sem, q0, q1, q2, q3, q4, q5, q6, q7]) rfl ⟨HdrR.no HR.out, ext8s HX3.out (Nat.le_of_eq HG.out) _ _ _ _ _ _ _ _⟩
    · have hk : ki = kd := by have := HKi.out; omega
      subst hk
      have h13 : ki ≤ 13 := HK13.out (by omega)
      have HNk := hid (fun W => numbers_nat (k := ki) (by omega) h13 W)
      have hn4 := numK_le ki
      by_cases h2 : r.length = numK ki
      · have HR2 : Hid (R = hdrN ki r) := HHy.out (by omega) h2
        have HL : Hid (r.length = numK ki ∧ r.length ≤ 4) := ⟨h2, by omega⟩
        have b2 : (((r.length + 1 : Nat) : Int) != 1 + ((numK ki : Nat) : Int)) = false := by rw [bne_eq_false_iff_eq]; omega
        clear HHy HHn h2 HKi HK13
        have hmk : ∀ w, (Instr.makeSlice 52 (.int .i64 4) (.int .i64 4)).run Tryz.prog w = .ok (.slice (some ⟨w.heap.size, 0, none⟩) 4 4) (w.alloc (.cells #[.int .i64 0, .int .i64 0, .int .i64 0, .int .i64 0] 2)) := fun _ => by kernel_rfl
        go_upto_region 6 with (go_at_call 55; (with_reducible refine (HNk.out _).mono ?_); rintro _ w4 ⟨rfl, rfl⟩)
        clear hmk b2 HNk
        have HQ : Hid (Blk (w4.alloc (.cells #[.int .i64 0, .int .i64 0, .int .i64 0, .int .i64 0] 2)) w4.heap.size 2 ((pad4 []).map (Value.int .i64))) := Blk.of_new w4 2 [.int .i64 0, .int .i64 0, .int .i64 0, .int .i64 0]
        have hxa := (Ext.refl w4).alloc (.cells #[.int .i64 0, .int .i64 0, .int .i64 0, .int .i64 0] 2)
        have HX4 := hid (HX3.out.trans hxa)
        have HB4 := hid (HB3.out.ext hxa)
        have HTx4 := hid (HTx3.out.ext hxa)
        have HGQ : Hid (w.heap.size ≤ w4.heap.size ∧ g < w4.heap.size) := ⟨HX3.out.size, HB3.out.lt⟩
        have HBQ : Hid (b ≠ w4.heap.size) := by
          unfold Hid
          have h0 := HTx3.out 0 wd rfl
          have h3 : b < w4.heap.size := cell_lt h0
          omega
        clear hxa HX3 HB3 HTx3
        generalize w4.alloc (.cells #[.int .i64 0, .int .i64 0, .int .i64 0, .int .i64 0] 2) = W4 at *
        generalize w4.heap.size = q at *
        have HLn : Hid (r.length ≤ 4) := HL.out.2
        have b3 : ((r.length : Int) + 1 != 1 + ((numK ki : Nat) : Int)) = false := by have := HL.out; rw [bne_eq_false_iff_eq]; omega
        rw [b3]
        clear b3
        go_cut [33, 34, 35] from 32 to 35 (fun sv lv iv wx => ∃ o c', sv = .slice (some ⟨b, o, none⟩) r.length c' ∧ (r.length = 0 ∨ o = 1) ∧ lv = .int .i64 r.length ∧ iv = .int .i64 0 ∧ wx = W4)
        case first =>
          by_cases hc1 : c = 1
          · subst hc1
            go_wp2_with fail
            go_meet
            exact ⟨0, 0, rfl, .inl (by have := HC.out; omega), rfl, rfl, rfl⟩
          · go_wp2_with fail
            go_meet
            exact ⟨1, c - 1, rfl, .inr rfl, rfl, rfl, rfl⟩
        case rest =>
          obtain ⟨o, c', rfl, ho, rfl, rfl, rfl⟩ := hcut
          have HO := hid ho
          clear ho
          go_wp2_with fail
          go_loopw [35] (fun iv wr => ∃ (k : Nat) (ns : List Int), k ≤ r.length ∧ iv = .int .i64 k ∧ allN (r.take k) = some ns ∧ Blk wr q 2 ((pad4 ns).map (Value.int .i64)) ∧ Blk wr g 36 evZ ∧ TxAt wr b (wd :: r) ∧ Ext w wr) (fun i _ => r.length - (intOf i).toNat)
          case atStart => exact ⟨0, [], Nat.zero_le _, rfl, rfl, HQ.out, HB4.out, HTx4.out, HX4.out⟩
          case round =>
            obtain ⟨k, ns, hk, rfl, hns, hq, hbr, htx, hxr⟩ := hrel
            have HNs := hid hns
            have HQr := hid hq
            have HBr := hid hbr
            have HTr := hid htx
            have HXr := hid hxr
            clear hns hq hbr htx hxr HQ HB4 HTx4 HX4
            by_cases hlt : k < r.length
            · obtain ⟨x, hx⟩ : ∃ x, r[k]? = some x := ⟨_, List.getElem?_eq_getElem hlt⟩
              obtain rfl : o = 1 := by have := HO.out; omega
              have t0 : wr.cell? ⟨b, 1 + k, none⟩ = some (.string (BA x)) := by
                rw [Nat.add_comm]
                exact HTr.out (k + 1) x hx
              have HNb := hid (number_any (BA x) wr (by rw [BA_size]; have := HSz.out x (List.mem_cons_of_mem _ (List.mem_of_getElem? hx)); omega) (HT.out.ext HXr.out) (HE.out.ext HXr.out))
              have HNo : Hid (numP (BA x) = none → R = none) := fun h => HR2.out.trans (hdrN_none (allN_none r k x hx h))
              have HYes : Hid (∀ n, numP (BA x) = some n → allN (r.take (k + 1)) = some (ns ++ [n])) := fun n h => allN_take hx HNs.out h
              clear hx
              generalize BA x = X at *
              go_upto_region 10 with (go_at_call 70; (with_reducible refine HNb.out.mono ?_); rintro _ w5 ⟨⟨n, bb, rfl, hn1, hn2⟩, hx5⟩)
              have HX5 := hid (HXr.out.trans hx5)
              have HB5 := hid (HBr.out.ext hx5)
              have HQ5 := hid (HQr.out.ext hx5)
              have HT5 := hid (HTr.out.ext hx5)
              clear hx5 HXr HBr HQr HTr HNb t0
              cases bb
              · have HR : Hid (R = none) := HNo.out (by cases h : numP X with | none => rfl | some m => rw [h] at hn1; cases hn1)
                clear hn1 hn2
                obtain ⟨c0, c1, c2, c3, c4, c5, c6, c7⟩ := blk8 HB5.out
                have f0 := HB5.out.frozen 0
                have f1 := HB5.out.frozen 1
                have f2 := HB5.out.frozen 2
                have f3 := HB5.out.frozen 3
                have f4 := HB5.out.frozen 4
                have f5 := HB5.out.frozen 5
                have f6 := HB5.out.frozen 6
                have f7 := HB5.out.frozen 7
                go_wp2_with fail
                obtain ⟨q0, q1, q2, q3, q4, q5, q6, q7⟩ := blk8 (blk8s HB5.out (.int .i64 0) (.int .i64 0) (.int .i64 0) (.int .i64 0) (.int .i64 0) (.int .i64 0) (.slice none 0 0) (.slice none 0 0))
                exact bodyPost_ret (v := .tuple #[.agg #[.int .i64 0, .int .i64 0, .int .i64 0, .int .i64 0, .int .i64 0, .int .i64 0, .slice none 0 0, .slice none 0 0], .bool false]) (by simp [results, Tryz.results37, go_sem, q0, q1, q2, q3, q4, q5, q6, q7]) rfl ⟨HdrR.no HR.out, ext8s HX5.out (Nat.le_of_eq HG.out) _ _ _ _ _ _ _ _⟩
              · have HY2 : Hid (allN (r.take (k + 1)) = some (ns ++ [n])) := by
                  cases h : numP X with
                  | none => rw [h] at hn1; cases hn1
                  | some m =>
                    have := hn2 m h
                    subst this
                    exact HYes.out _ h
                clear hn1 hn2 HYes HNo
                have hk4 : k < 4 := by have := HLn.out; omega
                have hlen : ns.length = k := by
                  have := allN_len HNs.out
                  rw [List.length_take] at this
                  omega
                obtain ⟨y, hy⟩ : ∃ y, ((pad4 ns).map (Value.int .i64))[k]? = some y := ⟨_, by rw [List.getElem?_map, pad4_get (by omega) k hk4]; rfl⟩
                have z0 := HQ5.out.cell_some hy
                have z1 := HQ5.out.frozen k
                clear hy
                go_wp2_with fail
                go_roundw
                case rel =>
                  refine ⟨k + 1, ns ++ [n], by omega, by go_num, HY2.out, ?_, ?_, ?_, HX5.out.setCell HGQ.out.1 _⟩
                  · have := HQ5.out.set k (.int .i64 n)
                    rw [← List.map_set, ← hlen, pad4_set (by omega), hlen] at this
                    exact this
                  · exact HB5.out.far (by have := HGQ.out.2; show g ≠ q; omega) _
                  · intro j x hj
                    exact (World.cell?_setCell_other (h := fun h => HBQ.out (congrArg Addr.block h).symm) ..).trans (HT5.out j x hj)
                case measure => simp [intOf]; omega
            · obtain rfl : k = r.length := by omega
              rw [List.take_length] at HNs
              have hl4 : ns.length ≤ 4 := by have := allN_len HNs.out; have := HLn.out; omega
              have HR3 : Hid (R = if (chk (mkE ki ns)).ok = true then some (mkE ki ns) else none) := HR2.out.trans (hdrN_some HNs.out)
              have HM : Hid (mkE ki ns = ⟨ki, ns.getD 0 0, ns.getD 1 0, ns.getD 2 0, if ki = 5 then 0 else ns.getD 3 0, if ki = 5 then ns.getD 3 0 else 0, [], []⟩) := rfl
              rw [pad4_eq hl4] at HQr
              clear HNs hl4 HR2 HL HLn HTr
              generalize mkE ki ns = E at *
              generalize ns.getD 0 0 = n0 at *
              generalize ns.getD 1 0 = n1 at *
              generalize ns.getD 2 0 = n2 at *
              generalize ns.getD 3 0 = n3 at *
              have HQ4 : Hid (Blk wr q 2 [.int .i64 n0, .int .i64 n1, .int .i64 n2, .int .i64 n3]) := HQr.out
              clear HQr
              obtain ⟨y0, y1, y2⟩ := blk3 HQ4.out
              have HNP := hid (Blk.of_new wr 36 [.int .i64 ki, .int .i64 n0, .int .i64 n1, .int .i64 n2, .int .i64 0, .int .i64 0, .slice none 0 0, .slice none 0 0])
              have HNX := hid ((Ext.refl wr).alloc (.cells #[.int .i64 ki, .int .i64 n0, .int .i64 n1, .int .i64 n2, .int .i64 0, .int .i64 0, .slice none 0 0, .slice none 0 0] 36))
              go_upto_region 14 with fail
              go_cut [11] from 53 to 63 (fun pv wx => ∃ p, pv = .pointer (some ⟨p, 0, none⟩) ∧ Blk wx p 36 [.int .i64 ki, .int .i64 n0, .int .i64 n1, .int .i64 n2, .int .i64 0, .int .i64 0, .slice none 0 0, .slice none 0 0] ∧ wr.heap.size ≤ p ∧ Ext wr wx)
              case first =>
                go_region_held_law (fun w' => w'.cell? ⟨q, 0, none⟩ = some (.int .i64 n0) ∧ w'.cell? ⟨q, 1, none⟩ = some (.int .i64 n1) ∧ w'.cell? ⟨q, 2, none⟩ = some (.int .i64 n2))
                  (first | go_keep | exact blk3 (HQ4.out.ext ((Ext.refl _).alloc _)) | exact blk3 (HQ4.out.ext (((Ext.refl _).drew).alloc _)))
                  (fail)
                all_goals
                  go_wp2_with fail
                  go_meet
                  exact ⟨_, rfl, HNP.out.drew, Nat.le_refl _, HNX.out.drew⟩
              case rest =>
                obtain ⟨p, rfl, hp, hpl, hxc⟩ := hcut
                have HP := hid hp
                have HX6 := hid (HXr.out.trans hxc)
                have HB6 := hid (HBr.out.ext hxc)
                have HQ6 := hid (HQ4.out.ext hxc)
                have HPL : Hid (w.heap.size ≤ p ∧ p ≠ g ∧ p ≠ q) := by
                  have h1 := HBr.out.lt
                  have h2 := HQ4.out.lt
                  have h3 := HXr.out.size
                  unfold Hid
                  omega
                clear hp hpl hxc HXr HBr HQ4 y0 y1 y2
                generalize wc = W6 at *
                have y3 : W6.cell? ⟨q, 3, none⟩ = some (.int .i64 n3) := HQ6.out.cell_some rfl
                obtain ⟨p0, p1, p2, p3, p4, p5, p6, p7⟩ := blk8 HP.out
                have g4 := HP.out.frozen 4
                have g5 := HP.out.frozen 5
                go_upto_if 65 with fail
                go_cut [] from 64 to 73 (fun wx => Blk wx p 36 [.int .i64 ki, .int .i64 n0, .int .i64 n1, .int .i64 n2, .int .i64 E.er, .int .i64 E.ct, .slice none 0 0, .slice none 0 0] ∧ Blk wx g 36 evZ ∧ Ext w wx)
                case first =>
                  by_cases h5 : ki = 5
                  · subst h5
                    go_wp2_with fail
                    go_meet
                    refine ⟨?_, HB6.out.far HPL.out.2.1.symm _, HX6.out.setCell HPL.out.1 _⟩
                    rw [HM.out]
                    exact HP.out.set 5 _
                  · have e5 : (ki == 5) = false := beq_eq_false_iff_ne.2 h5
                    go_wp2_with fail
                    go_meet
                    refine ⟨?_, HB6.out.far HPL.out.2.1.symm _, HX6.out.setCell HPL.out.1 _⟩
                    rw [HM.out]
                    simp only [if_neg h5]
                    exact HP.out.set 4 _
                case rest =>
                  obtain ⟨hp, hb, hx⟩ := hcut
                  have HP7 := hid hp
                  have HB7 := hid hb
                  have HX7 := hid hx
                  clear hp hb hx p0 p1 p2 p3 p4 p5 p6 p7 g4 g5 y3 HP HB6 HX6 HQ6
                  generalize wc = W7 at *
                  obtain ⟨p0, p1, p2, p3, p4, p5, p6, p7⟩ := blk8 HP7.out
                  have HCV : Hid (∀ W vw, WsAt W vw (chk E).wts → Calls Tryz.prog 27 #[.agg #[.int .i64 ki, .int .i64 n0, .int .i64 n1, .int .i64 n2, .int .i64 E.er, .int .i64 E.ct, .slice none 0 0, vw]] W fun r w' => r = .returned (.bool (chk E).ok) ∧ Ext W w') := by
                    intro W vw h
                    have := chk_valid E (by rw [HM.out]) (by rw [HM.out]) vw W h
                    rwa [show E.kd = ki by rw [HM.out], show E.ss = n0 by rw [HM.out], show E.tx = n1 by rw [HM.out], show E.st = n2 by rw [HM.out]] at this
                  have HW2 : Hid (ki = 2 → (chk E).wts = [⟨1, 0, [⟨0, 0, ⟨#[]⟩⟩]⟩]) := fun h => chk_w2 (by rw [HM.out]; exact h)
                  have HW0 : Hid (¬ ki = 2 → (chk E).wts = []) := fun h => by
                    rw [chk_w (by rw [HM.out]; exact h), HM.out]
                  have HEE : Hid (E = ⟨ki, n0, n1, n2, E.er, E.ct, [], []⟩) := by
                    obtain ⟨k, a, b, c, d, e, f, g⟩ := E
                    have h := HM.out
                    injection h with h1 h2 h3 h4 h5 h6 h7 h8
                    unfold Hid
                    rw [h1, h2, h3, h4, h7, h8]
                  clear HM HNP HNX
                  generalize E.er = er at *
                  generalize E.ct = ct at *
                  generalize (chk E).wts = cw at *
                  generalize (chk E).ok = V at *
                  have HC2 := hid (Blk.of_new W7 36 [.int .i64 ki, .int .i64 n0, .int .i64 n1, .int .i64 n2, .int .i64 er, .int .i64 ct, .slice none 0 0, .slice none 0 0])
                  have hxa := (Ext.refl W7).alloc (.cells #[.int .i64 ki, .int .i64 n0, .int .i64 n1, .int .i64 n2, .int .i64 er, .int .i64 ct, .slice none 0 0, .slice none 0 0] 36)
                  have HP8 := hid (HP7.out.ext hxa)
                  have HB8 := hid (HB7.out.ext hxa)
                  have HX8 := hid (HX7.out.trans hxa)
                  have HCL : Hid (w.heap.size ≤ W7.heap.size ∧ W7.heap.size ≠ g ∧ W7.heap.size ≠ p) := by
                    have h1 := HB7.out.lt
                    have h2 := HP7.out.lt
                    have h3 := HX7.out.size
                    unfold Hid
                    omega
                  clear hxa
                  go_upto_region 19 with fail
                  clear p0 p1 p2 p3 p4 p5 p6 p7 HP7 HB7 HX7
                  generalize W7.alloc (.cells #[.int .i64 ki, .int .i64 n0, .int .i64 n1, .int .i64 n2, .int .i64 er, .int .i64 ct, .slice none 0 0, .slice none 0 0] 36) = W8 at *
                  generalize W7.heap.size = d at *
                  have d7 : W8.cell? ⟨d, 7, none⟩ = some (.slice none 0 0) := HC2.out.cell_some rfl
                  have f7 := HC2.out.frozen 7
                  go_upto_if 76 with fail
                  go_cut [] from 75 to 81 (fun wx => ∃ vw, Blk wx d 36 [.int .i64 ki, .int .i64 n0, .int .i64 n1, .int .i64 n2, .int .i64 er, .int .i64 ct, .slice none 0 0, vw] ∧ WsAt wx vw cw ∧ Blk wx p 36 [.int .i64 ki, .int .i64 n0, .int .i64 n1, .int .i64 n2, .int .i64 er, .int .i64 ct, .slice none 0 0, .slice none 0 0] ∧ Blk wx g 36 evZ ∧ Ext w wx)
                  case first =>
                    by_cases h2 : ki = 2
                    · subst h2
                      have hcw := HW2.out rfl
                      subst hcw
                      have hxr := (Ext.refl W8).alloc (.cells #[.int .i64 0, .int .i64 0, .string ⟨#[]⟩] 88)
                      have hr1 := Blk.of_new W8 88 [.int .i64 0, .int .i64 0, .string ⟨#[]⟩]
                      have hr2 := Blk.of_new (W8.alloc (.cells #[.int .i64 0, .int .i64 0, .string ⟨#[]⟩] 88)) 62 [.int .i64 1, .int .i64 0, .slice (some ⟨W8.heap.size, 0, none⟩) 1 1]
                      have hxw := (Ext.refl (W8.alloc (.cells #[.int .i64 0, .int .i64 0, .string ⟨#[]⟩] 88))).alloc (.cells #[.int .i64 1, .int .i64 0, .slice (some ⟨W8.heap.size, 0, none⟩) 1 1] 62)
                      have HC3 := hid (HC2.out.ext (hxr.trans hxw))
                      rw [show (W8.alloc (.cells #[.int .i64 0, .int .i64 0, .string ⟨#[]⟩] 88)).heap.size = W8.heap.size + 1 by simp] at hr2
                      have HR1 := hid (hr1.ext hxw)
                      have HR2 := hid hr2
                      have HXX := hid (hxr.trans hxw)
                      have hd8 : d < W8.heap.size := HC2.out.lt
                      have HD8 := hid hd8
                      have d7' := HC3.out.cell 7
                      have f7' := HC3.out.frozen 7
                      simp only [List.getElem?_cons_succ, List.getElem?_cons_zero] at d7'
                      clear hxr hr1 hr2 hxw hd8
                      go_wp2_with fail
                      go_meet
                      refine ⟨_, HC3.out.set 7 _, chk_ws (HR1.out.far (by have := HD8.out; show W8.heap.size ≠ d; omega) _) (HR2.out.far (by have := HD8.out; show W8.heap.size + 1 ≠ d; omega) _), (HP8.out.ext HXX.out).far (fun h => HCL.out.2.2 h.symm) _, (HB8.out.ext HXX.out).far (fun h => HCL.out.2.1 h.symm) _, (HX8.out.trans HXX.out).setCell HCL.out.1 _⟩
                    · have hcw := HW0.out h2
                      subst hcw
                      have e2 : (ki == 2) = false := beq_eq_false_iff_ne.2 h2
                      go_wp2_with fail
                      go_meet
                      exact ⟨_, HC2.out, ⟨none, 0, rfl, fun i x h => by simp at h⟩, HP8.out, HB8.out, HX8.out⟩
                  case rest =>
                    obtain ⟨vw, hd, hws, hp, hb, hx⟩ := hcut
                    have HD9 := hid hd
                    have HW9 := hid hws
                    have HP9 := hid hp
                    have HB9 := hid hb
                    have HX9 := hid hx
                    clear hd hws hp hb hx HC2 HP8 HB8 HX8 d7 f7
                    generalize wc = W9 at *
                    have HV := hid (fun W (hW : Ext W9 W) => HCV.out W vw (HW9.out.ext hW))
                    obtain ⟨d0, d1, d2, d3, d4, d5, d6, d7⟩ := blk8 HD9.out
                    obtain ⟨p0, p1, p2, p3, p4, p5, p6, p7⟩ := blk8 HP9.out
                    obtain ⟨c0, c1, c2, c3, c4, c5, c6, c7⟩ := blk8 HB9.out
                    have f0 := HB9.out.frozen 0
                    have f1 := HB9.out.frozen 1
                    have f2 := HB9.out.frozen 2
                    have f3 := HB9.out.frozen 3
                    have f4 := HB9.out.frozen 4
                    have f5 := HB9.out.frozen 5
                    have f6 := HB9.out.frozen 6
                    have f7 := HB9.out.frozen 7
                    obtain ⟨Aw, kw, rfl⟩ : ∃ A c, vw = .slice A cw.length c := by obtain ⟨A, c, h, _⟩ := HW9.out; exact ⟨A, c, h⟩
                    go_upto_region 21 with fail
                    first | go_region_with (go_at_call 27; (with_reducible refine (HV.out _ (by first | exact (Ext.refl W9).drew | exact Ext.refl W9)).mono ?_); rintro e w10 ⟨rfl, hx10⟩; have hx10' : Ext W9 w10 := (Ext.refl W9).drew.trans hx10; have HB10 := hid (HB9.out.ext hx10'); obtain ⟨v0, v1, v2, v3, v4, v5, v6, v7⟩ := blk8 HB10.out; obtain ⟨l0, l1, l2, l3, l4, l5, l6, l7⟩ := blk8 (HP9.out.ext hx10'); have x0 := HB10.out.frozen 0; have x1 := HB10.out.frozen 1; have x2 := HB10.out.frozen 2; have x3 := HB10.out.frozen 3; have x4 := HB10.out.frozen 4; have x5 := HB10.out.frozen 5; have x6 := HB10.out.frozen 6; have x7 := HB10.out.frozen 7) | fail
                    all_goals
                      go_wp2_with fail
                      obtain ⟨q0, q1, q2, q3, q4, q5, q6, q7⟩ := blk8 (blk8s HB10.out (.int .i64 ki) (.int .i64 n0) (.int .i64 n1) (.int .i64 n2) (.int .i64 er) (.int .i64 ct) (.slice none 0 0) (.slice none 0 0))
                      exact bodyPost_ret (v := .tuple #[.agg #[.int .i64 ki, .int .i64 n0, .int .i64 n1, .int .i64 n2, .int .i64 er, .int .i64 ct, .slice none 0 0, .slice none 0 0], .bool V]) (by simp [results, Tryz.results37, go_sem, q0, q1, q2, q3, q4, q5, q6, q7]) rfl ⟨⟨ki, n0, n1, n2, er, ct, V, rfl, by rw [HR3.out, HEE.out]⟩, ext8s (HX9.out.trans hx10') (Nat.le_of_eq HG.out) _ _ _ _ _ _ _ _⟩
      · have b2 : (((r.length + 1 : Nat) : Int) != 1 + ((numK ki : Nat) : Int)) = true := by rw [bne_iff_ne]; omega
        have HR : Hid (R = none) := by
          unfold Hid
          exact HHn.out fun h => h2 h.2
        clear HHn HHy
        obtain ⟨c0, c1, c2, c3, c4, c5, c6, c7⟩ := blk8 HB3.out
        have f0 := HB3.out.frozen 0
        have f1 := HB3.out.frozen 1
        have f2 := HB3.out.frozen 2
        have f3 := HB3.out.frozen 3
        have f4 := HB3.out.frozen 4
        have f5 := HB3.out.frozen 5
        have f6 := HB3.out.frozen 6
        have f7 := HB3.out.frozen 7
        go_wp2_with (go_at_call 55; (with_reducible refine (HNk.out _).mono ?_); rintro _ w4 ⟨rfl, rfl⟩)
        obtain ⟨q0, q1, q2, q3, q4, q5, q6, q7⟩ := blk8 (blk8s HB3.out (.int .i64 0) (.int .i64 0) (.int .i64 0) (.int .i64 0) (.int .i64 0) (.int .i64 0) (.slice none 0 0) (.slice none 0 0))
        exact bodyPost_ret (v := .tuple #[.agg #[.int .i64 0, .int .i64 0, .int .i64 0, .int .i64 0, .int .i64 0, .int .i64 0, .slice none 0 0, .slice none 0 0], .bool false]) (by simp [results, Tryz.results37, go_sem, q0, q1, q2, q3, q4, q5, q6, q7]) rfl ⟨HdrR.no HR.out, ext8s HX3.out (Nat.le_of_eq HG.out) _ _ _ _ _ _ _ _⟩
end Go.Proofs.YtdjdhkbomhendaaGreatDoor
