/-
  Walks over history: the statements' own functions; the examples.
-/
import Derived.Test.YtdjdhkbomhendaaGreatDoorHW46z
import Derived.Test.YtdjdhkbomhendaaGreatDoorHAwkz
import Derived.Test.YtdjdhkbomhendaaGreatDoorHW38z
import Derived.Test.YtdjdhkbomhendaaGreatDoorGr
import Derived.Test.YtdjdhkbomhendaaGreatDoorGk
namespace Go.Proofs.YtdjdhkbomhendaaGreatDoor
open Go.RowKit
set_option linter.unusedVariables false
set_option linter.unusedSimpArgs false
set_option maxHeartbeats 4000000
set_option maxRecDepth 100000

theorem integer_any (n : Int) (w : World) : Calls Tryz.prog 54 #[.int .i64 n] w fun r w' => r = .returned (.agg #[.int .i64 1, .int .i64 n, .string ⟨#[]⟩]) ∧ Ext w w' := by
  go_enter Tryz.func54, Tryz.ntmps54
  have HB := hid (Blk.of_new w 88 [.int .i64 0, .int .i64 0, .string ⟨#[]⟩])
  have HX := hid ((Ext.refl w).alloc (.cells #[.int .i64 0, .int .i64 0, .string ⟨#[]⟩] 88))
  go_upto_region 1 with fail
  generalize w.alloc (.cells #[.int .i64 0, .int .i64 0, .string ⟨#[]⟩] 88) = W1 at *
  have hg : w.heap.size ≤ w.heap.size := Nat.le_refl _
  have HG := hid hg
  obtain ⟨g, hgg⟩ : ∃ g, w.heap.size = g := ⟨_, rfl⟩
  have HGG := hid hgg
  rw [hgg] at HB ⊢
  clear hg hgg
  obtain ⟨c0, c1, c2⟩ := blk3 HB.out
  have f0 := HB.out.frozen 0
  have f1 := HB.out.frozen 1
  have f2 := HB.out.frozen 2
  go_wp2_with fail
  obtain ⟨q0, q1, q2⟩ := blk3 (((HB.out.set 0 (.int .i64 1)).set 1 (.int .i64 n)).set 2 (.string ⟨#[]⟩))
  exact bodyPost_ret (v := .agg #[.int .i64 1, .int .i64 n, .string ⟨#[]⟩]) (by simp [results, Tryz.results54, go_sem, q0, q1, q2]) rfl ⟨rfl, ((HX.out.setCell (p := ⟨g, 0, none⟩) (Nat.le_of_eq HGG.out) _).setCell (p := ⟨g, 1, none⟩) (Nat.le_of_eq HGG.out) _).setCell (p := ⟨g, 2, none⟩) (Nat.le_of_eq HGG.out) _⟩
theorem blk_far8 {w : World} {k g : Nat} {t : TypeId} {cs : List Value} (h : Blk w k t cs) (hk : k ≠ g) (b0 b1 b2 b3 b4 b5 b6 b7 : Value) :
    Blk ((((((((w.setCell ⟨g, 0, none⟩ b0).setCell ⟨g, 1, none⟩ b1).setCell ⟨g, 2, none⟩ b2).setCell ⟨g, 3, none⟩ b3).setCell ⟨g, 4, none⟩ b4).setCell ⟨g, 5, none⟩ b5).setCell ⟨g, 6, none⟩ b6).setCell ⟨g, 7, none⟩ b7) k t cs :=
  (((((((h.far (p := ⟨g, 0, none⟩) hk b0).far (p := ⟨g, 1, none⟩) hk b1).far (p := ⟨g, 2, none⟩) hk b2).far (p := ⟨g, 3, none⟩) hk b3).far (p := ⟨g, 4, none⟩) hk b4).far (p := ⟨g, 5, none⟩) hk b5).far (p := ⟨g, 6, none⟩) hk b6).far (p := ⟨g, 7, none⟩) hk b7
theorem ex_ws {w : World} {a b : Nat} {t1 t2 : TypeId} (h1 : Blk w a t1 [.int .i64 1, .int .i64 3, .string ⟨#[]⟩, .int .i64 2, .int .i64 0, .string ⟨#[97, 110, 110]⟩]) (h2 : Blk w b t2 [.int .i64 9, .int .i64 1, .slice (some ⟨a, 0, none⟩) 2 2]) :
    WsAt w (.slice (some ⟨b, 0, none⟩) 1 1) evW.wts := by
  refine ⟨_, _, rfl, fun i x hx => ?_⟩
  have hi := (List.getElem?_eq_some_iff.1 hx).1
  obtain rfl : i = 0 := by simpa [evW] using hi
  obtain rfl := Option.some.inj hx
  refine ⟨b, 0, _, rfl, h2.cell_some rfl, h2.cell_some rfl, h2.cell_some rfl, _, _, rfl, fun j v hv => ?_⟩
  have hj := (List.getElem?_eq_some_iff.1 hv).1
  have hj2 : j = 0 ∨ j = 1 := by simp [wt0] at hj; omega
  rcases hj2 with rfl | rfl
  · obtain rfl := Option.some.inj hv
    exact ⟨a, 0, rfl, h1.cell_some rfl, h1.cell_some rfl, h1.cell_some rfl⟩
  · obtain rfl := Option.some.inj hv
    exact ⟨a, 0, rfl, h1.cell_some rfl, h1.cell_some rfl, h1.cell_some rfl⟩
theorem wait_any (w : World) : Calls Tryz.prog 25 #[] w fun r w' => (∃ vw, r = .returned (.agg #[.int .i64 2, .int .i64 0, .int .i64 17, .int .i64 2, .int .i64 0, .int .i64 0, .slice none 0 0, vw]) ∧ WsAt w' vw evW.wts) ∧ Ext w w' := by
  go_enter Tryz.func25, Tryz.ntmps25
  have HB := hid (Blk.of_new w 36 evZ)
  have HX := hid ((Ext.refl w).alloc (.cells evZ.toArray 36))
  go_upto_region 1 with fail
  generalize w.alloc (.cells #[.int .i64 0, .int .i64 0, .int .i64 0, .int .i64 0, .int .i64 0, .int .i64 0, .slice none 0 0, .slice none 0 0] 36) = W1 at *
  obtain ⟨g, hgg⟩ : ∃ g, w.heap.size = g := ⟨_, rfl⟩
  have HGG := hid hgg
  rw [hgg] at HB ⊢
  clear hgg
  go_wp2_with (go_at_call 54; (with_reducible refine (integer_any 3 _).mono ?_); rintro _ w2 ⟨rfl, hx2⟩; have hq1 := (Ext.refl w2).alloc (.cells #[.int .i64 1, .int .i64 3, .string ⟨#[]⟩, .int .i64 2, .int .i64 0, .string ⟨#[97, 110, 110]⟩] 88); have hq2 := hq1.alloc (.cells #[.int .i64 9, .int .i64 1, .slice (some ⟨w2.heap.size, 0, none⟩) 2 2] 62); have HBx := hid ((HB.out.ext hx2).ext hq2); have c0 := HBx.out.cell 0; have f0 := HBx.out.frozen 0; have c1 := HBx.out.cell 1; have f1 := HBx.out.frozen 1; have c2 := HBx.out.cell 2; have f2 := HBx.out.frozen 2; have c3 := HBx.out.cell 3; have f3 := HBx.out.frozen 3; have c4 := HBx.out.cell 4; have f4 := HBx.out.frozen 4; have c5 := HBx.out.cell 5; have f5 := HBx.out.frozen 5; have c6 := HBx.out.cell 6; have f6 := HBx.out.frozen 6; have c7 := HBx.out.cell 7; have f7 := HBx.out.frozen 7; have HB2 := hid hx2)
  obtain ⟨q0, q1, q2, q3, q4, q5, q6, q7⟩ := blk8 (blk8s HBx.out (.int .i64 2) (.int .i64 0) (.int .i64 17) (.int .i64 2) (.int .i64 0) (.int .i64 0) (.slice none 0 0) (.slice (some ⟨w2.heap.size + 1, 0, none⟩) 1 1))
  have hgl : g < w2.heap.size := (HB.out.ext HB2.out).lt
  have hv1 := (Blk.of_new w2 88 [.int .i64 1, .int .i64 3, .string ⟨#[]⟩, .int .i64 2, .int .i64 0, .string ⟨#[97, 110, 110]⟩]).ext ((Ext.refl _).alloc (.cells #[.int .i64 9, .int .i64 1, .slice (some ⟨w2.heap.size, 0, none⟩) 2 2] 62))
  have hw1 := Blk.of_new (w2.alloc (.cells #[.int .i64 1, .int .i64 3, .string ⟨#[]⟩, .int .i64 2, .int .i64 0, .string ⟨#[97, 110, 110]⟩] 88)) 62 [.int .i64 9, .int .i64 1, .slice (some ⟨w2.heap.size, 0, none⟩) 2 2]
  rw [show (w2.alloc (.cells #[.int .i64 1, .int .i64 3, .string ⟨#[]⟩, .int .i64 2, .int .i64 0, .string ⟨#[97, 110, 110]⟩] 88)).heap.size = w2.heap.size + 1 by simp] at hw1
  exact bodyPost_ret (v := .agg #[.int .i64 2, .int .i64 0, .int .i64 17, .int .i64 2, .int .i64 0, .int .i64 0, .slice none 0 0, .slice (some ⟨w2.heap.size + 1, 0, none⟩) 1 1]) (by simp [results, Tryz.results25, go_sem, q0, q1, q2, q3, q4, q5, q6, q7]) rfl ⟨⟨_, rfl, ex_ws (blk_far8 hv1 (by omega) _ _ _ _ _ _ _ _) (blk_far8 hw1 (by omega) _ _ _ _ _ _ _ _)⟩, ext8s (HX.out.trans (HB2.out.trans hq2)) (Nat.le_of_eq HGG.out) _ _ _ _ _ _ _ _⟩
theorem prs_sz : (textH exL).size ≤ 100 := by
  have h : (textH exL).data.toList.length ≤ 100 := by rw [ex_text]; decide
  rwa [Array.length_toList] at h
theorem tbs_ex {w : World} {a b : Nat} {t1 t2 : TypeId} {r0 r1 r2 r3 r4 r5 r6 r7 r8 r9 s0 s1 s2 s3 s4 s5 : Value}
    (h1 : Blk w a t1 [.string ⟨#[105, 100]⟩, r0, r1, r2, r3, r4, .string ⟨#[111, 119, 110, 101, 114]⟩, r5, r6, r7, r8, r9])
    (h2 : Blk w b t2 [.string ⟨#[116]⟩, .slice none 0 0, s0, s1, s2, .string ⟨#[97, 99, 99, 111, 117, 110, 116]⟩, .slice (some ⟨a, 0, none⟩) 2 2, s3, s4, s5]) : TbsAt w (some ⟨b, 0, none⟩) exS := by
  intro i t ht
  have hi := (List.getElem?_eq_some_iff.1 ht).1
  have hj2 : i = 0 ∨ i = 1 := by simp [exS] at hi; omega
  rcases hj2 with rfl | rfl
  · obtain rfl := Option.some.inj ht
    exact ⟨b, 0, _, rfl, h2.cell_some rfl, h2.cell_some rfl, none, 0, rfl, fun j n hn => by simp at hn⟩
  · obtain rfl := Option.some.inj ht
    refine ⟨b, 0, _, rfl, h2.cell_some rfl, h2.cell_some rfl, _, 2, rfl, fun j n hn => ?_⟩
    have hj := (List.getElem?_eq_some_iff.1 hn).1
    have hj2 : j = 0 ∨ j = 1 := by simp at hj; omega
    rcases hj2 with rfl | rfl
    · obtain rfl := Option.some.inj hn
      exact ⟨a, 0, rfl, h1.cell_some rfl⟩
    · obtain rfl := Option.some.inj hn
      exact ⟨a, 0, rfl, h1.cell_some rfl⟩
theorem evs_ex {w : World} {a : Nat} {t1 : TypeId} {vw : Value} (h : Blk w a t1 [.int .i64 1, .int .i64 0, .int .i64 17, .int .i64 0, .int .i64 0, .int .i64 0, .slice none 0 0, .slice none 0 0, .int .i64 2, .int .i64 0, .int .i64 17, .int .i64 2, .int .i64 0, .int .i64 0, .slice none 0 0, vw, .int .i64 8, .int .i64 1, .int .i64 2, .int .i64 0, .int .i64 0, .int .i64 0, .slice none 0 0, .slice none 0 0])
    (hw : WsAt w vw evW.wts) : EvsAt w (some ⟨a, 0, none⟩) exL := by
  intro i e he
  have hi := (List.getElem?_eq_some_iff.1 he).1
  have hj2 : i = 0 ∨ i = 1 ∨ i = 2 := by simp [exL] at hi; omega
  have z : ∀ w : World, RsAt w (.slice none 0 0) [] := fun w => ⟨none, 0, rfl, fun i r h => by simp at h⟩
  have z2 : ∀ w : World, WsAt w (.slice none 0 0) [] := fun w => ⟨none, 0, rfl, fun i r h => by simp at h⟩
  rcases hj2 with rfl | rfl | rfl
  · obtain rfl := Option.some.inj he
    exact ⟨a, 0, _, _, rfl, h.cell_some rfl, h.cell_some rfl, h.cell_some rfl, h.cell_some rfl, h.cell_some rfl, h.cell_some rfl, h.cell_some rfl, h.cell_some rfl, z _, z2 _⟩
  · obtain rfl := Option.some.inj he
    exact ⟨a, 0, _, _, rfl, h.cell_some rfl, h.cell_some rfl, h.cell_some rfl, h.cell_some rfl, h.cell_some rfl, h.cell_some rfl, h.cell_some rfl, h.cell_some rfl, z _, hw⟩
  · obtain rfl := Option.some.inj he
    exact ⟨a, 0, _, _, rfl, h.cell_some rfl, h.cell_some rfl, h.cell_some rfl, h.cell_some rfl, h.cell_some rfl, h.cell_some rfl, h.cell_some rfl, h.cell_some rfl, z _, z2 _⟩
theorem ex_fit : ∀ e ∈ exL, Ev.fit e := fun e he => by
  have h := ex_sm e he
  refine ⟨?_, ?_, fun r hr => ?_, fun x hx => ?_⟩
  · have := h.2.1; omega
  · have := h.2.2.1; omega
  · have := (h.2.2.2.1 r hr).1; omega
  · have := (h.2.2.2.2 x hx).2.2.1; omega
theorem strs_one {w : World} {B : Nat} {v : Value} {b : ByteArray} (h : w.ownsRow B 9 1 v [b].length (strs [b])) : ∃ g c, v = .slice (some ⟨g, 0, none⟩) 1 c ∧ w.cell? ⟨g, 0, none⟩ = some (.string b) := own_cell h rfl
theorem nums_one {w : World} {B : Nat} {T : TypeId} {v : Value} {n : Int} (h : w.ownsRow B T 1 v [n].length (i64s [n])) : ∃ g c, v = .slice (some ⟨g, 0, none⟩) 1 c ∧ w.cell? ⟨g, 0, none⟩ = some (.int .i64 n) := own_cell h rfl
theorem awake_any (w : World) (hw : Sh w) (ht : Tab w) (he : Er w) : Calls Tryz.prog 11 #[] w fun r w' => r = .returned (.bool true) ∧ Ext w w' := by
  have HSh := hid hw
  have HT := hid ht
  have HE := hid he
  clear hw ht he
  obtain ⟨S0, hS0⟩ : ∃ S0, textH exL = S0 := ⟨_, rfl⟩
  have HS0 := hid hS0
  have hsz : S0.size ≤ 100 := by rw [← hS0]; exact prs_sz
  have HSz := hid hsz
  have hq1 : (S0.toList == [98, 101, 103, 105, 110, 32, 48, 32, 49, 55, 32, 48, 10, 119, 97, 105, 116, 32, 48, 32, 49, 55, 32, 50, 10, 102, 111, 114, 32, 57, 32, 49, 32, 40, 51, 44, 32, 39, 97, 110, 110, 39, 41, 10, 99, 111, 109, 109, 105, 116, 32, 49, 32, 50, 32, 48, 10]) = true := by
    rw [← hS0, ByteArray.toList_eq, ex_text]
    rfl
  have hfm : fmtH exL = (S0, 0) := by unfold fmtH; rw [if_pos ex_ok, hS0]
  have hps : prsH S0 = (exL, 0, 0) := by rw [← hS0]; exact ex_prs
  have HFm := hid (fun A W n c (h : EvsAt W A exL) (hn : exL.length = n) (h1 : Sh W) (h2 : Tab W) => Format_any A exL n c W h hn (by rw [← hn]; decide) ex_sm h1 h2)
  have HPs := hid (fun W (h1 : Sh W) (h2 : Tab W) (h3 : Er W) => Parse_any S0 W (by omega) h1 h2 h3)
  have HPb := hid (fun W (h1 : Sh W) (h2 : Tab W) (h3 : Er W) => Parse_any ⟨#[119, 97, 105, 116, 32, 48, 32, 49, 55, 32, 50, 10]⟩ W (by decide) h1 h2 h3)
  rw [hfm] at HFm
  rw [hps] at HPs
  rw [show prsH ⟨#[119, 97, 105, 116, 32, 48, 32, 49, 55, 32, 50, 10]⟩ = ([], 2, 2) from ex_bad] at HPb
  clear hS0 hsz hfm hps
  have hA : (exA.toList == [116, 114, 97, 110, 115, 97, 99, 116, 105, 111, 110, 32, 49, 55, 32, 119, 97, 105, 116, 115, 32, 102, 111, 114, 32, 116, 114, 97, 110, 115, 97, 99, 116, 105, 111, 110, 32, 57, 58, 32, 114, 111, 119, 32, 40, 105, 100, 32, 61, 32, 51, 44, 32, 111, 119, 110, 101, 114, 32, 61, 32, 39, 97, 110, 110, 39, 41, 32, 111, 102, 32, 97, 99, 99, 111, 117, 110, 116]) = true := by rw [ByteArray.toList_eq]; rfl
  have hB : (exB.toList == [116, 114, 97, 110, 115, 97, 99, 116, 105, 111, 110, 32, 49, 55, 32, 119, 97, 105, 116, 115, 32, 102, 111, 114, 32, 116, 114, 97, 110, 115, 97, 99, 116, 105, 111, 110, 32, 57, 58, 32, 114, 111, 119, 32, 40, 51, 44, 32, 39, 97, 110, 110, 39, 41, 32, 111, 102, 32, 116, 97, 98, 108, 101, 32, 49]) = true := by rw [ByteArray.toList_eq]; rfl
  have HEx := hid (fun (A0 : Option Addr) (nS cS : Nat) vw W (hS : TbsAt W A0 exS) (hn : exS.length = nS) (hw : WsAt W vw evW.wts) (h1 : Sh W) (h2 : Tab W) => explain_any exS A0 nS cS evW (.slice none 0 0) vw W hS hn ⟨by decide, fun t ht => by
    have hx : t = ⟨⟨#[116]⟩, []⟩ ∨ t = ⟨⟨#[97, 99, 99, 111, 117, 110, 116]⟩, [⟨#[105, 100]⟩, ⟨#[111, 119, 110, 101, 114]⟩]⟩ := by simpa [exS] using ht
    rcases hx with rfl | rfl
    · exact ⟨by decide, fun c hc => by simp at hc⟩
    · refine ⟨by decide, fun c hc => ?_⟩
      have hy : c = ⟨#[105, 100]⟩ ∨ c = ⟨#[111, 119, 110, 101, 114]⟩ := by simpa using hc
      rcases hy with rfl | rfl <;> decide⟩ hw ⟨_, _, _, rfl⟩ (ex_sm evW (by simp [exL])) h1 h2)
  have HEy := hid (fun (A0 : Option Addr) (cS : Nat) vw W (hw : WsAt W vw evW.wts) (h1 : Sh W) (h2 : Tab W) => explain_any [] A0 0 cS evW (.slice none 0 0) vw W (fun i t ht => by simp at ht) rfl ⟨by decide, fun t ht => by simp at ht⟩ hw ⟨_, _, _, rfl⟩ (ex_sm evW (by simp [exL])) h1 h2)
  rw [ex_exp] at HEx
  rw [ex_exp2] at HEy
  replace HEx : Hid (∀ (A0 : Option Addr) (nS cS : Nat) (vw : Value) (W : World), TbsAt W A0 exS → exS.length = nS → WsAt W vw evW.wts → Sh W → Tab W → Calls Tryz.prog 19 #[.slice A0 nS cS, .agg #[.int .i64 2, .int .i64 0, .int .i64 17, .int .i64 2, .int .i64 0, .int .i64 0, .slice none 0 0, vw]] W fun r w' => StrsR W.heap.size [exA] r w' ∧ Ext W w') := HEx
  replace HEy : Hid (∀ (A0 : Option Addr) (cS : Nat) (vw : Value) (W : World), WsAt W vw evW.wts → Sh W → Tab W → Calls Tryz.prog 19 #[.slice A0 0 cS, .agg #[.int .i64 2, .int .i64 0, .int .i64 17, .int .i64 2, .int .i64 0, .int .i64 0, .slice none 0 0, vw]] W fun r w' => StrsR W.heap.size [exB] r w' ∧ Ext W w') := HEy
  have HCm := hid (fun A W n c (h : EvsAt W A exL) (hn : exL.length = n) => Committed_any A exL n c W h hn (by rw [← hn]; decide))
  rw [ex_comm] at HCm
  have HSm := hid (fun A B W n p c c' (h : EvsAt W A exL) (h2 : EvsAt W B exL) (hn : exL.length = n) (hp : exL.length = p) => Same_any exL exL A B n p c c' W hn hp (by rw [← hn]; decide) (by rw [← hp]; decide) h h2 ex_fit ex_fit)
  have HEq := hid (fun A B W n p c c' (h : EvsAt W A exL) (h2 : EvsAt W B exL) (hn : exL.length = n) (hp : exL.length = p) => hequal_any exL exL A B n p c c' W hn hp (by rw [← hn]; decide) (by rw [← hp]; decide) h h2 ex_fit ex_fit)
  rw [ex_eq] at HSm HEq
  generalize exA = XA at *
  generalize exB = XB at *
  go_enter Tryz.func11, Tryz.ntmps11
  go_upto_region 2 with (go_at_call 25; (with_reducible refine (wait_any _).mono ?_); rintro _ w2 ⟨⟨vw, rfl, hws⟩, hx2⟩)
  have hev := evs_ex (Blk.of_new w2 36 [.int .i64 1, .int .i64 0, .int .i64 17, .int .i64 0, .int .i64 0, .int .i64 0, .slice none 0 0, .slice none 0 0, .int .i64 2, .int .i64 0, .int .i64 17, .int .i64 2, .int .i64 0, .int .i64 0, .slice none 0 0, vw, .int .i64 8, .int .i64 1, .int .i64 2, .int .i64 0, .int .i64 0, .int .i64 0, .slice none 0 0, .slice none 0 0]) (hws.ext ((Ext.refl w2).alloc _))
  have HEv := hid hev
  have HX2 := hid (hx2.alloc (.cells #[.int .i64 1, .int .i64 0, .int .i64 17, .int .i64 0, .int .i64 0, .int .i64 0, .slice none 0 0, .slice none 0 0, .int .i64 2, .int .i64 0, .int .i64 17, .int .i64 2, .int .i64 0, .int .i64 0, .slice none 0 0, vw, .int .i64 8, .int .i64 1, .int .i64 2, .int .i64 0, .int .i64 0, .int .i64 0, .slice none 0 0, .slice none 0 0] 36))
  clear hev hws hx2
  generalize w2.alloc _ = W2 at *
  generalize w2.heap.size = a1 at *
  have HP1 := hid (fun W (hW : Ext W2 W) => HPs.out W (HSh.out.ext (HX2.out.trans hW)) (HT.out.ext (HX2.out.trans hW)) (HE.out.ext (HX2.out.trans hW)))
  have HP2 := hid (fun W (hW : Ext W2 W) => HPb.out W (HSh.out.ext (HX2.out.trans hW)) (HT.out.ext (HX2.out.trans hW)) (HE.out.ext (HX2.out.trans hW)))
  have HF := hid (HFm.out (some ⟨a1, 0, none⟩) W2 3 3 HEv.out rfl (HSh.out.ext HX2.out) (HT.out.ext HX2.out))
  go_upto_region 3 with (go_at_call 13; (with_reducible refine HF.out.mono ?_); rintro _ w3 ⟨rfl, hx3⟩)
  go_upto_region 4 with (go_at_call 15; (with_reducible refine (HP1.out _ hx3).mono ?_); rintro _ w4 ⟨⟨A4, c4, rfl, hev4⟩, hx4⟩)
  have HX4 := hid (hx3.trans hx4)
  have HEv4 := hid hev4
  clear hx3 hx4 hev4 HFm HF HPs HPb HP1
  go_upto_region 5 with (go_at_call 15; (with_reducible refine (HP2.out _ HX4.out).mono ?_); rintro _ w5 ⟨⟨A5, c5, rfl, hev5⟩, hx5⟩)
  have HX5 := hid (HX4.out.trans hx5)
  have HEv5 := hid (HEv4.out.ext hx5)
  clear hx5 hev5 HX4 HEv4 HP2
  have hxa := (Ext.refl w5).alloc (.cells #[.string ⟨#[105, 100]⟩, .int .i64 0, .int .i64 0, .int .i64 0, .int .i64 0, .bool false, .string ⟨#[111, 119, 110, 101, 114]⟩, .int .i64 0, .int .i64 0, .int .i64 0, .int .i64 0, .bool false] 44)
  have hxb := (Ext.refl (w5.alloc (.cells #[.string ⟨#[105, 100]⟩, .int .i64 0, .int .i64 0, .int .i64 0, .int .i64 0, .bool false, .string ⟨#[111, 119, 110, 101, 114]⟩, .int .i64 0, .int .i64 0, .int .i64 0, .int .i64 0, .bool false] 44))).alloc (.cells #[.string ⟨#[116]⟩, .slice none 0 0, .slice none 0 0, .slice none 0 0, .slice none 0 0, .string ⟨#[97, 99, 99, 111, 117, 110, 116]⟩, .slice (some ⟨w5.heap.size, 0, none⟩) 2 2, .slice none 0 0, .slice none 0 0, .slice none 0 0] 49)
  have hb1 := (Blk.of_new w5 44 [.string ⟨#[105, 100]⟩, .int .i64 0, .int .i64 0, .int .i64 0, .int .i64 0, .bool false, .string ⟨#[111, 119, 110, 101, 114]⟩, .int .i64 0, .int .i64 0, .int .i64 0, .int .i64 0, .bool false]).ext hxb
  have hb2 := Blk.of_new (w5.alloc (.cells #[.string ⟨#[105, 100]⟩, .int .i64 0, .int .i64 0, .int .i64 0, .int .i64 0, .bool false, .string ⟨#[111, 119, 110, 101, 114]⟩, .int .i64 0, .int .i64 0, .int .i64 0, .int .i64 0, .bool false] 44)) 49 [.string ⟨#[116]⟩, .slice none 0 0, .slice none 0 0, .slice none 0 0, .slice none 0 0, .string ⟨#[97, 99, 99, 111, 117, 110, 116]⟩, .slice (some ⟨w5.heap.size, 0, none⟩) 2 2, .slice none 0 0, .slice none 0 0, .slice none 0 0]
  rw [show (w5.alloc (.cells #[.string ⟨#[105, 100]⟩, .int .i64 0, .int .i64 0, .int .i64 0, .int .i64 0, .bool false, .string ⟨#[111, 119, 110, 101, 114]⟩, .int .i64 0, .int .i64 0, .int .i64 0, .int .i64 0, .bool false] 44)).heap.size = w5.heap.size + 1 by simp] at hb2
  have hexs : exS.length = 2 := rfl
  have HTb := hid (tbs_ex hb1 hb2)
  have HXb := hid (hxa.trans hxb)
  clear hxa hxb hb1 hb2
  go_upto_region 6 with (first
    | (go_at_call 19; (with_reducible refine (HEx.out _ _ _ _ _ (HTb.out.ext hx6) hexs hws6 (HSh.out.ext ((HX2.out.trans HX5.out).trans (HXb.out.trans hx6))) (HT.out.ext ((HX2.out.trans HX5.out).trans (HXb.out.trans hx6)))).mono ?_); rintro _ w7 ⟨⟨v10, rfl, ho10⟩, hx7⟩)
    | (go_at_call 25; (with_reducible refine (wait_any _).mono ?_); rintro _ w6 ⟨⟨vw6, rfl, hws6⟩, hx6⟩))
  obtain ⟨g10, c10, hv10, k10⟩ := strs_one ho10
  subst hv10
  have HX7 := hid (HX5.out.trans ((HXb.out.trans hx6).trans hx7))
  have HEv7 := hid (HEv5.out.ext ((HXb.out.trans hx6).trans hx7))
  have HK10 := hid k10
  clear ho10 hx6 hx7 hws6 k10 HX5 HEv5 HTb HXb
  go_upto_region 7 with (first
    | (go_at_call 19; (with_reducible refine (HEy.out _ _ _ _ hws8 (HSh.out.ext (HX2.out.trans (HX7.out.trans hx8))) (HT.out.ext (HX2.out.trans (HX7.out.trans hx8)))).mono ?_); rintro _ w9 ⟨⟨v11, rfl, ho11⟩, hx9⟩)
    | (go_at_call 25; (with_reducible refine (wait_any _).mono ?_); rintro _ w8 ⟨⟨vw8, rfl, hws8⟩, hx8⟩))
  obtain ⟨g11, c11, hv11, k11⟩ := strs_one ho11
  subst hv11
  have HX9 := hid (HX7.out.trans (hx8.trans hx9))
  have HEv9 := hid (HEv7.out.ext (hx8.trans hx9))
  have HK10b := hid ((hx8.trans hx9).keep HK10.out)
  have HK11 := hid k11
  clear ho11 hx8 hx9 hws8 k11 HX7 HEv7 HK10
  have HC := hid (HCm.out (some ⟨a1, 0, none⟩) w9 3 3 (HEv.out.ext HX9.out) rfl)
  have HSq := hid (fun W (hW : Ext w9 W) => HSm.out A4 (some ⟨a1, 0, none⟩) W 3 3 c4 3 (HEv9.out.ext hW) ((HEv.out.ext HX9.out).ext hW) rfl rfl)
  have HEq2 := hid (fun W (hW : Ext w9 W) => HEq.out A4 (some ⟨a1, 0, none⟩) W 3 3 c4 3 (HEv9.out.ext hW) ((HEv.out.ext HX9.out).ext hW) rfl rfl)
  rw [show exL.length = 3 from rfl]
  go_wp2_with (first
    | (go_at_call 18; (with_reducible refine (HEq2.out _ (hx10.trans hx11)).mono ?_); rintro _ w12 ⟨rfl, hx12⟩)
    | (go_at_call 17; (with_reducible refine (HSq.out _ hx10).mono ?_); rintro _ w11 ⟨rfl, hx11⟩; have k10c := (hx10.trans hx11).keep HK10b.out; have k11c := (hx10.trans hx11).keep HK11.out; have k12c := hx11.keep k12)
    | (go_at_call 21; (with_reducible refine HC.out.mono ?_); rintro _ w10 ⟨⟨v12, rfl, ho12⟩, hx10⟩; obtain ⟨g12, c12, hv12, k12⟩ := nums_one ho12; subst hv12))
  go_ret
  exact ⟨rfl, HX2.out.trans (HX9.out.trans ((hx10.trans hx11).trans hx12))⟩
end Go.Proofs.YtdjdhkbomhendaaGreatDoor
