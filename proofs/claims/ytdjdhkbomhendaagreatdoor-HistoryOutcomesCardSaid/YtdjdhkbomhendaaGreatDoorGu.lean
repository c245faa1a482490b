/-
  Walks over history: the reference's Parse (plain part). · Walks over history: the reference's Parse.
-/
import Derived.Test.YtdjdhkbomhendaaGreatDoorHW42z
import Derived.Test.YtdjdhkbomhendaaGreatDoorHW38z
namespace Go.Proofs.YtdjdhkbomhendaaGreatDoor
open Go.RowKit
set_option linter.unusedVariables false
set_option linter.unusedSimpArgs false
set_option maxHeartbeats 1000000
set_option maxRecDepth 100000

theorem refStep_more {a : List Ev} {e e2 : Ev} {l : List UInt8} (h : moreP e l = some e2) : stepH (a ++ [e]) l = some (a ++ [e2]) := by
  rw [← refS_stepH]
  unfold refS
  rw [List.getLast?_concat, List.dropLast_concat]
  dsimp only
  rw [h]
theorem refStep_open {a : List Ev} {e : Ev} {l : List UInt8} (h : moreP e l = none) (ho : opn e = true) : stepH (a ++ [e]) l = none := by
  rw [← refS_stepH]
  unfold refS
  rw [List.getLast?_concat]
  dsimp only
  rw [h]
  exact if_pos ho
theorem refStep_hdr {a : List Ev} {e : Ev} {l : List UInt8} (h : moreP e l = none) (ho : opn e = false) : stepH (a ++ [e]) l = hdrS (a ++ [e]) l := by
  rw [← refS_stepH]
  unfold refS hdrS
  rw [List.getLast?_concat]
  dsimp only
  rw [h, refHdr_hdrP, ho]
  rfl
theorem refStep_nil (l : List UInt8) : stepH [] l = hdrS [] l := rfl
theorem hdrS_some {out : List Ev} {l : List UInt8} {e : Ev} (h : hdrP l = some e) : hdrS out l = some (out ++ [e]) := by
  unfold hdrS
  rw [h]
theorem hdrS_none {out : List Ev} {l : List UInt8} (h : hdrP l = none) : hdrS out l = none := by
  unfold hdrS
  rw [h]
/-- the whole last event set anew -/
theorem set8 {α : Type} (l : List α) (f : α → List Value) (hf : ∀ a, (f a).length = 8) (a0 a1 a2 a3 a4 a5 a6 a7 b0 b1 b2 b3 b4 b5 b6 b7 : Value) :
    ((((((((l.flatMap f ++ [a0, a1, a2, a3, a4, a5, a6, a7]).set (l.length * 8 + 0) b0).set (l.length * 8 + 1) b1).set (l.length * 8 + 2) b2).set (l.length * 8 + 3) b3).set (l.length * 8 + 4) b4).set (l.length * 8 + 5) b5).set (l.length * 8 + 6) b6).set (l.length * 8 + 7) b7 = l.flatMap f ++ [b0, b1, b2, b3, b4, b5, b6, b7] := by
  rw [set_last _ _ _ _ _ hf, set_last _ _ _ _ _ hf, set_last _ _ _ _ _ hf, set_last _ _ _ _ _ hf, set_last _ _ _ _ _ hf, set_last _ _ _ _ _ hf, set_last _ _ _ _ _ hf, set_last _ _ _ _ _ hf]
  rfl
theorem own_store8 {α : Type} (ps : List α) (f : α → List Value) (hf : ∀ a, (f a).length = 8) {w : World} {B g n c : Nat} {T : TypeId} {a0 a1 a2 a3 a4 a5 a6 a7 : Value}
    (h : w.ownsRow B T 8 (.slice (some ⟨g, 0, none⟩) n c) n (ps.flatMap f ++ [a0, a1, a2, a3, a4, a5, a6, a7])) (b0 b1 b2 b3 b4 b5 b6 b7 : Value) :
    ((((((((w.setCell ⟨g, ps.length * 8, none⟩ b0).setCell ⟨g, ps.length * 8 + 1, none⟩ b1).setCell ⟨g, ps.length * 8 + 2, none⟩ b2).setCell ⟨g, ps.length * 8 + 3, none⟩ b3).setCell ⟨g, ps.length * 8 + 4, none⟩ b4).setCell ⟨g, ps.length * 8 + 5, none⟩ b5).setCell ⟨g, ps.length * 8 + 6, none⟩ b6).setCell ⟨g, ps.length * 8 + 7, none⟩ b7).ownsRow B T 8 (.slice (some ⟨g, 0, none⟩) n c) n (ps.flatMap f ++ [b0, b1, b2, b3, b4, b5, b6, b7]) := by
  have h1 := ((((((((h.stored (ps.length * 8 + 0) b0).1.stored (ps.length * 8 + 1) b1).1.stored (ps.length * 8 + 2) b2).1.stored (ps.length * 8 + 3) b3).1.stored (ps.length * 8 + 4) b4).1.stored (ps.length * 8 + 5) b5).1.stored (ps.length * 8 + 6) b6).1.stored (ps.length * 8 + 7) b7).1
  rw [set8 ps f hf] at h1
  exact h1
theorem grown8 (w : World) (g m : Nat) (b0 b1 b2 b3 b4 b5 b6 b7 : Value) : w.grownBy ((((((((w.setCell ⟨g, m, none⟩ b0).setCell ⟨g, m + 1, none⟩ b1).setCell ⟨g, m + 2, none⟩ b2).setCell ⟨g, m + 3, none⟩ b3).setCell ⟨g, m + 4, none⟩ b4).setCell ⟨g, m + 5, none⟩ b5).setCell ⟨g, m + 6, none⟩ b6).setCell ⟨g, m + 7, none⟩ b7) (some g) :=
  ((((((((Onl.refl g w).setCell m b0).setCell (m + 1) b1).setCell (m + 2) b2).setCell (m + 3) b3).setCell (m + 4) b4).setCell (m + 5) b5).setCell (m + 6) b6).setCell (m + 7) b7
/-- what more made, stored as the last event -/
theorem EvsL.more {B : Nat} {w w0 : World} {ps : List (Ev × Value × Value)} {e e2 : Ev} {vr vw vr2 vw2 : Value} {rs : List (List Val × Value)} {qs : List (Wt × Value)} {g n c B2 : Nat}
    (h : EvsL B w (.slice (some ⟨g, 0, none⟩) n c) ps e vr vw rs qs) (hn : n = ps.length + 1) (hx : Ext w w0) (hB2 : w.heap.size ≤ B2)
    (hm : (∃ x rv, e2 = addR e x ∧ vw = vw2 ∧ e.kd = 4 ∧ w0.ownsRow B2 88 3 rv x.length (valcs x) ∧ w0.ownsRow B2 60 1 vr2 (rs.length + 1) (rs.flatMap rwC ++ rwC (x, rv)) ∧ ∀ k, rv.ownBlock = some k → vr2.ownBlock ≠ some k) ∨
       (∃ x rv, e2 = addW e x ∧ vr = vr2 ∧ e.kd = 2 ∧ w0.ownsRow B2 88 3 rv x.row.length (valcs x.row) ∧ w0.ownsRow B2 62 3 vw2 (qs.length + 1) (qs.flatMap wtC ++ wtC (x, rv)) ∧ ∀ k, rv.ownBlock = some k → vw2.ownBlock ≠ some k)) :
    EvsO B ((((((((w0.setCell ⟨g, ps.length * 8, none⟩ (.int .i64 e2.kd)).setCell ⟨g, ps.length * 8 + 1, none⟩ (.int .i64 e2.ss)).setCell ⟨g, ps.length * 8 + 2, none⟩ (.int .i64 e2.tx)).setCell ⟨g, ps.length * 8 + 3, none⟩ (.int .i64 e2.st)).setCell ⟨g, ps.length * 8 + 4, none⟩ (.int .i64 e2.er)).setCell ⟨g, ps.length * 8 + 5, none⟩ (.int .i64 e2.ct)).setCell ⟨g, ps.length * 8 + 6, none⟩ vr2).setCell ⟨g, ps.length * 8 + 7, none⟩ vw2) (.slice (some ⟨g, 0, none⟩) n c) (ps.map Prod.fst ++ [e2]) := by
  have hn' := hn
  subst hn
  have ho := own_store8 ps evC (fun _ => rfl) (ownN_ext h.own hx) (.int .i64 e2.kd) (.int .i64 e2.ss) (.int .i64 e2.tx) (.int .i64 e2.st) (.int .i64 e2.er) (.int .i64 e2.ct) vr2 vw2
  have hg := grown8 w0 g (ps.length * 8) (.int .i64 e2.kd) (.int .i64 e2.ss) (.int .i64 e2.tx) (.int .i64 e2.st) (.int .i64 e2.er) (.int .i64 e2.ct) vr2 vw2
  rcases hm with ⟨x, rv, rfl, rfl, _, h1, h2, h3⟩ | ⟨x, rv, rfl, rfl, _, h1, h2, h3⟩
  · exact .inr ⟨ps, _, _, _, _, _, rfl, h.replR hx h1 hB2 h2 hB2 h3 hn' ho hg⟩
  · exact .inr ⟨ps, _, _, _, _, _, rfl, h.replW hx h1 hB2 h2 hB2 h3 hn' ho hg⟩
theorem more_bd {n : Nat} {a : List Ev} {e e2 : Ev} (h : BdN n (a ++ [e])) (hm : (∃ x, e2 = addR e x) ∨ ∃ x, e2 = addW e x) : BdN (n + 1) (a ++ [e2]) := by
  rcases hm with ⟨x, rfl⟩ | ⟨x, rfl⟩
  · exact h.row x
  · exact h.wait x
end Go.Proofs.YtdjdhkbomhendaaGreatDoor
namespace Go.Proofs.YtdjdhkbomhendaaGreatDoor
open Go.RowKit
set_option linter.unusedVariables false
set_option linter.unusedSimpArgs false
set_option maxHeartbeats 4000000
set_option maxRecDepth 100000

/-- the result of more, its struct written out -/
theorem more_any2 (e : Ev) (vr vw : Value) (rs : List (List Val × Value)) (qs : List (Wt × Value)) (l : ByteArray) (B : Nat) (w : World) (hs : l.size ≤ 999980)
    (hR : w.ownsRow B 60 1 vr rs.length (rs.flatMap rwC)) (hW : w.ownsRow B 62 3 vw qs.length (qs.flatMap wtC))
    (h1 : ∀ p ∈ rs, RowAt w p.2 p.1) (h2 : ∀ p ∈ qs, RowAt w p.2 p.1.row) (hn1 : rs.length ≤ 1000000) (hn2 : qs.length ≤ 1000000) :
    Calls Tryz.prog 38 #[.agg #[.int .i64 e.kd, .int .i64 e.ss, .int .i64 e.tx, .int .i64 e.st, .int .i64 e.er, .int .i64 e.ct, vr, vw], .string l] w fun r w' =>
      (∃ e2 A1 n1 c1 A2 n2 c2 b, r = .returned (.tuple #[.agg #[.int .i64 e2.kd, .int .i64 e2.ss, .int .i64 e2.tx, .int .i64 e2.st, .int .i64 e2.er, .int .i64 e2.ct, .slice A1 n1 c1, .slice A2 n2 c2], .bool b]) ∧
    ((b = false ∧ moreP e l.data.toList = none) ∨ (b = true ∧ moreP e l.data.toList = some e2 ∧
      ((∃ x rv, e2 = addR e x ∧ vw = .slice A2 n2 c2 ∧ e.kd = 4 ∧ w'.ownsRow w.heap.size 88 3 rv x.length (valcs x) ∧
          w'.ownsRow w.heap.size 60 1 (.slice A1 n1 c1) (rs.length + 1) (rs.flatMap rwC ++ rwC (x, rv)) ∧ ∀ k, rv.ownBlock = some k → (Value.slice A1 n1 c1).ownBlock ≠ some k) ∨
       (∃ x rv, e2 = addW e x ∧ vr = .slice A1 n1 c1 ∧ e.kd = 2 ∧ w'.ownsRow w.heap.size 88 3 rv x.row.length (valcs x.row) ∧
          w'.ownsRow w.heap.size 62 3 (.slice A2 n2 c2) (qs.length + 1) (qs.flatMap wtC ++ wtC (x, rv)) ∧ ∀ k, rv.ownBlock = some k → (Value.slice A2 n2 c2).ownBlock ≠ some k))))) ∧ Ext w w' :=
  more_any e vr vw rs qs l B w hs hR hW h1 h2 hn1 hn2
theorem rParse_any (s : ByteArray) (w : World) (hs : s.size ≤ 999980) (ht : Tab w) :
    Calls Tryz.prog 16 #[.string s] w fun e w' => PrsR (prsH s) e w' ∧ Ext w w' := by
  obtain ⟨ie, hie, he0, he1, he2⟩ := info_parts info_evt
  have HT := hid ht
  have HS := hid hs
  clear ht hs
  go_enter Tryz.func16, Tryz.ntmps16
  go_wp2_with fail
  go_loopw [5, 6, 7, 8] (fun ov fv nv iv wr => ∃ (i fr n : Nat) (out : List Ev), iv = .int .i64 i ∧ fv = .int .i64 fr ∧ nv = .int .i64 n ∧ EvsO w.heap.size wr ov out ∧ BdN n out ∧ RTodo s i fr n out ∧ n ≤ i ∧ Ext w wr) (fun _ _ _ iv _ => s.size - (intOf iv).toNat)
  case atStart => exact ⟨0, 0, 0, [], rfl, rfl, rfl, .inl ⟨rfl, own_empty w _ _ _ (Nat.le_refl _)⟩, ⟨Nat.le_refl _, by simp⟩, RTodo.start s, Nat.le_refl _, (Ext.refl w).alloc _⟩
  case round =>
    obtain ⟨i, fr, n, out, rfl, rfl, rfl, ho, hb, htd, hni, hxr⟩ := hrel
    have HO := hid ho
    have HB := hid hb
    have HTd := hid htd
    have HNi := hid hni
    have HXr := hid hxr
    have HI : Hid (fr ≤ i ∧ i ≤ s.size) := ⟨htd.1, htd.2.1⟩
    obtain ⟨A0, c0, hov, hev⟩ := ho.at_
    subst hov
    have HEv := hid hev
    clear ho hb htd hni hxr hev
    generalize wr = W2 at *
    have hi9 : i ≤ 1000000 := by have := HI.out; have := HS.out; omega
    have hn9 : n ≤ 1000000 := by have := HNi.out; omega
    by_cases hlt : i < s.size
    · by_cases hc : s[i] = 10
      · have HSt : Hid (∀ o, stepH out (s.extract fr i).data.toList = some o → RTodo s (i + 1) (i + 1) (n + 1) o) := fun o h => HTd.out.line hlt hc h
        have HBd : Hid (stepH out (s.extract fr i).data.toList = none → prsH s = ([], (n : Int) + 1, 2)) := fun h => HTd.out.bad hlt hc h
        have HL9 : Hid ((s.extract fr i).size ≤ 999980) := by
          have := HS.out
          unfold Hid
          rw [ByteArray.size_extract]
          omega
        have b1 : ((s[i].toNat : Int) != 10) = false := by rw [hc]; rfl
        have hI := HI.out
        have i1 : (fr : Int) ≤ (i : Int) := by omega
        have i2 : (i : Int) ≤ (s.size : Int) := by omega
        have HM9' : Hid (out.length ≤ 1000000) := by have := HB.out.1; have := HNi.out; have := HS.out; unfold Hid; omega
        clear hc HTd HEv hI
        go_upto_region 10 with fail
        clear b1 i1 i2
        generalize s.extract fr i = L at *
        rcases HO.out with ⟨h0, hown⟩ | ⟨ps, e, vr, vw, rs, qs, h0, hE⟩
        · subst h0
          have HH : Hid (stepH [] L.data.toList = hdrS [] L.data.toList) := rfl
          have HM : Hid (([] : List Ev).length = 0) := rfl
          have HM9 : Hid (0 ≤ 1000000) := Nat.zero_le _
          obtain ⟨out, hout⟩ : ∃ out : List Ev, out = [] := ⟨_, rfl⟩
          have HO' : Hid (EvsO w.heap.size W2 (.slice A0 0 c0) out) := by rw [hout]; exact HO.out
          have HBd' : Hid (stepH out L.data.toList = none → prsH s = ([], (n : Int) + 1, 2)) := by rw [hout]; exact HBd.out
          rw [← hout] at HSt HH HM HB
          clear HO hown hout HM9' HBd
          have HBd := HBd'
          clear HBd'
          have HFs := hid (fun W (hW : Ext w W) => first_any L W (by have := HL9.out; omega) (HT.out.ext hW))
          go_upto_region 18 with (go_at_call 39; (with_reducible refine (HFs.out _ HXr.out).mono ?_); rintro _ w7 ⟨⟨kd, ss, tx2, st, er, ct, hb, rfl, hh⟩, hx7⟩)
          have HHh := hid hh
          have hxa := (Ext.refl w7).alloc (.cells #[.int .i64 kd, .int .i64 ss, .int .i64 tx2, .int .i64 st, .int .i64 er, .int .i64 ct, .slice none 0 0, .slice none 0 0] 36)
          have HBq := hid (Blk.of_new w7 36 [.int .i64 kd, .int .i64 ss, .int .i64 tx2, .int .i64 st, .int .i64 er, .int .i64 ct, .slice none 0 0, .slice none 0 0])
          have HX8 := hid (HXr.out.trans (hx7.trans hxa))
          have HO8 := hid (HO'.out.ext (hx7.trans hxa))
          have HNE : Hid (some w7.heap.size ≠ (Value.slice A0 (0) c0).ownBlock) := by
            intro hh
            obtain ⟨ps, _, ho, _⟩ := HO'.out.open
            have h1 := own_lt ho hh.symm
            have h2 := hx7.size
            omega
          clear hh hx7 hxa HFs HO' HXr
          generalize w7.alloc (.cells #[.int .i64 kd, .int .i64 ss, .int .i64 tx2, .int .i64 st, .int .i64 er, .int .i64 ct, .slice none 0 0, .slice none 0 0] 36) = W8 at *
          generalize w7.heap.size = q2 at *
          cases hb
          · have HF := hid (HBd.out (HH.out.trans (hdrS_none (by rw [HHh.out]; rfl))))
            go_wp2_with fail
            go_ret3
            exact ⟨PrsR.bad HF.out, HX8.out⟩
          · have hnew := HH.out.trans (hdrS_some (e := ⟨kd, ss, tx2, st, er, ct, [], []⟩) (by rw [HHh.out]; rfl))
            have HTd2 := hid (HSt.out _ hnew)
            have HBn := hid (HB.out.new (e := ⟨kd, ss, tx2, st, er, ct, [], []⟩) rfl rfl)
            obtain ⟨ps', _, ho, _⟩ := HO8.out.open
            rw [HM.out] at ho
            generalize ps'.flatMap evC = xs at *
            have HOw5 := hid ho
            have HArm : Hid (∀ (W0 : World) (v5 : Value) (w5 : World), Ext W8 W0 → w5.ownsRow w.heap.size 36 8 v5 (0 + 1) (xs ++ [.int .i64 kd, .int .i64 ss, .int .i64 tx2, .int .i64 st, .int .i64 er, .int .i64 ct, .slice none 0 0, .slice none 0 0]) → W0.grownBy w5 (Value.slice A0 (0) c0).ownBlock → (v5.ownBlock = (Value.slice A0 (0) c0).ownBlock ∨ v5.ownBlock = some W0.heap.size) →
                ∃ A5 c5, v5 = .slice A5 (0 + 1) c5 ∧ EvsO w.heap.size w5 (.slice A5 (0 + 1) c5) (out ++ [⟨kd, ss, tx2, st, er, ct, [], []⟩]) ∧ Ext w w5) := fun W0 v5 w5 hx hown hgr hbk => by
              obtain ⟨A5, c5, rfl⟩ := own_slice hown
              refine ⟨A5, c5, rfl, ?_, Ext.grown (HX8.out.trans hx) hgr fun k hk => own_ge ho hk⟩
              exact EvsO.push (HO8.out.ext hx) rfl rfl (by rw [HM.out]; exact ownN_ext ho hx) (by rw [HM.out]; exact hown) hgr hbk
            have HSi : Hid (w.heap.size ≤ W8.heap.size) := HX8.out.size
            obtain ⟨p0, p1, p2, p3, p4, p5, p6, p7⟩ := blk8 HBq.out
            clear hnew ho HO8 HBd HSt HB HHh HH
            go_wp2_with (at_builtin; refine wpList_append_any _ rfl (.tmp 77) (.tmp 79) 22 rfl w.heap.size 36 ie _ 8 96 Tryz.underlying22 hie he0 he1 he2 rfl (by decide) _ (0) _ rfl (HOw5.out.alloc _) _ _ 1 1 [.int .i64 kd, .int .i64 ss, .int .i64 tx2, .int .i64 st, .int .i64 er, .int .i64 ct, .slice none 0 0, .slice none 0 0] rfl (reads_new8 _ [.int .i64 kd, .int .i64 ss, .int .i64 tx2, .int .i64 st, .int .i64 er, .int .i64 ct, .slice none 0 0, .slice none 0 0] _ rfl) (by simp [Value.oneCell']) (by have := HM9.out; unfold maxLen; omega) (by have := HM9.out; omega) (by have := HSi.out; simp; omega) ?_; intro v5 w5 hown5 hgr5 hblk5; obtain ⟨A5, c5, hv5, ho5, hx5⟩ := HArm.out _ _ _ ((Ext.refl W8).alloc _) hown5 hgr5 hblk5; subst hv5)
            have HO6 := hid ho5
            have HX6 := hid hx5
            clear ho5 hx5 hown5 hgr5 hblk5
            go_roundw
            case rel => exact ⟨i + 1, i + 1, n + 1, _, by go_num, by go_num, by go_num, HO6.out, HBn.out, HTd2.out, by have := HNi.out; omega, HX6.out⟩
            case measure => simp [intOf]; omega
        · subst h0
          obtain ⟨m, hm⟩ : ∃ m, (ps.map Prod.fst ++ [e]).length = m := ⟨_, rfl⟩
          have HM := hid hm
          have hml : m = ps.length + 1 := by rw [← hm]; simp
          have HMl := hid hml
          have HM9 : Hid (m ≤ 1000000) := by rw [← hm]; exact HM9'.out
          rw [hm] at HO hE ⊢
          clear hm HM9'
          obtain ⟨g, c, hv, hce, hfz⟩ := hE.last
          simp only [Value.slice.injEq] at hv
          obtain ⟨rfl, hmm, hcc⟩ := hv
          subst c0
          obtain ⟨Ar, cr, hvr⟩ := own_slice hE.ownR
          subst hvr
          obtain ⟨Aw, cw, hvw⟩ := own_slice hE.ownW
          subst hvw
          have k0 : W2.cell? ⟨g, ps.length * 8, none⟩ = some (.int .i64 e.kd) := hce 0 _ rfl
          have k1 : W2.cell? ⟨g, ps.length * 8 + 1, none⟩ = some (.int .i64 e.ss) := hce 1 _ rfl
          have k2 : W2.cell? ⟨g, ps.length * 8 + 2, none⟩ = some (.int .i64 e.tx) := hce 2 _ rfl
          have k3 : W2.cell? ⟨g, ps.length * 8 + 3, none⟩ = some (.int .i64 e.st) := hce 3 _ rfl
          have k4 : W2.cell? ⟨g, ps.length * 8 + 4, none⟩ = some (.int .i64 e.er) := hce 4 _ rfl
          have k5 : W2.cell? ⟨g, ps.length * 8 + 5, none⟩ = some (.int .i64 e.ct) := hce 5 _ rfl
          have k6 : W2.cell? ⟨g, ps.length * 8 + 6, none⟩ = some (.slice Ar rs.length cr) := hce 6 _ rfl
          have k7 : W2.cell? ⟨g, ps.length * 8 + 7, none⟩ = some (.slice Aw qs.length cw) := hce 7 _ rfl
          have hb9 := HB.out.2 e (by simp)
          have hr9 : rs.length ≤ 1000000 := by
            have h := hb9.2
            rw [← hE.eR, List.length_map] at h
            omega
          have hq9 : qs.length ≤ 1000000 := by
            have h := hb9.1
            rw [← hE.eW, List.length_map] at h
            omega
          have HMo := hid (more_any2 e (.slice Ar rs.length cr) (.slice Aw qs.length cw) rs qs L w.heap.size W2 HL9.out hE.ownR hE.ownW (fun p hp => (hE.kR p hp).here) (fun p hp => (hE.kW p hp).here) hr9 hq9)
          have HEL := hid hE
          have HWl : Hid (w.heap.size ≤ W2.heap.size) := HXr.out.size
          have hgw : w.heap.size ≤ g := (hE.own.lt g rfl).1
          have HGw := hid hgw
          have hge : ∀ j, W2.frozen? ⟨g, j, none⟩ = false := hfz
          have HFz := hid hge
          have HCe := hid hce
          obtain ⟨li, hli⟩ : ∃ li : Int, (m : Int) - 1 = li := ⟨_, rfl⟩
          have m2 : (m : Int) - 1 = (ps.length : Int) := by omega
          have m1 : (0 : Int) ≤ (m : Int) - 1 := by omega
          have m3 : (ps.length : Int) < (m : Int) := by omega
          have hps : ps.length ≤ 1000000 := by have := HM9.out; omega
          have m5 : decide ((0 : Int) ≤ (ps.length : Int)) = true := decide_eq_true (by omega)
          clear hml hmm hfz hce hE hb9 hr9 hq9 hgw hge hli
          go_upto_region 13 with (go_at_call 38; (with_reducible refine HMo.out.mono ?_); rintro _ w3 ⟨⟨e2, A1, n1, c1, A2, n2, c2, b, rfl, hm2⟩, hx3⟩)
          have hxa := (Ext.refl w3).alloc (.cells #[.int .i64 e2.kd, .int .i64 e2.ss, .int .i64 e2.tx, .int .i64 e2.st, .int .i64 e2.er, .int .i64 e2.ct, .slice A1 n1 c1, .slice A2 n2 c2] 36)
          have HBq := hid (Blk.of_new w3 36 [.int .i64 e2.kd, .int .i64 e2.ss, .int .i64 e2.tx, .int .i64 e2.st, .int .i64 e2.er, .int .i64 e2.ct, .slice A1 n1 c1, .slice A2 n2 c2])
          have hx4 := hx3.trans hxa
          have HX3 := hid hx3
          have HX4 := hid hx4
          have HXb := hid (HXr.out.trans hx4)
          have HMm := hid hm2
          have HOb := hid (HO.out.ext hx4)
          clear hm2 hx3 hx4 HMo HO HXr k0 k1 k2 k3 k4 k5 k6 k7
          have HXa2 := hid hxa
          clear hxa
          generalize w3.alloc (.cells #[.int .i64 e2.kd, .int .i64 e2.ss, .int .i64 e2.tx, .int .i64 e2.st, .int .i64 e2.er, .int .i64 e2.ct, .slice A1 n1 c1, .slice A2 n2 c2] 36) = W4 at *
          generalize w3.heap.size = q at *
          cases b
          · have HMn : Hid (moreP e L.data.toList = none) := by
              rcases HMm.out with ⟨_, h⟩ | ⟨h, _⟩
              · exact h
              · cases h
            clear HMm
            have k0 : W4.cell? ⟨g, ps.length * 8, none⟩ = some (.int .i64 e.kd) := HX4.out.keep (HCe.out 0 _ rfl)
            have k7 : W4.cell? ⟨g, ps.length * 8 + 7, none⟩ = some (.slice Aw qs.length cw) := HX4.out.keep (HCe.out 7 _ rfl)
            obtain ⟨ob, hob⟩ : ∃ ob, opn e = ob := ⟨_, rfl⟩
            have HOp := hid hob
            have hob2 : (e.kd == 2 && decide (qs.length = 0)) = ob := by
              rw [← hob]
              unfold opn
              rw [← HEL.out.eW, List.length_map]
            clear hob
            go_upto_region 15 with fail
            go_cut [67] from 49 to 67 (fun cv wx => cv = .bool ob ∧ wx = W4)
            case first =>
              generalize e.kd = kd at *
              generalize qs.length = z at *
              by_cases hk : kd = 2
              · have hk2 : (kd == 2) = true := beq_iff_eq.2 hk
                by_cases hz : z = 0
                · have hz2 : ((z : Int) == 0) = true := by rw [beq_iff_eq]; omega
                  obtain rfl : ob = true := by rw [← hob2, hk2, hz]; rfl
                  clear hk hz hob2
                  go_wp2_with fail
                  go_meet
                  exact ⟨rfl, rfl⟩
                · have hz2 : ((z : Int) == 0) = false := by rw [beq_eq_false_iff_ne]; omega
                  obtain rfl : ob = false := by rw [← hob2, hk2]; simp [hz]
                  clear hk hz hob2
                  go_wp2_with fail
                  go_meet
                  exact ⟨rfl, rfl⟩
              · have hk2 : (kd == 2) = false := beq_eq_false_iff_ne.2 hk
                obtain rfl : ob = false := by rw [← hob2, hk2]; rfl
                clear hk hob2
                go_wp2_with fail
                go_meet
                exact ⟨rfl, rfl⟩
            case rest =>
              obtain ⟨rfl, rfl⟩ := hcut
              generalize wc = W4 at *
              clear k0 k7 hob2
              cases ob
              · have HH : Hid (stepH (ps.map Prod.fst ++ [e]) L.data.toList = hdrS (ps.map Prod.fst ++ [e]) L.data.toList) := refStep_hdr HMn.out HOp.out
                clear HEL HCe HFz HMn HOp HX3 HX4 HXa2 HBq
                obtain ⟨out, hout⟩ : ∃ out, ps.map Prod.fst ++ [e] = out := ⟨_, rfl⟩
                rw [hout] at HSt HBd HH HM HB HOb
                clear hout
                have HFs := hid (fun W (hW : Ext w W) => first_any L W (by have := HL9.out; omega) (HT.out.ext hW))
                go_upto_region 18 with (go_at_call 39; (with_reducible refine (HFs.out _ HXb.out).mono ?_); rintro _ w7 ⟨⟨kd, ss, tx2, st, er, ct, hb, rfl, hh⟩, hx7⟩)
                have HHh := hid hh
                have hxa := (Ext.refl w7).alloc (.cells #[.int .i64 kd, .int .i64 ss, .int .i64 tx2, .int .i64 st, .int .i64 er, .int .i64 ct, .slice none 0 0, .slice none 0 0] 36)
                have HBq := hid (Blk.of_new w7 36 [.int .i64 kd, .int .i64 ss, .int .i64 tx2, .int .i64 st, .int .i64 er, .int .i64 ct, .slice none 0 0, .slice none 0 0])
                have HX8 := hid (HXb.out.trans (hx7.trans hxa))
                have HO8 := hid (HOb.out.ext (hx7.trans hxa))
                have HNE : Hid (some w7.heap.size ≠ (Value.slice (some ⟨g, 0, none⟩) (m) c).ownBlock) := by
                  intro hh
                  obtain ⟨ps, _, ho, _⟩ := HOb.out.open
                  have h1 := own_lt ho hh.symm
                  have h2 := hx7.size
                  omega
                clear hh hx7 hxa HFs HOb HXb
                generalize w7.alloc (.cells #[.int .i64 kd, .int .i64 ss, .int .i64 tx2, .int .i64 st, .int .i64 er, .int .i64 ct, .slice none 0 0, .slice none 0 0] 36) = W8 at *
                generalize w7.heap.size = q2 at *
                cases hb
                · have HF := hid (HBd.out (HH.out.trans (hdrS_none (by rw [HHh.out]; rfl))))
                  go_wp2_with fail
                  go_ret3
                  exact ⟨PrsR.bad HF.out, HX8.out⟩
                · have hnew := HH.out.trans (hdrS_some (e := ⟨kd, ss, tx2, st, er, ct, [], []⟩) (by rw [HHh.out]; rfl))
                  have HTd2 := hid (HSt.out _ hnew)
                  have HBn := hid (HB.out.new (e := ⟨kd, ss, tx2, st, er, ct, [], []⟩) rfl rfl)
                  obtain ⟨ps', _, ho, _⟩ := HO8.out.open
                  rw [HM.out] at ho
                  generalize ps'.flatMap evC = xs at *
                  have HOw5 := hid ho
                  have HArm : Hid (∀ (W0 : World) (v5 : Value) (w5 : World), Ext W8 W0 → w5.ownsRow w.heap.size 36 8 v5 (m + 1) (xs ++ [.int .i64 kd, .int .i64 ss, .int .i64 tx2, .int .i64 st, .int .i64 er, .int .i64 ct, .slice none 0 0, .slice none 0 0]) → W0.grownBy w5 (Value.slice (some ⟨g, 0, none⟩) (m) c).ownBlock → (v5.ownBlock = (Value.slice (some ⟨g, 0, none⟩) (m) c).ownBlock ∨ v5.ownBlock = some W0.heap.size) →
                      ∃ A5 c5, v5 = .slice A5 (m + 1) c5 ∧ EvsO w.heap.size w5 (.slice A5 (m + 1) c5) (out ++ [⟨kd, ss, tx2, st, er, ct, [], []⟩]) ∧ Ext w w5) := fun W0 v5 w5 hx hown hgr hbk => by
                    obtain ⟨A5, c5, rfl⟩ := own_slice hown
                    refine ⟨A5, c5, rfl, ?_, Ext.grown (HX8.out.trans hx) hgr fun k hk => own_ge ho hk⟩
                    exact EvsO.push (HO8.out.ext hx) rfl rfl (by rw [HM.out]; exact ownN_ext ho hx) (by rw [HM.out]; exact hown) hgr hbk
                  have HSi : Hid (w.heap.size ≤ W8.heap.size) := HX8.out.size
                  obtain ⟨p0, p1, p2, p3, p4, p5, p6, p7⟩ := blk8 HBq.out
                  clear hnew ho HO8 HBd HSt HB HHh HH
                  go_wp2_with (at_builtin; refine wpList_append_any _ rfl (.tmp 77) (.tmp 79) 22 rfl w.heap.size 36 ie _ 8 96 Tryz.underlying22 hie he0 he1 he2 rfl (by decide) _ (m) _ rfl (HOw5.out.alloc _) _ _ 1 1 [.int .i64 kd, .int .i64 ss, .int .i64 tx2, .int .i64 st, .int .i64 er, .int .i64 ct, .slice none 0 0, .slice none 0 0] rfl (reads_new8 _ [.int .i64 kd, .int .i64 ss, .int .i64 tx2, .int .i64 st, .int .i64 er, .int .i64 ct, .slice none 0 0, .slice none 0 0] _ rfl) (by simp [Value.oneCell']) (by have := HM9.out; unfold maxLen; omega) (by have := HM9.out; omega) (by have := HSi.out; simp; omega) ?_; intro v5 w5 hown5 hgr5 hblk5; obtain ⟨A5, c5, hv5, ho5, hx5⟩ := HArm.out _ _ _ ((Ext.refl W8).alloc _) hown5 hgr5 hblk5; subst hv5)
                  have HO6 := hid ho5
                  have HX6 := hid hx5
                  clear ho5 hx5 hown5 hgr5 hblk5
                  go_roundw
                  case rel => exact ⟨i + 1, i + 1, n + 1, _, by go_num, by go_num, by go_num, HO6.out, HBn.out, HTd2.out, by have := HNi.out; omega, HX6.out⟩
                  case measure => simp [intOf]; omega
              · have HF := hid (HBd.out (refStep_open HMn.out HOp.out))
                go_wp2_with fail
                go_ret3
                exact ⟨PrsR.bad HF.out, HXb.out⟩
          · have HMy : Hid (moreP e L.data.toList = some e2 ∧ ((∃ x rv, e2 = addR e x ∧ Value.slice Aw qs.length cw = .slice A2 n2 c2 ∧ e.kd = 4 ∧ W4.ownsRow W2.heap.size 88 3 rv x.length (valcs x) ∧ W4.ownsRow W2.heap.size 60 1 (.slice A1 n1 c1) (rs.length + 1) (rs.flatMap rwC ++ rwC (x, rv)) ∧ ∀ k, rv.ownBlock = some k → (Value.slice A1 n1 c1).ownBlock ≠ some k) ∨
               (∃ x rv, e2 = addW e x ∧ Value.slice Ar rs.length cr = .slice A1 n1 c1 ∧ e.kd = 2 ∧ W4.ownsRow W2.heap.size 88 3 rv x.row.length (valcs x.row) ∧ W4.ownsRow W2.heap.size 62 3 (.slice A2 n2 c2) (qs.length + 1) (qs.flatMap wtC ++ wtC (x, rv)) ∧ ∀ k, rv.ownBlock = some k → (Value.slice A2 n2 c2).ownBlock ≠ some k))) := by
              rcases HMm.out with ⟨h, _⟩ | ⟨_, h1, h⟩
              · cases h
              · refine ⟨h1, ?_⟩
                rcases h with ⟨x, rv, a, b, c, d, e, f⟩ | ⟨x, rv, a, b, c, d, e, f⟩
                · exact .inl ⟨x, rv, a, b, c, ownN_ext d HXa2.out, ownN_ext e HXa2.out, f⟩
                · exact .inr ⟨x, rv, a, b, c, ownN_ext d HXa2.out, ownN_ext e HXa2.out, f⟩
            clear HMm
            have HEv := hid (HEL.out.more HMl.out HX4.out (Nat.le_refl _) HMy.out.2)
            have HBn : Hid (BdN (n + 1) (ps.map Prod.fst ++ [e2])) := more_bd HB.out (by
              rcases HMy.out.2 with ⟨x, rv, a, _⟩ | ⟨x, rv, a, _⟩
              · exact .inl ⟨x, a⟩
              · exact .inr ⟨x, a⟩)
            have HTd2 := hid (HSt.out _ (refStep_more HMy.out.1))
            have k0 : W4.cell? ⟨g, ps.length * 8, none⟩ = some (.int .i64 e.kd) := HX4.out.keep (HCe.out 0 _ rfl)
            have k1 : W4.cell? ⟨g, ps.length * 8 + 1, none⟩ = some (.int .i64 e.ss) := HX4.out.keep (HCe.out 1 _ rfl)
            have k2 : W4.cell? ⟨g, ps.length * 8 + 2, none⟩ = some (.int .i64 e.tx) := HX4.out.keep (HCe.out 2 _ rfl)
            have k3 : W4.cell? ⟨g, ps.length * 8 + 3, none⟩ = some (.int .i64 e.st) := HX4.out.keep (HCe.out 3 _ rfl)
            have k4 : W4.cell? ⟨g, ps.length * 8 + 4, none⟩ = some (.int .i64 e.er) := HX4.out.keep (HCe.out 4 _ rfl)
            have k5 : W4.cell? ⟨g, ps.length * 8 + 5, none⟩ = some (.int .i64 e.ct) := HX4.out.keep (HCe.out 5 _ rfl)
            have k6 : W4.cell? ⟨g, ps.length * 8 + 6, none⟩ = some (.slice Ar rs.length cr) := HX4.out.keep (HCe.out 6 _ rfl)
            have k7 : W4.cell? ⟨g, ps.length * 8 + 7, none⟩ = some (.slice Aw qs.length cw) := HX4.out.keep (HCe.out 7 _ rfl)
            have hfz : ∀ j, W4.frozen? ⟨g, j, none⟩ = false := fun j => (HX4.out.frozen (p := ⟨g, j, none⟩) (show g < W2.heap.size from cell_lt (HCe.out 0 _ rfl))).trans (HFz.out j)
            have z0 := hfz (ps.length * 8)
            have z1 := hfz (ps.length * 8 + 1)
            have z2 := hfz (ps.length * 8 + 2)
            have z3 := hfz (ps.length * 8 + 3)
            have z4 := hfz (ps.length * 8 + 4)
            have z5 := hfz (ps.length * 8 + 5)
            have z6 := hfz (ps.length * 8 + 6)
            have z7 := hfz (ps.length * 8 + 7)
            obtain ⟨p0, p1, p2, p3, p4, p5, p6, p7⟩ := blk8 HBq.out
            have HXe : Hid (∀ b0 b1 b2 b3 b4 b5 b6 b7 : Value, Ext w ((((((((W4.setCell ⟨g, ps.length * 8, none⟩ b0).setCell ⟨g, ps.length * 8 + 1, none⟩ b1).setCell ⟨g, ps.length * 8 + 2, none⟩ b2).setCell ⟨g, ps.length * 8 + 3, none⟩ b3).setCell ⟨g, ps.length * 8 + 4, none⟩ b4).setCell ⟨g, ps.length * 8 + 5, none⟩ b5).setCell ⟨g, ps.length * 8 + 6, none⟩ b6).setCell ⟨g, ps.length * 8 + 7, none⟩ b7)) := fun b0 b1 b2 b3 b4 b5 b6 b7 =>
              Onl.ext (grown8 W4 g (ps.length * 8) b0 b1 b2 b3 b4 b5 b6 b7) HXb.out HGw.out
            clear hfz HB HSt HBd HEL HCe HFz HX3 HX4 HXa2 HMy HOb
            go_wp2_with fail
            go_roundw
            case rel => exact ⟨i + 1, i + 1, n + 1, ps.map Prod.fst ++ [e2], by go_num, by go_num, by go_num, HEv.out, HBn.out, HTd2.out, by have := HNi.out; omega, HXe.out _ _ _ _ _ _ _ _⟩
            case measure => simp [intOf]; omega
      · have HTk := hid (HTd.out.tick hlt hc)
        have b1 : ((s[i].toNat : Int) != 10) = true := by
          rw [bne_iff_ne]
          exact u8_ne hc
        clear hc
        go_wp2_with fail
        go_roundw
        case rel => exact ⟨i + 1, fr, n, out, by go_num, rfl, rfl, HO.out, HB.out, HTk.out, by have := HNi.out; omega, HXr.out⟩
        case measure => simp [intOf]; omega
    · obtain rfl : i = s.size := by have := HI.out; omega
      have HF := hid HTd.out.fin
      clear hlt HTd
      by_cases hf : fr < s.size
      · have b1 : (fr : Int) < (s.size : Int) := by omega
        have HR := hid (HF.out.trans (if_pos (.inl hf)))
        clear hf HF
        go_wp2_with fail
        go_ret3
        exact ⟨PrsR.bad HR.out, HXr.out⟩
      · have b1 : ¬ (fr : Int) < (s.size : Int) := by omega
        obtain ⟨m, hm⟩ : ∃ m, out.length = m := ⟨_, rfl⟩
        have HM := hid hm
        rw [hm]
        clear hm
        obtain ⟨ob, hob⟩ : ∃ ob, opnL out = ob := ⟨_, rfl⟩
        have HOb := hid hob
        clear hob
        go_upto_region 21 with fail
        go_cut [110] from 81 to 110 (fun cv wx => cv = .bool ob ∧ wx = W2)
        case first =>
          rcases HO.out with ⟨h0, _⟩ | ⟨ps, e, vr, vw, rs, qs, h0, hE⟩
          · subst h0
            obtain rfl : m = 0 := HM.out.symm
            obtain rfl : ob = false := HOb.out.symm
            go_wp2_with fail
            go_meet
            exact ⟨rfl, rfl⟩
          · have h2 := HM.out
            rw [h0, List.length_append, List.length_map, List.length_singleton] at h2
            obtain ⟨g, c, hv, hce, _⟩ := hE.last
            simp only [Value.slice.injEq] at hv
            obtain ⟨rfl, hmm, hcc⟩ := hv
            subst c0
            have k0 : W2.cell? ⟨g, ps.length * 8, none⟩ = some (.int .i64 e.kd) := hce 0 _ rfl
            obtain ⟨Bq, d, hvw⟩ := own_slice hE.ownW
            have k7 : W2.cell? ⟨g, ps.length * 8 + 7, none⟩ = some vw := hce 7 _ rfl
            subst hvw
            have hob : (e.kd == 2 && decide (qs.length = 0)) = ob := by
              rw [← HOb.out, h0, opnL_snoc]
              unfold opn
              rw [← hE.eW, List.length_map]
            generalize e.kd = kd at *
            generalize qs.length = z at *
            have m1 : (0 : Int) < (m : Int) := by omega
            have m2 : (m : Int) - 1 = (ps.length : Int) := by omega
            have m3 : (ps.length : Int) < (m : Int) := by omega
            have hps : ps.length ≤ 1000000 := by have h5 := HB.out.1; rw [HM.out] at h5; omega
            clear h0 h2 hE hce
            by_cases hk : kd = 2
            · have hk2 : (kd == 2) = true := beq_iff_eq.2 hk
              by_cases hz : z = 0
              · have hz2 : ((z : Int) == 0) = true := by rw [beq_iff_eq]; omega
                obtain rfl : ob = true := by rw [← hob, hk2, hz]; rfl
                clear hk hz hob
                go_wp2_with fail
                go_meet
                exact ⟨rfl, rfl⟩
              · have hz2 : ((z : Int) == 0) = false := by rw [beq_eq_false_iff_ne]; omega
                obtain rfl : ob = false := by rw [← hob, hk2]; simp [hz]
                clear hk hz hob
                go_wp2_with fail
                go_meet
                exact ⟨rfl, rfl⟩
            · have hk2 : (kd == 2) = false := beq_eq_false_iff_ne.2 hk
              obtain rfl : ob = false := by rw [← hob, hk2]; rfl
              clear hk hob
              go_wp2_with fail
              go_meet
              exact ⟨rfl, rfl⟩
        case rest =>
          obtain ⟨rfl, rfl⟩ := hcut
          generalize wc = W2 at *
          cases ob
          · have HR := hid (HF.out.trans (if_neg (by rintro (h | h); exact hf h; rw [HOb.out] at h; cases h)))
            clear hf HF b1
            go_wp2_with fail
            go_ret3
            exact ⟨PrsR.good HR.out HM.out HEv.out, HXr.out⟩
          · have HR := hid (HF.out.trans (if_pos (.inr HOb.out)))
            clear hf HF b1
            go_wp2_with fail
            go_ret3
            exact ⟨PrsR.bad HR.out, HXr.out⟩
end Go.Proofs.YtdjdhkbomhendaaGreatDoor
