/-
  Walks over history: the reference's more. · Walks over history: the reference's more, its walk.
-/
import Derived.Test.YtdjdhkbomhendaaGreatDoorHMem3z
import Derived.Test.YtdjdhkbomhendaaGreatDoorHW36z
import Derived.Test.YtdjdhkbomhendaaGreatDoorGe
import Derived.Test.YtdjdhkbomhendaaGreatDoorGn
import Derived.Test.YtdjdhkbomhendaaGreatDoorGs
import Derived.Test.YtdjdhkbomhendaaGreatDoorHW31z
namespace Go.Proofs.YtdjdhkbomhendaaGreatDoor
open Go.RowKit
set_option linter.unusedVariables false
set_option linter.unusedSimpArgs false
set_option maxHeartbeats 2000000
set_option maxRecDepth 100000

def addR (e : Ev) (r : List Val) : Ev := { e with rows := e.rows ++ [r] }
def addW (e : Ev) (x : Wt) : Ev := { e with wts := e.wts ++ [x] }
def rsnQ (n k : Option Int) (r : Option (List Val)) : Option Wt := match n, k, r with
  | some n, some k, some r => if n < 1 ∨ 7 < k ∨ r.length = 0 then none else some ⟨n, k, r⟩
  | _, _, _ => none
theorem moreP_row {e : Ev} {l : List UInt8} (h1 : (cutW 32 l).1 = rowW) (h2 : e.kd = 4) : moreP e l = (refRow (cutW 32 l).2.1).map (addR e) := by
  unfold moreP
  rw [if_pos ⟨h1, h2⟩]
  cases refRow (cutW 32 l).2.1 <;> rfl
theorem moreP_not {e : Ev} {l : List UInt8} (h1 : ¬ ((cutW 32 l).1 = rowW ∧ e.kd = 4)) (h2 : (cutW 32 l).1 ≠ forW ∨ e.kd ≠ 2) : moreP e l = none := by
  unfold moreP
  rw [if_neg h1, if_pos h2]
theorem moreP_for {e : Ev} {l : List UInt8} (h1 : (cutW 32 l).1 = forW) (h2 : e.kd = 2) :
    moreP e l = (rsnQ (numP (BA (cutW 32 (cutW 32 l).2.1).1)) (numP (BA (cutW 32 (cutW 32 (cutW 32 l).2.1).2.1).1)) (refRow (cutW 32 (cutW 32 (cutW 32 l).2.1).2.1).2.1)).map (addW e) := by
  unfold moreP
  rw [if_neg (by rintro ⟨_, h⟩; omega), if_neg (by rintro (h | h); exact h h1; exact h h2)]
  unfold refRsn rsnQ
  rw [if_pos h1]
  show (match (match numP (BA (cutW 32 (cutW 32 l).2.1).1), numP (BA (cutW 32 (cutW 32 (cutW 32 l).2.1).2.1).1), refRow (cutW 32 (cutW 32 (cutW 32 l).2.1).2.1).2.1 with
    | some n, some k, some r => if n < 1 ∨ 7 < k ∨ r.length = 0 then none else some (Wt.mk n k r)
    | _, _, _ => none) with | some x => some _ | none => none) = _
  generalize numP (BA (cutW 32 (cutW 32 l).2.1).1) = a
  generalize numP (BA (cutW 32 (cutW 32 (cutW 32 l).2.1).2.1).1) = b
  generalize refRow (cutW 32 (cutW 32 (cutW 32 l).2.1).2.1).2.1 = c
  generalize (match a, b, c with
    | some n, some k, some r => if n < 1 ∨ 7 < k ∨ r.length = 0 then none else some (Wt.mk n k r)
    | _, _, _ => none) = o
  cases o <;> rfl
/-- the result of more -/
def MoreR (B : Nat) (e : Ev) (vr vw : Value) (rs : List (List Val × Value)) (qs : List (Wt × Value)) (o : Option Ev) (r : Ending) (w' : World) : Prop :=
  ∃ e2 A1 n1 c1 A2 n2 c2 b, r = .returned (.tuple #[evV e2 (.slice A1 n1 c1) (.slice A2 n2 c2), .bool b]) ∧
    ((b = false ∧ o = none) ∨ (b = true ∧ o = some e2 ∧
      ((∃ x rv, e2 = addR e x ∧ vw = .slice A2 n2 c2 ∧ e.kd = 4 ∧ w'.ownsRow B 88 3 rv x.length (valcs x) ∧
          w'.ownsRow B 60 1 (.slice A1 n1 c1) (rs.length + 1) (rs.flatMap rwC ++ rwC (x, rv)) ∧ ∀ k, rv.ownBlock = some k → (Value.slice A1 n1 c1).ownBlock ≠ some k) ∨
       (∃ x rv, e2 = addW e x ∧ vr = .slice A1 n1 c1 ∧ e.kd = 2 ∧ w'.ownsRow B 88 3 rv x.row.length (valcs x.row) ∧
          w'.ownsRow B 62 3 (.slice A2 n2 c2) (qs.length + 1) (qs.flatMap wtC ++ wtC (x, rv)) ∧ ∀ k, rv.ownBlock = some k → (Value.slice A2 n2 c2).ownBlock ≠ some k))))
theorem row_one {w : World} {v : Value} {l : List Val} (h : RowAt w v l) : v.oneCell' = true := by
  obtain ⟨A, c, rfl, _⟩ := h
  rfl
theorem own_far {w : World} {B e sz n : Nat} {v : Value} {xs : List Value} (h : w.ownsRow B e sz v n xs) {g : Nat} (hg : v.ownBlock ≠ some g) (j : Nat) (u : Value) : (w.setCell ⟨g, j, none⟩ u).ownsRow B e sz v n xs :=
  ownsRow_setCell_other h (a := ⟨g, j, none⟩) hg u
theorem own_far8 {w : World} {B e sz n : Nat} {v : Value} {xs : List Value} (h : w.ownsRow B e sz v n xs) {g : Nat} (hg : v.ownBlock ≠ some g) (b0 b1 b2 b3 b4 b5 b6 b7 : Value) :
    ((((((((w.setCell ⟨g, 0, none⟩ b0).setCell ⟨g, 1, none⟩ b1).setCell ⟨g, 2, none⟩ b2).setCell ⟨g, 3, none⟩ b3).setCell ⟨g, 4, none⟩ b4).setCell ⟨g, 5, none⟩ b5).setCell ⟨g, 6, none⟩ b6).setCell ⟨g, 7, none⟩ b7).ownsRow B e sz v n xs :=
  own_far (own_far (own_far (own_far (own_far (own_far (own_far (own_far h hg 0 b0) hg 1 b1) hg 2 b2) hg 3 b3) hg 4 b4) hg 5 b5) hg 6 b6) hg 7 b7
end Go.Proofs.YtdjdhkbomhendaaGreatDoor
namespace Go.Proofs.YtdjdhkbomhendaaGreatDoor
open Go.RowKit
set_option linter.unusedVariables false
set_option linter.unusedSimpArgs false
set_option maxHeartbeats 2000000
set_option maxRecDepth 100000

def k1 (s : ByteArray) : ByteArray := BA (cutW 32 s.data.toList).1
def k2 (s : ByteArray) : ByteArray := BA (cutW 32 s.data.toList).2.1
theorem k_size (s : ByteArray) : (k1 s).size ≤ s.size ∧ (k2 s).size ≤ s.size := by
  unfold k1 k2
  rw [BA_size, BA_size]
  have hs : s.data.toList.length = s.size := by rw [Array.length_toList]; rfl
  rcases cutW_cases 32 s.data.toList with ⟨_, h2⟩ | ⟨a, r, _, h2, h3⟩
  · rw [h2]
    exact ⟨Nat.le_of_eq hs, Nat.zero_le _⟩
  · rw [h3]
    have h4 := congrArg List.length h2
    rw [List.length_append, List.length_cons] at h4
    dsimp only
    omega
theorem rcut_k (s : ByteArray) (w : World) (hs : s.size ≤ 1000000) :
    Calls Tryz.prog 76 #[.string s] w fun e w' => e = .returned (.tuple #[.string (k1 s), .string (k2 s)]) ∧ Ext w w' := rcut_any s w hs
theorem rinfo_wait : (Tryz.prog.info? 62).map (fun i => (i.zero, i.size, i.bytes)) = some (some (.agg #[.int .i64 0, .int .i64 0, .slice none 0 0]), 3, 40) := by kernel_rfl
theorem rinfo_row : (Tryz.prog.info? 60).map (fun i => (i.zero, i.size, i.bytes)) = some (some (.slice none 0 0), 1, 24) := by kernel_rfl
theorem word_eq {s : ByteArray} {l : List UInt8} {b : Bool} (h : (s.toList == l) = b) : b = true ↔ s.data.toList = l := by
  rw [← h, ByteArray.toList_eq]
  exact beq_iff_eq
theorem rsnQ_no {n k : Int} {b1 b2 b3 : Bool} {o1 o2 : Option Int} {o3 : Option (List Val)} {acc : List Val} (h1 : o1.isSome = b1) (h1' : ∀ m, o1 = some m → n = m) (h2 : o2.isSome = b2) (h2' : ∀ m, o2 = some m → k = m) (h3 : o3 = if b3 = true then some acc else none) :
    (((!b1 || !b2 || !b3 || decide (n < 1) || decide (7 < k)) || acc.length == 0) = true → rsnQ o1 o2 o3 = none) ∧ (((!b1 || !b2 || !b3 || decide (n < 1) || decide (7 < k)) || acc.length == 0) = false → rsnQ o1 o2 o3 = some ⟨n, k, acc⟩) := by
  subst h3
  cases o1 with
  | none => obtain rfl : b1 = false := h1.symm; simp [rsnQ]
  | some m1 =>
    obtain rfl := h1' m1 rfl
    obtain rfl : b1 = true := h1.symm
    cases o2 with
    | none => obtain rfl : b2 = false := h2.symm; simp [rsnQ]
    | some m2 =>
      obtain rfl := h2' m2 rfl
      obtain rfl : b2 = true := h2.symm
      cases b3
      · simp [rsnQ]
      · obtain ⟨m, hm⟩ : ∃ m, acc.length = m := ⟨_, rfl⟩
        rw [hm]
        by_cases c : n < 1 ∨ 7 < k ∨ m = 0
        · constructor
          · intro _
            simp only [rsnQ, if_true]
            rw [hm, if_pos c]
          · intro h
            exfalso
            simp at h
            omega
        · constructor
          · intro h
            exfalso
            simp at h
            omega
          · intro _
            simp only [rsnQ, if_true]
            rw [hm, if_neg c]
theorem more_any (e : Ev) (vr vw : Value) (rs : List (List Val × Value)) (qs : List (Wt × Value)) (l : ByteArray) (B : Nat) (w : World) (hs : l.size ≤ 999980)
    (hR : w.ownsRow B 60 1 vr rs.length (rs.flatMap rwC)) (hW : w.ownsRow B 62 3 vw qs.length (qs.flatMap wtC))
    (h1 : ∀ p ∈ rs, RowAt w p.2 p.1) (h2 : ∀ p ∈ qs, RowAt w p.2 p.1.row) (hn1 : rs.length ≤ 1000000) (hn2 : qs.length ≤ 1000000) :
    Calls Tryz.prog 38 #[evV e vr vw, .string l] w fun r w' => MoreR w.heap.size e vr vw rs qs (moreP e l.data.toList) r w' ∧ Ext w w' := by
  obtain ⟨ir, hir, hr0, hr1, hr2⟩ := info_parts rinfo_row
  obtain ⟨iw, hiw, hw0, hw1, hw2⟩ := info_parts rinfo_wait
  obtain ⟨A1, c1, rfl⟩ := own_slice hR
  obtain ⟨A2, c2, rfl⟩ := own_slice hW
  have HO1 := hid hR
  have HO2 := hid hW
  have HU1 : Hid (∀ u ∈ rs.flatMap rwC, u.oneCell' = true) := by
    intro u hu
    obtain ⟨p, hp, hu⟩ := List.mem_flatMap.1 hu
    obtain rfl := List.mem_singleton.1 hu
    exact row_one (h1 p hp)
  have HU2 : Hid (∀ u ∈ qs.flatMap wtC, u.oneCell' = true) := by
    intro u hu
    obtain ⟨p, hp, hu⟩ := List.mem_flatMap.1 hu
    simp only [wtC, List.mem_cons, List.not_mem_nil, or_false] at hu
    rcases hu with rfl | rfl | rfl
    · rfl
    · rfl
    · exact row_one (h2 p hp)
  have HL1 := hid hn1
  have HL2 := hid hn2
  have z1 := k_size l
  have z2 := k_size (k2 l)
  have z3 := k_size (k2 (k2 l))
  have HC1 := hid (fun W => rcut_k l W (by omega))
  have HC2 := hid (fun W => rcut_k (k2 l) W (by omega))
  have HC3 := hid (fun W => rcut_k (k2 (k2 l)) W (by omega))
  have HN2 := hid (fun W => rnumber_any (k1 (k2 l)) W (by omega))
  have HN3 := hid (fun W => rnumber_any (k1 (k2 (k2 l))) W (by omega))
  have HR1 := hid (fun W => readrow_any (k2 l) W (by omega))
  have HR3 := hid (fun W => readrow_any (k2 (k2 (k2 l))) W (by omega))
  have HP1 : Hid ((k1 l).data.toList = rowW → e.kd = 4 → moreP e l.data.toList = (refRow (k2 l).data.toList).map (addR e)) := fun h1 h2 => moreP_row h1 h2
  have HP2 : Hid (¬ ((k1 l).data.toList = rowW ∧ e.kd = 4) → ((k1 l).data.toList ≠ forW ∨ e.kd ≠ 2) → moreP e l.data.toList = none) := fun h1 h2 => moreP_not h1 h2
  have HP3 : Hid ((k1 l).data.toList = forW → e.kd = 2 → moreP e l.data.toList = (rsnQ (numP (k1 (k2 l))) (numP (k1 (k2 (k2 l)))) (refRow (k2 (k2 (k2 l))).data.toList)).map (addW e)) := fun h1 h2 => moreP_for h1 h2
  have HS4 := hid hs
  clear hR hW h1 h2 hn1 hn2 z1 z2 z3 hs
  generalize k1 (k2 (k2 l)) = X3 at *
  generalize k2 (k2 (k2 l)) = R3 at *
  generalize k1 (k2 l) = X2 at *
  generalize k2 (k2 l) = R2 at *
  generalize k1 l = X1 at *
  generalize k2 l = R1 at *
  generalize moreP e l.data.toList = M at *
  obtain ⟨b1, hb1⟩ : ∃ b, (X1.toList == [114, 111, 119]) = b := ⟨_, rfl⟩
  obtain ⟨b2, hb2⟩ : ∃ b, (X1.toList == [102, 111, 114]) = b := ⟨_, rfl⟩
  have HW1 := hid (word_eq hb1)
  have HW2 := hid (word_eq hb2)
  have HEV : Hid (∀ a b, evV e a b = .agg #[.int .i64 e.kd, .int .i64 e.ss, .int .i64 e.tx, .int .i64 e.st, .int .i64 e.er, .int .i64 e.ct, a, b]) := fun _ _ => rfl
  rw [HEV.out]
  obtain ⟨kd, hkd⟩ : ∃ k, e.kd = k := ⟨_, rfl⟩
  have HK := hid hkd
  rw [hkd] at HEV ⊢
  clear hkd
  generalize e.ss = ss at *
  generalize e.tx = tx at *
  generalize e.st = st at *
  generalize e.er = er at *
  generalize e.ct = ct at *
  have hxa := ((Ext.refl w).alloc (.cells #[.int .i64 kd, .int .i64 ss, .int .i64 tx, .int .i64 st, .int .i64 er, .int .i64 ct, (.slice A1 rs.length c1), (.slice A2 qs.length c2)] 36)).alloc (.cells evZ.toArray 36)
  have hb2 := (Blk.of_new w 36 [.int .i64 kd, .int .i64 ss, .int .i64 tx, .int .i64 st, .int .i64 er, .int .i64 ct, .slice A1 rs.length c1, .slice A2 qs.length c2]).ext ((Ext.refl _).alloc (.cells evZ.toArray 36))
  have hb4 := Blk.of_new (w.alloc (.cells #[.int .i64 kd, .int .i64 ss, .int .i64 tx, .int .i64 st, .int .i64 er, .int .i64 ct, (.slice A1 rs.length c1), (.slice A2 qs.length c2)] 36)) 36 evZ
  rw [show (w.alloc (.cells #[.int .i64 kd, .int .i64 ss, .int .i64 tx, .int .i64 st, .int .i64 er, .int .i64 ct, (.slice A1 rs.length c1), (.slice A2 qs.length c2)] 36)).heap.size = w.heap.size + 1 by simp] at hb4
  obtain ⟨g, hg⟩ : ∃ g, w.heap.size = g := ⟨_, rfl⟩
  have HG := hid hg
  have HA := hid hxa
  have HB2 := hid hb2
  have HB4 := hid hb4
  rw [hg] at HB2 HB4 ⊢
  clear hxa hb2 hb4
  go_enter Tryz.func38, Tryz.ntmps38
  go_upto_region 1 with fail
  clear hg
  generalize (w.alloc (.cells #[.int .i64 kd, .int .i64 ss, .int .i64 tx, .int .i64 st, .int .i64 er, .int .i64 ct, (.slice A1 rs.length c1), (.slice A2 qs.length c2)] 36)).alloc (.cells #[.int .i64 0, .int .i64 0, .int .i64 0, .int .i64 0, .int .i64 0, .int .i64 0, .slice none 0 0, .slice none 0 0] 36) = V1 at *
  go_upto_region 2 with (go_at_call 76; (with_reducible refine (HC1.out _).mono ?_); rintro _ w2 ⟨rfl, hx2⟩)
  have HXa := hid (HA.out.trans hx2)
  have HBa := hid (HB2.out.ext hx2)
  have HBb := hid (HB4.out.ext hx2)
  have HOa := hid (ownN_ext HO1.out HXa.out)
  have HOb := hid (ownN_ext HO2.out HXa.out)
  clear hx2 HA HB2 HB4 HC1 HO1 HO2
  obtain ⟨x0, x1, x2, x3, x4, x5, x6, x7⟩ := blk8 HBa.out
  by_cases hrow : b1 = true ∧ kd = 4
  · obtain ⟨rfl, rfl⟩ := hrow
    have HM := hid (HP1.out (HW1.out.1 rfl) HK.out)
    go_upto_region 4 with (go_at_call 77; (with_reducible refine (HR1.out _).mono ?_); rintro _ w3 ⟨⟨v, b3, acc, rfl, hro, hown, hlen⟩, hx3⟩; obtain ⟨Av, cv, hvv⟩ := own_slice hown; subst hvv)
    have HXc := hid (HXa.out.trans hx3)
    have HBc := hid (HBa.out.ext hx3)
    have HBd := hid (HBb.out.ext hx3)
    have HOc := hid (ownN_ext HOa.out hx3)
    have HRo := hid hro
    have hg2 : g ≤ w2.heap.size := by have := HXa.out.size; have := HG.out; omega
    have hg3 : g ≤ w3.heap.size := by have := hx3.size; omega
    have HLe := hid hg3
    have HOw := hid (own_base hown hg2)
    have hown0 := hid hown
    have HGb : Hid (g + 1 < w2.heap.size) := HBb.out.lt
    clear hro hown hx3 hg2 hg3 HXa HBa HBb HOa HOb HC2 HC3 HN2 HN3 HR1 HR3 HP1 HP2 HP3
    obtain ⟨x0, x1, x2, x3, x4, x5, x6, x7⟩ := blk8 HBc.out
    have y6 := (HBc.out.ext ((Ext.refl w3).alloc (.cells #[] 60))).cell_some (i := 6) rfl
    have HArm1 : Hid (∀ (v5 : Value) (w5 : World), w5.ownsRow g 60 1 v5 (0 + rs.length) ([] ++ rs.flatMap rwC) → (w3.alloc (.cells #[] 60)).grownBy w5 (Value.slice (some ⟨w3.heap.size, 0, none⟩) 0 0).ownBlock → (v5.ownBlock = (Value.slice (some ⟨w3.heap.size, 0, none⟩) 0 0).ownBlock ∨ v5.ownBlock = some (w3.alloc (.cells #[] 60)).heap.size) →
        ∃ A5 c5, v5 = .slice A5 rs.length c5 ∧ w5.ownsRow g 60 1 (.slice A5 rs.length c5) rs.length (rs.flatMap rwC) ∧ Ext w3 w5 ∧ ∀ k, (Value.slice A5 rs.length c5).ownBlock = some k → w3.heap.size ≤ k) := fun v5 w5 hown hgr hbk => by
      rw [Nat.zero_add, List.nil_append] at hown
      obtain ⟨A5, c5, rfl⟩ := own_slice hown
      refine ⟨A5, c5, rfl, hown, Ext.grown ((Ext.refl w3).alloc _) hgr fun k hk => by simp [Value.ownBlock] at hk; omega, fun k hk => ?_⟩
      rcases hbk with h | h
      · rw [hk] at h
        simp [Value.ownBlock] at h
        omega
      · rw [hk] at h
        simp at h
        omega
    have HArm2 : Hid (∀ (A5 : Option Addr) (c5 : Nat) (w5 : World), w5.ownsRow g 60 1 (.slice A5 rs.length c5) rs.length (rs.flatMap rwC) → Ext w3 w5 → (∀ k, (Value.slice A5 rs.length c5).ownBlock = some k → w3.heap.size ≤ k) →
        ∀ (v6 : Value) (w6 : World), w6.ownsRow g 60 1 v6 (rs.length + 1) (rs.flatMap rwC ++ [.slice Av acc.length cv]) → (w5.alloc (.cells #[.slice Av acc.length cv] 60)).grownBy w6 (Value.slice A5 rs.length c5).ownBlock → (v6.ownBlock = (Value.slice A5 rs.length c5).ownBlock ∨ v6.ownBlock = some (w5.alloc (.cells #[.slice Av acc.length cv] 60)).heap.size) →
        ∃ A6 c6, v6 = .slice A6 (rs.length + 1) c6 ∧ w6.ownsRow g 60 1 (.slice A6 (rs.length + 1) c6) (rs.length + 1) (rs.flatMap rwC ++ [.slice Av acc.length cv]) ∧ Ext w3 w6 ∧ (∀ k, (Value.slice A6 (rs.length + 1) c6).ownBlock = some k → w3.heap.size ≤ k) ∧ w6.cell? ⟨g, 6, none⟩ = some (.slice A1 rs.length c1) ∧ w6.frozen? ⟨g, 6, none⟩ = false) := fun A5 c5 w5 ho hx hge v6 w6 hown hgr hbk => by
      obtain ⟨A6, c6, rfl⟩ := own_slice hown
      have hx6 : Ext w3 w6 := Ext.grown (hx.alloc _) hgr hge
      have hb := HBc.out.ext hx6
      refine ⟨A6, c6, rfl, hown, hx6, fun k hk => ?_, hb.cell_some rfl, hb.frozen 6⟩
      rcases hbk with h | h
      · exact hge k (h.symm.trans hk)
      · rw [hk] at h
        have := hx.size
        simp at h
        omega
    go_upto_region 5 with (at_builtin; first
      | (refine wpList_append_any _ rfl (.tmp 38) (.tmp 40) 33 rfl g 60 ir _ 1 24 Tryz.underlying33 hir hr0 hr1 hr2 rfl (by decide) _ rs.length _ rfl (HO5.out.alloc _) _ _ 1 1 [.slice Av acc.length cv] rfl (reads_new1 _ _ _) (by simp [Value.oneCell']) (by have := HL1.out; unfold maxLen; omega) (by have := HL1.out; omega) (by have := HX5.out.size; have := HLe.out; simp; omega) ?_; intro v6 w6 hown6 hgr6 hblk6; obtain ⟨A6, c6, hv6, ho6, hx6, hge6, z6, f6⟩ := HArm2.out _ _ _ HO5.out HX5.out HGe5.out _ _ hown6 hgr6 hblk6; subst hv6)
      | (refine wpList_append_any _ rfl (.tmp 35) (.tmp 37) 33 rfl g 60 ir _ 1 24 Tryz.underlying33 hir hr0 hr1 hr2 rfl (by decide) _ 0 _ rfl (own_empty w3 g _ 1 HLe.out) _ _ rs.length _ (rs.flatMap rwC) rfl (Reads.of_own (HOc.out.alloc _)) HU1.out (by have := HL1.out; unfold maxLen; omega) (by have := HL1.out; omega) (by have := HLe.out; simp; omega) ?_; intro v5 w5 hown5 hgr5 hblk5; obtain ⟨A5, c5, hv5, ho5, hx5, hge5⟩ := HArm1.out _ _ hown5 hgr5 hblk5; subst hv5; have HO5 := hid ho5; have HX5 := hid hx5; have HGe5 := hid hge5; clear hown5 hgr5 hblk5 ho5 hx5 hge5))
    have HB6 : Hid (Blk (w6.setCell ⟨g, 6, none⟩ (.slice A6 (rs.length + 1) c6)) g 36 [.int .i64 4, .int .i64 ss, .int .i64 tx, .int .i64 st, .int .i64 er, .int .i64 ct, .slice A6 (rs.length + 1) c6, .slice A2 qs.length c2]) := (HBc.out.ext hx6).set 6 (.slice A6 (rs.length + 1) c6)
    have HB7 := hid ((HBd.out.ext hx6).far (p := ⟨g, 6, none⟩) (by simp) (.slice A6 (rs.length + 1) c6))
    have hX7 : Ext w (w6.setCell ⟨g, 6, none⟩ (.slice A6 (rs.length + 1) c6)) := (HXc.out.trans hx6).setCell (by have := HG.out; show w.heap.size ≤ g; omega) _
    have HX7 := hid hX7
    have hdg : g + 1 < w3.heap.size := HBd.out.lt
    have hOw6 : (w6.setCell ⟨g, 6, none⟩ (.slice A6 (rs.length + 1) c6)).ownsRow g 60 1 (.slice A6 (rs.length + 1) c6) (rs.length + 1) (rs.flatMap rwC ++ rwC (acc, .slice Av acc.length cv)) := own_far ho6 (fun h => by have := hge6 g h; omega) 6 _
    have HO6 := hid hOw6
    have hne : (Value.slice Av acc.length cv).ownBlock ≠ some g ∧ (Value.slice Av acc.length cv).ownBlock ≠ some (g + 1) ∧ (∀ k, (Value.slice Av acc.length cv).ownBlock = some k → k < w3.heap.size) := by
      refine ⟨fun h => ?_, fun h => ?_, fun k h => own_lt HOw.out h⟩
      · have := (hown0.out.lt g h).1
        have := HGb.out
        omega
      · have := (hown0.out.lt _ h).1
        have := HGb.out
        omega
    have HNe := hid hne
    have hOv6 : (w6.setCell ⟨g, 6, none⟩ (.slice A6 (rs.length + 1) c6)).ownsRow g 88 3 (.slice Av acc.length cv) acc.length (valcs acc) := own_far (ownN_ext HOw.out hx6) hne.1 6 _
    have HOv6 := hid hOv6
    have HGe := hid hge6
    have HDg := hid hdg
    clear hX7 hdg hOw6 hne hOv6 hge6 ho6 hx6 hown6 hgr6 hblk6 z6 f6 HO5 HX5 HGe5 HArm1 HArm2 HBc HBd HOc HXc HOw hown0 y6
    generalize w6.setCell ⟨g, 6, none⟩ (.slice A6 (rs.length + 1) c6) = W7 at *
    cases b3
    · obtain ⟨x0, x1, x2, x3, x4, x5, x6, x7⟩ := blk8 HB6.out
      obtain ⟨o0, o1, o2, o3, o4, o5, o6, o7⟩ := blk8 HB7.out
      have f0 := (HB7.out).frozen 0
      have f1 := (HB7.out).frozen 1
      have f2 := (HB7.out).frozen 2
      have f3 := (HB7.out).frozen 3
      have f4 := (HB7.out).frozen 4
      have f5 := (HB7.out).frozen 5
      have f6 := (HB7.out).frozen 6
      have f7 := (HB7.out).frozen 7
      go_wp2_with fail
      obtain ⟨q0, q1, q2, q3, q4, q5, q6, q7⟩ := blk8 (blk8s HB7.out (.int .i64 4) (.int .i64 ss) (.int .i64 tx) (.int .i64 st) (.int .i64 er) (.int .i64 ct) (.slice A6 (rs.length + 1) c6) (.slice A2 qs.length c2))
      exact bodyPost_ret (v := .tuple #[.agg #[.int .i64 4, .int .i64 ss, .int .i64 tx, .int .i64 st, .int .i64 er, .int .i64 ct, .slice A6 (rs.length + 1) c6, .slice A2 qs.length c2], .bool false]) (by simp [results, Tryz.results38, go_sem, q0, q1, q2, q3, q4, q5, q6, q7]) rfl ⟨⟨e, A6, _, c6, A2, _, c2, false, by rw [HEV.out], .inl ⟨rfl, by rw [HM.out, HRo.out]; rfl⟩⟩, ext8s HX7.out (by have := HG.out; omega) _ _ _ _ _ _ _ _⟩
    · obtain ⟨x0, x1, x2, x3, x4, x5, x6, x7⟩ := blk8 HB6.out
      obtain ⟨o0, o1, o2, o3, o4, o5, o6, o7⟩ := blk8 HB7.out
      have f0 := (HB7.out).frozen 0
      have f1 := (HB7.out).frozen 1
      have f2 := (HB7.out).frozen 2
      have f3 := (HB7.out).frozen 3
      have f4 := (HB7.out).frozen 4
      have f5 := (HB7.out).frozen 5
      have f6 := (HB7.out).frozen 6
      have f7 := (HB7.out).frozen 7
      go_wp2_with fail
      obtain ⟨q0, q1, q2, q3, q4, q5, q6, q7⟩ := blk8 (blk8s HB7.out (.int .i64 4) (.int .i64 ss) (.int .i64 tx) (.int .i64 st) (.int .i64 er) (.int .i64 ct) (.slice A6 (rs.length + 1) c6) (.slice A2 qs.length c2))
      exact bodyPost_ret (v := .tuple #[.agg #[.int .i64 4, .int .i64 ss, .int .i64 tx, .int .i64 st, .int .i64 er, .int .i64 ct, .slice A6 (rs.length + 1) c6, .slice A2 qs.length c2], .bool true]) (by simp [results, Tryz.results38, go_sem, q0, q1, q2, q3, q4, q5, q6, q7]) rfl ⟨⟨addR e acc, A6, _, c6, A2, _, c2, true, by rw [show evV (addR e acc) (.slice A6 (rs.length + 1) c6) (.slice A2 qs.length c2) = _ from HEV.out _ _], .inr ⟨rfl, by rw [HM.out, HRo.out]; rfl, .inl ⟨acc, .slice Av acc.length cv, rfl, rfl, HK.out, own_far8 HOv6.out HNe.out.2.1 _ _ _ _ _ _ _ _, own_far8 HO6.out (fun h => by have := HGe.out _ h; have := HDg.out; omega) _ _ _ _ _ _ _ _, fun k hk h => by have := HGe.out k h; have := HNe.out.2.2 k hk; omega⟩⟩⟩, ext8s HX7.out (by have := HG.out; omega) _ _ _ _ _ _ _ _⟩
  · by_cases hfor : b2 = true ∧ kd = 2
    · obtain ⟨rfl, rfl⟩ := hfor
      have hw2 := HW2.out.1 rfl
      obtain rfl : b1 = false := by
        cases b1
        · rfl
        · have := HW1.out.1 rfl
          rw [hw2] at this
          cases this
      have HM := hid (HP3.out hw2 HK.out)
      clear hw2 hrow HP1 HP2 HP3
      go_upto_region 13 with (first
        | (go_at_call 77; (with_reducible refine (HR3.out _).mono ?_); rintro _ w7 ⟨⟨v, p3, acc, rfl, hro, hown, hlen⟩, hx7⟩; obtain ⟨Av, cv, hvv⟩ := own_slice hown; subst hvv)
        | (go_at_call 78; (with_reducible refine (HN3.out _).mono ?_); rintro _ w6 ⟨⟨k, p2, rfl, hk1, hk2⟩, hx6⟩)
        | (go_at_call 78; (with_reducible refine (HN2.out _).mono ?_); rintro _ w5 ⟨⟨n, p1, rfl, hn1, hn2⟩, hx5⟩)
        | (go_at_call 76; (with_reducible refine (HC3.out _).mono ?_); rintro _ w4 ⟨rfl, hx4⟩)
        | (go_at_call 76; (with_reducible refine (HC2.out _).mono ?_); rintro _ w3 ⟨rfl, hx3⟩))
      have hx37 := ((hx3.trans hx4).trans (hx5.trans hx6)).trans hx7
      have HXc := hid (HXa.out.trans hx37)
      have HBc := hid (HBa.out.ext hx37)
      have HBd := hid (HBb.out.ext hx37)
      have HOc := hid (ownN_ext HOb.out hx37)
      have hg6 : g + 1 < w6.heap.size := ((HBb.out.ext ((hx3.trans hx4).trans (hx5.trans hx6))).lt)
      have hg7 : g + 1 < w7.heap.size := HBd.out.lt
      have HLe : Hid (g ≤ w7.heap.size) := by unfold Hid; omega
      have HOw := hid (own_base hown (show g ≤ w6.heap.size by omega))
      have hown0 := hid hown
      have HGb := hid hg6
      obtain ⟨q, hq⟩ : ∃ q, (((!p1 || !p2 || !p3 || decide (n < 1) || decide (7 < k)) || acc.length == 0)) = q := ⟨_, rfl⟩
      have HQ : Hid ((q = true → M = none) ∧ (q = false → M = some (addW e ⟨n, k, acc⟩))) := by
        have h := rsnQ_no hn1 hn2 hk1 hk2 hro
        rw [hq] at h
        unfold Hid
        rw [HM.out]
        exact ⟨fun hq => by rw [h.1 hq]; rfl, fun hq => by rw [h.2 hq]; rfl⟩
      clear hro hown hx3 hx4 hx5 hx6 hx7 hx37 hg6 hg7 HXa HBa HBb HOa HOb HC2 HC3 HN2 HN3 HR1 HR3 hn1 hn2 hk1 hk2 HM hlen x0 x1 x2 x3 x4 x5 x6 x7
      go_cut [100] from 78 to 100 (fun cv wx => cv = .bool q ∧ wx = w7)
      case first =>
        clear HQ
        generalize acc.length = m at *
        clear HOc HBc HBd HXc HOw hown0
        cases p1
        · go_wp2_with fail
          go_meet
          exact ⟨by rw [← hq]; rfl, rfl⟩
        cases p2
        · go_wp2_with fail
          go_meet
          exact ⟨by rw [← hq]; rfl, rfl⟩
        cases p3
        · go_wp2_with fail
          go_meet
          exact ⟨by rw [← hq]; rfl, rfl⟩
        by_cases hn : n < 1
        · have hqt : q = true := by rw [← hq]; simp [hn]
          subst hqt
          clear hq
          go_wp2_with fail
          go_meet
          exact ⟨rfl, rfl⟩
        by_cases hk : 7 < k
        · have hqt : q = true := by rw [← hq]; simp [hk]
          subst hqt
          clear hq
          go_wp2_with fail
          go_meet
          exact ⟨rfl, rfl⟩
        by_cases hm : m = 0
        · subst hm
          have hqt : q = true := by rw [← hq]; simp
          subst hqt
          clear hq
          go_wp2_with fail
          go_meet
          exact ⟨rfl, rfl⟩
        · have hqt : q = false := by rw [← hq]; simp [hn, hk, hm]
          subst hqt
          have hm2 : ((m : Int) == 0) = false := by rw [beq_eq_false_iff_ne]; omega
          clear hq hm
          go_wp2_with fail
          go_meet
          exact ⟨rfl, rfl⟩
      case rest =>
        obtain ⟨rfl, rfl⟩ := hcut
        generalize wc = w7 at *
        clear hq
        cases q
        · have HMg := hid (HQ.out.2 rfl)
          clear HQ
          obtain ⟨x0, x1, x2, x3, x4, x5, x6, x7⟩ := blk8 HBc.out
          have y7 := (HBc.out.ext ((Ext.refl w7).alloc (.cells #[] 62))).cell_some (i := 7) rfl
          have HArm1 : Hid (∀ (v5 : Value) (w5 : World), w5.ownsRow g 62 3 v5 (0 + qs.length) ([] ++ qs.flatMap wtC) → (w7.alloc (.cells #[] 62)).grownBy w5 (Value.slice (some ⟨w7.heap.size, 0, none⟩) 0 0).ownBlock → (v5.ownBlock = (Value.slice (some ⟨w7.heap.size, 0, none⟩) 0 0).ownBlock ∨ v5.ownBlock = some (w7.alloc (.cells #[] 62)).heap.size) →
              ∃ A5 c5, v5 = .slice A5 qs.length c5 ∧ w5.ownsRow g 62 3 (.slice A5 qs.length c5) qs.length (qs.flatMap wtC) ∧ Ext w7 w5 ∧ ∀ k, (Value.slice A5 qs.length c5).ownBlock = some k → w7.heap.size ≤ k) := fun v5 w5 hown hgr hbk => by
            rw [Nat.zero_add, List.nil_append] at hown
            obtain ⟨A5, c5, rfl⟩ := own_slice hown
            refine ⟨A5, c5, rfl, hown, Ext.grown ((Ext.refl w7).alloc _) hgr fun k hk => by simp [Value.ownBlock] at hk; omega, fun k hk => ?_⟩
            rcases hbk with h | h
            · rw [hk] at h
              simp [Value.ownBlock] at h
              omega
            · rw [hk] at h
              simp at h
              omega
          have HArm2 : Hid (∀ (A5 : Option Addr) (c5 : Nat) (w5 : World), w5.ownsRow g 62 3 (.slice A5 qs.length c5) qs.length (qs.flatMap wtC) → Ext w7 w5 → (∀ k, (Value.slice A5 qs.length c5).ownBlock = some k → w7.heap.size ≤ k) →
              ∀ (v6 : Value) (w6 : World), w6.ownsRow g 62 3 v6 (qs.length + 1) (qs.flatMap wtC ++ [.int .i64 n, .int .i64 k, .slice Av acc.length cv]) → (w5.alloc (.cells #[.int .i64 n, .int .i64 k, .slice Av acc.length cv] 62)).grownBy w6 (Value.slice A5 qs.length c5).ownBlock → (v6.ownBlock = (Value.slice A5 qs.length c5).ownBlock ∨ v6.ownBlock = some (w5.alloc (.cells #[.int .i64 n, .int .i64 k, .slice Av acc.length cv] 62)).heap.size) →
              ∃ A6 c6, v6 = .slice A6 (qs.length + 1) c6 ∧ w6.ownsRow g 62 3 (.slice A6 (qs.length + 1) c6) (qs.length + 1) (qs.flatMap wtC ++ [.int .i64 n, .int .i64 k, .slice Av acc.length cv]) ∧ Ext w7 w6 ∧ (∀ k, (Value.slice A6 (qs.length + 1) c6).ownBlock = some k → w7.heap.size ≤ k) ∧ w6.cell? ⟨g, 7, none⟩ = some (.slice A2 qs.length c2) ∧ w6.frozen? ⟨g, 7, none⟩ = false) := fun A5 c5 w5 ho hx hge v6 w6 hown hgr hbk => by
            obtain ⟨A6, c6, rfl⟩ := own_slice hown
            have hx6 : Ext w7 w6 := Ext.grown (hx.alloc _) hgr hge
            have hb := HBc.out.ext hx6
            refine ⟨A6, c6, rfl, hown, hx6, fun k hk => ?_, hb.cell_some rfl, hb.frozen 7⟩
            rcases hbk with h | h
            · exact hge k (h.symm.trans hk)
            · rw [hk] at h
              have := hx.size
              simp at h
              omega
          go_upto_region 16 with (at_builtin; first
            | (refine wpList_append_any _ rfl (.tmp 105) (.tmp 110) 34 rfl g 62 iw _ 3 40 Tryz.underlying34 hiw hw0 hw1 hw2 rfl (by decide) _ qs.length _ rfl (HO5.out.alloc _) _ _ 1 1 [.int .i64 n, .int .i64 k, .slice Av acc.length cv] rfl (reads_new3 _ _ _ _ _) (by simp [Value.oneCell']) (by have := HL2.out; unfold maxLen; omega) (by have := HL2.out; omega) (by have := HX5.out.size; have := HLe.out; simp; omega) ?_; intro v6 w6' hown6 hgr6 hblk6; obtain ⟨A6, c6, hv6, ho6, hx6, hge6, z6, f6⟩ := HArm2.out _ _ _ HO5.out HX5.out HGe5.out _ _ hown6 hgr6 hblk6; subst hv6)
            | (refine wpList_append_any _ rfl (.tmp 102) (.tmp 104) 34 rfl g 62 iw _ 3 40 Tryz.underlying34 hiw hw0 hw1 hw2 rfl (by decide) _ 0 _ rfl (own_empty w7 g _ 3 HLe.out) _ _ qs.length _ (qs.flatMap wtC) rfl (Reads.of_own (HOc.out.alloc _)) HU2.out (by have := HL2.out; unfold maxLen; omega) (by have := HL2.out; omega) (by have := HLe.out; simp; omega) ?_; intro v5 w5' hown5 hgr5 hblk5; obtain ⟨A5, c5, hv5, ho5, hx5, hge5⟩ := HArm1.out _ _ hown5 hgr5 hblk5; subst hv5; have HO5 := hid ho5; have HX5 := hid hx5; have HGe5 := hid hge5; clear hown5 hgr5 hblk5 ho5 hx5 hge5))
          have HB6 : Hid (Blk (w6'.setCell ⟨g, 7, none⟩ (.slice A6 (qs.length + 1) c6)) g 36 [.int .i64 2, .int .i64 ss, .int .i64 tx, .int .i64 st, .int .i64 er, .int .i64 ct, .slice A1 rs.length c1, .slice A6 (qs.length + 1) c6]) := (HBc.out.ext hx6).set 7 (.slice A6 (qs.length + 1) c6)
          have HB7 := hid ((HBd.out.ext hx6).far (p := ⟨g, 7, none⟩) (by simp) (.slice A6 (qs.length + 1) c6))
          have hX7 : Ext w (w6'.setCell ⟨g, 7, none⟩ (.slice A6 (qs.length + 1) c6)) := (HXc.out.trans hx6).setCell (by have := HG.out; show w.heap.size ≤ g; omega) _
          have HX7 := hid hX7
          have hdg : g + 1 < w7.heap.size := HBd.out.lt
          have hOw6 : (w6'.setCell ⟨g, 7, none⟩ (.slice A6 (qs.length + 1) c6)).ownsRow g 62 3 (.slice A6 (qs.length + 1) c6) (qs.length + 1) (qs.flatMap wtC ++ wtC (⟨n, k, acc⟩, .slice Av acc.length cv)) := own_far ho6 (fun h => by have := hge6 g h; omega) 7 _
          have HO6 := hid hOw6
          have hne : (Value.slice Av acc.length cv).ownBlock ≠ some g ∧ (Value.slice Av acc.length cv).ownBlock ≠ some (g + 1) ∧ (∀ k, (Value.slice Av acc.length cv).ownBlock = some k → k < w7.heap.size) := by
            refine ⟨fun h => ?_, fun h => ?_, fun k h => own_lt HOw.out h⟩
            · have := (hown0.out.lt g h).1
              have := HGb.out
              omega
            · have := (hown0.out.lt _ h).1
              have := HGb.out
              omega
          have HNe := hid hne
          have hOv6 : (w6'.setCell ⟨g, 7, none⟩ (.slice A6 (qs.length + 1) c6)).ownsRow g 88 3 (.slice Av acc.length cv) acc.length (valcs acc) := own_far (ownN_ext HOw.out hx6) hne.1 7 _
          have HOv6 := hid hOv6
          have HGe := hid hge6
          have HDg := hid hdg
          clear hX7 hdg hOw6 hne hOv6 hge6 ho6 hx6 hown6 hgr6 hblk6 z6 f6 HO5 HX5 HGe5 HArm1 HArm2 HBc HBd HOc HXc HOw hown0 y7
          generalize w6'.setCell ⟨g, 7, none⟩ (.slice A6 (qs.length + 1) c6) = W7 at *
          obtain ⟨x0, x1, x2, x3, x4, x5, x6, x7⟩ := blk8 HB6.out
          obtain ⟨o0, o1, o2, o3, o4, o5, o6, o7⟩ := blk8 HB7.out
          have f0 := (HB7.out).frozen 0
          have f1 := (HB7.out).frozen 1
          have f2 := (HB7.out).frozen 2
          have f3 := (HB7.out).frozen 3
          have f4 := (HB7.out).frozen 4
          have f5 := (HB7.out).frozen 5
          have f6 := (HB7.out).frozen 6
          have f7 := (HB7.out).frozen 7
          go_wp2_with fail
          obtain ⟨q0, q1, q2, q3, q4, q5, q6, q7⟩ := blk8 (blk8s HB7.out (.int .i64 2) (.int .i64 ss) (.int .i64 tx) (.int .i64 st) (.int .i64 er) (.int .i64 ct) (.slice A1 rs.length c1) (.slice A6 (qs.length + 1) c6))
          exact bodyPost_ret (v := .tuple #[.agg #[.int .i64 2, .int .i64 ss, .int .i64 tx, .int .i64 st, .int .i64 er, .int .i64 ct, .slice A1 rs.length c1, .slice A6 (qs.length + 1) c6], .bool true]) (by simp [results, Tryz.results38, go_sem, q0, q1, q2, q3, q4, q5, q6, q7]) rfl ⟨⟨addW e ⟨n, k, acc⟩, A1, _, c1, A6, _, c6, true, by rw [show evV (addW e ⟨n, k, acc⟩) (.slice A1 rs.length c1) (.slice A6 (qs.length + 1) c6) = _ from HEV.out _ _], .inr ⟨rfl, HMg.out, .inr ⟨⟨n, k, acc⟩, .slice Av acc.length cv, rfl, rfl, HK.out, own_far8 HOv6.out HNe.out.2.1 _ _ _ _ _ _ _ _, own_far8 HO6.out (fun h => by have := HGe.out _ h; have := HDg.out; omega) _ _ _ _ _ _ _ _, fun k hk h => by have := HGe.out k h; have := HNe.out.2.2 k hk; omega⟩⟩⟩, ext8s HX7.out (by have := HG.out; omega) _ _ _ _ _ _ _ _⟩
        · have HMb := hid (HQ.out.1 rfl)
          clear HQ
          obtain ⟨x0, x1, x2, x3, x4, x5, x6, x7⟩ := blk8 HBc.out
          obtain ⟨o0, o1, o2, o3, o4, o5, o6, o7⟩ := blk8 HBd.out
          have f0 := (HBd.out).frozen 0
          have f1 := (HBd.out).frozen 1
          have f2 := (HBd.out).frozen 2
          have f3 := (HBd.out).frozen 3
          have f4 := (HBd.out).frozen 4
          have f5 := (HBd.out).frozen 5
          have f6 := (HBd.out).frozen 6
          have f7 := (HBd.out).frozen 7
          go_wp2_with fail
          obtain ⟨q0, q1, q2, q3, q4, q5, q6, q7⟩ := blk8 (blk8s HBd.out (.int .i64 2) (.int .i64 ss) (.int .i64 tx) (.int .i64 st) (.int .i64 er) (.int .i64 ct) (.slice A1 rs.length c1) (.slice A2 qs.length c2))
          exact bodyPost_ret (v := .tuple #[.agg #[.int .i64 2, .int .i64 ss, .int .i64 tx, .int .i64 st, .int .i64 er, .int .i64 ct, .slice A1 rs.length c1, .slice A2 qs.length c2], .bool false]) (by simp [results, Tryz.results38, go_sem, q0, q1, q2, q3, q4, q5, q6, q7]) rfl ⟨⟨e, A1, _, c1, A2, _, c2, false, by rw [HEV.out], .inl ⟨rfl, HMb.out⟩⟩, ext8s HXc.out (by have := HG.out; omega) _ _ _ _ _ _ _ _⟩
    · have hM : M = none := HP2.out (fun h => hrow ⟨HW1.out.2 h.1, HK.out.symm.trans h.2⟩) (by
        by_cases h : X1.data.toList = forW
        · exact .inr fun h2 => hfor ⟨HW2.out.2 h, HK.out.symm.trans h2⟩
        · exact .inl h)
      have HM := hid hM
      have h4 : b1 = true → (kd == 4) = false := fun h => beq_eq_false_iff_ne.2 fun h2 => hrow ⟨h, h2⟩
      have h2 : b2 = true → (kd != 2) = true := fun h => bne_iff_ne.2 fun h2 => hfor ⟨h, h2⟩
      clear hrow hfor hM HP1 HP2 HP3 HC2 HC3 HN2 HN3 HR1 HR3 HW1 HW2
      obtain ⟨o0, o1, o2, o3, o4, o5, o6, o7⟩ := blk8 HBb.out
      have f0 := (HBb.out).frozen 0
      have f1 := (HBb.out).frozen 1
      have f2 := (HBb.out).frozen 2
      have f3 := (HBb.out).frozen 3
      have f4 := (HBb.out).frozen 4
      have f5 := (HBb.out).frozen 5
      have f6 := (HBb.out).frozen 6
      have f7 := (HBb.out).frozen 7
      cases b1
      · cases b2
        all_goals
          try have h2 := h2 rfl
          clear h4
          go_wp2_with fail
          obtain ⟨q0, q1, q2, q3, q4, q5, q6, q7⟩ := blk8 (blk8s HBb.out (.int .i64 kd) (.int .i64 ss) (.int .i64 tx) (.int .i64 st) (.int .i64 er) (.int .i64 ct) (.slice A1 rs.length c1) (.slice A2 qs.length c2))
          exact bodyPost_ret (v := .tuple #[.agg #[.int .i64 kd, .int .i64 ss, .int .i64 tx, .int .i64 st, .int .i64 er, .int .i64 ct, .slice A1 rs.length c1, .slice A2 qs.length c2], .bool false]) (by simp [results, Tryz.results38, go_sem, q0, q1, q2, q3, q4, q5, q6, q7]) rfl ⟨⟨e, A1, _, c1, A2, _, c2, false, by rw [HEV.out], .inl ⟨rfl, HM.out⟩⟩, ext8s HXa.out (by have := HG.out; omega) _ _ _ _ _ _ _ _⟩
      · have h4 := h4 rfl
        cases b2
        all_goals
          try have h2 := h2 rfl
          go_wp2_with fail
          obtain ⟨q0, q1, q2, q3, q4, q5, q6, q7⟩ := blk8 (blk8s HBb.out (.int .i64 kd) (.int .i64 ss) (.int .i64 tx) (.int .i64 st) (.int .i64 er) (.int .i64 ct) (.slice A1 rs.length c1) (.slice A2 qs.length c2))
          exact bodyPost_ret (v := .tuple #[.agg #[.int .i64 kd, .int .i64 ss, .int .i64 tx, .int .i64 st, .int .i64 er, .int .i64 ct, .slice A1 rs.length c1, .slice A2 qs.length c2], .bool false]) (by simp [results, Tryz.results38, go_sem, q0, q1, q2, q3, q4, q5, q6, q7]) rfl ⟨⟨e, A1, _, c1, A2, _, c2, false, by rw [HEV.out], .inl ⟨rfl, HM.out⟩⟩, ext8s HXa.out (by have := HG.out; omega) _ _ _ _ _ _ _ _⟩
end Go.Proofs.YtdjdhkbomhendaaGreatDoor
