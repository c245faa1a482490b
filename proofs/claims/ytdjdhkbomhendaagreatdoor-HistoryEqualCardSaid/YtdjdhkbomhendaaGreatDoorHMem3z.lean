/-
  A history under way in memory: the row of events is the call's own, the lists of the last event too; all else stays.
-/
import Derived.Test.YtdjdhkbomhendaaGreatDoorGg
import Derived.Test.YtdjdhkbomhendaaGreatDoorGm
import Derived.Test.YtdjdhkbomhendaaGreatDoorApp
import Derived.Laws.OwnMore
namespace Go.Proofs.YtdjdhkbomhendaaGreatDoor
open Go.RowKit
set_option linter.unusedVariables false
set_option linter.unusedSimpArgs false
set_option maxHeartbeats 400000

def evC (p : Ev × Value × Value) : List Value := [.int .i64 p.1.kd, .int .i64 p.1.ss, .int .i64 p.1.tx, .int .i64 p.1.st, .int .i64 p.1.er, .int .i64 p.1.ct, p.2.1, p.2.2]
def wtC (p : Wt × Value) : List Value := [.int .i64 p.1.tx, .int .i64 p.1.tb, p.2]
def rwC (p : List Val × Value) : List Value := [p.2]
/-- what lies behind B, but not the blocks of three rows -/
def Rest (B : Nat) (v vr vw : Value) (k : Nat) : Prop := B ≤ k ∧ v.ownBlock ≠ some k ∧ vr.ownBlock ≠ some k ∧ vw.ownBlock ≠ some k
structure EvsL (B : Nat) (w : World) (v : Value) (ps : List (Ev × Value × Value)) (e : Ev) (vr vw : Value) (rs : List (List Val × Value)) (qs : List (Wt × Value)) : Prop where
  own : w.ownsRow B 36 8 v (ps.length + 1) (ps.flatMap evC ++ evC (e, vr, vw))
  ownR : w.ownsRow B 60 1 vr rs.length (rs.flatMap rwC)
  ownW : w.ownsRow B 62 3 vw qs.length (qs.flatMap wtC)
  eR : rs.map Prod.fst = e.rows
  eW : qs.map Prod.fst = e.wts
  d1 : ∀ g, v.ownBlock = some g → vr.ownBlock ≠ some g ∧ vw.ownBlock ≠ some g
  d2 : ∀ g, vr.ownBlock = some g → vw.ownBlock ≠ some g
  kE : ∀ p ∈ ps, Kp (Rest B v vr vw) w fun w2 => RsAt w2 p.2.1 p.1.rows ∧ WsAt w2 p.2.2 p.1.wts
  kR : ∀ p ∈ rs, Kp (Rest B v vr vw) w fun w2 => RowAt w2 p.2 p.1
  kW : ∀ p ∈ qs, Kp (Rest B v vr vw) w fun w2 => RowAt w2 p.2 p.1.row
theorem EvsL.ext {B : Nat} {w w' : World} {v : Value} {ps : List (Ev × Value × Value)} {e : Ev} {vr vw : Value} {rs : List (List Val × Value)} {qs : List (Wt × Value)} (h : EvsL B w v ps e vr vw rs qs) (hx : Ext w w') : EvsL B w' v ps e vr vw rs qs :=
  ⟨own_same h.own fun g hg => Below.block hx g (h.own.lt g hg).2, own_same h.ownR fun g hg => Below.block hx g (h.ownR.lt g hg).2, own_same h.ownW fun g hg => Below.block hx g (h.ownW.lt g hg).2, h.eR, h.eW, h.d1, h.d2,
    fun p hp => (h.kE p hp).ext hx, fun p hp => (h.kR p hp).ext hx, fun p hp => (h.kW p hp).ext hx⟩
theorem rs_at {w : World} {B : Nat} {v : Value} {rs : List (List Val × Value)} (h : w.ownsRow B 60 1 v rs.length (rs.flatMap rwC)) (hk : ∀ p ∈ rs, RowAt w p.2 p.1) : RsAt w v (rs.map Prod.fst) := by
  obtain ⟨A, c, rfl⟩ := own_slice h
  refine ⟨A, c, by rw [List.length_map], fun i r hr => ?_⟩
  rw [List.getElem?_map] at hr
  obtain ⟨p, hp, rfl⟩ := Option.map_eq_some_iff.1 hr
  have hg := flat_get rwC 1 (fun _ => rfl) rs i 0 p hp (by omega)
  obtain ⟨g, c', e0, h0⟩ := own_cell h hg
  injection e0 with e0 _ _
  subst e0
  exact ⟨g, 0, p.2, rfl, by simpa using h0, hk p (List.mem_of_getElem? hp)⟩
theorem ws_at {w : World} {B : Nat} {v : Value} {qs : List (Wt × Value)} (h : w.ownsRow B 62 3 v qs.length (qs.flatMap wtC)) (hk : ∀ p ∈ qs, RowAt w p.2 p.1.row) : WsAt w v (qs.map Prod.fst) := by
  obtain ⟨A, c, rfl⟩ := own_slice h
  refine ⟨A, c, by rw [List.length_map], fun i r hr => ?_⟩
  rw [List.getElem?_map] at hr
  obtain ⟨p, hp, rfl⟩ := Option.map_eq_some_iff.1 hr
  have get : ∀ j, j < 3 → (qs.flatMap wtC)[i * 3 + j]? = (wtC p)[j]? := fun j hj => flat_get wtC 3 (fun _ => rfl) qs i j p hp hj
  obtain ⟨g, c0, e0, h0⟩ := own_cell h (j := i * 3 + 0) (get 0 (by omega))
  obtain ⟨g1, c1, e1, h1⟩ := own_cell h (j := i * 3 + 1) (get 1 (by omega))
  obtain ⟨g2, c2, e2, h2⟩ := own_cell h (j := i * 3 + 2) (get 2 (by omega))
  injection e0 with e0 _ _
  injection e1 with e1 _ _
  injection e2 with e2 _ _
  subst e0
  simp only [Option.some.injEq, Addr.mk.injEq, and_true] at e1 e2
  subst e1 e2
  exact ⟨g, 0, p.2, rfl, by simpa using h0, by simpa using h1, by simpa using h2, hk p (List.mem_of_getElem? hp)⟩
theorem evs_at {w : World} {B : Nat} {v : Value} {ps : List (Ev × Value × Value)} (h : w.ownsRow B 36 8 v ps.length (ps.flatMap evC)) (hk : ∀ p ∈ ps, RsAt w p.2.1 p.1.rows ∧ WsAt w p.2.2 p.1.wts) : ∃ A c, v = .slice A ps.length c ∧ EvsAt w A (ps.map Prod.fst) := by
  obtain ⟨A, c, rfl⟩ := own_slice h
  refine ⟨A, c, rfl, fun i r hr => ?_⟩
  rw [List.getElem?_map] at hr
  obtain ⟨p, hp, rfl⟩ := Option.map_eq_some_iff.1 hr
  have get : ∀ j, j < 8 → (ps.flatMap evC)[i * 8 + j]? = (evC p)[j]? := fun j hj => flat_get evC 8 (fun _ => rfl) ps i j p hp hj
  obtain ⟨g, c0, e0, h0⟩ := own_cell h (j := i * 8 + 0) (get 0 (by omega))
  injection e0 with e0 _ _
  subst e0
  have one : ∀ j, j < 8 → ∀ u, (evC p)[j]? = some u → w.cell? ⟨g, 0 + i * 8 + j, none⟩ = some u := fun j hj u hu => by
    obtain ⟨g1, c1, e1, h1⟩ := own_cell h (j := i * 8 + j) ((get j hj).trans hu)
    injection e1 with e1 _ _
    simp only [Option.some.injEq, Addr.mk.injEq, and_true] at e1
    subst e1
    simpa using h1
  obtain ⟨k1, k2⟩ := hk p (List.mem_of_getElem? hp)
  exact ⟨g, 0, p.2.1, p.2.2, rfl, one 0 (by omega) _ rfl, one 1 (by omega) _ rfl, one 2 (by omega) _ rfl, one 3 (by omega) _ rfl, one 4 (by omega) _ rfl, one 5 (by omega) _ rfl, one 6 (by omega) _ rfl, one 7 (by omega) _ rfl, k1, k2⟩
section
variable {B : Nat} {w w' : World} {v : Value} {ps : List (Ev × Value × Value)} {e : Ev} {vr vw : Value} {rs : List (List Val × Value)} {qs : List (Wt × Value)}
/-- all events stay but for the row of events -/
theorem EvsL.all (h : EvsL B w v ps e vr vw rs qs) : ∀ p ∈ ps ++ [(e, vr, vw)], Kp (UpBut B v) w fun w2 => RsAt w2 p.2.1 p.1.rows ∧ WsAt w2 p.2.2 p.1.wts := by
  intro p hp
  rcases List.mem_append.1 hp with hp | hp
  · exact (h.kE p hp).sub fun k _ hk => ⟨hk.1, fun e => hk.2.1 e.symm⟩
  · obtain rfl := List.mem_singleton.1 hp
    intro w2 h2
    have hR := own_same (w2 := w2) h.ownR fun g hg => h2 g (h.ownR.lt g hg).2 ⟨(h.ownR.lt g hg).1, fun e => (h.d1 g e.symm).1 hg⟩
    have hW := own_same (w2 := w2) h.ownW fun g hg => h2 g (h.ownW.lt g hg).2 ⟨(h.ownW.lt g hg).1, fun e => (h.d1 g e.symm).2 hg⟩
    dsimp only
    rw [← h.eR, ← h.eW]
    exact ⟨rs_at hR fun p hp => (h.kR p hp).at fun k h1 h3 => h2 k h1 ⟨h3.1, fun e => h3.2.1 e.symm⟩, ws_at hW fun p hp => (h.kW p hp).at fun k h1 h3 => h2 k h1 ⟨h3.1, fun e => h3.2.1 e.symm⟩⟩
theorem EvsL.own' (h : EvsL B w v ps e vr vw rs qs) : w.ownsRow B 36 8 v (ps ++ [(e, vr, vw)]).length ((ps ++ [(e, vr, vw)]).flatMap evC) := by
  have := h.own
  rw [List.length_append, List.length_singleton, List.flatMap_append]
  simpa using this
/-- a history under way -/
def EvsO (B : Nat) (w : World) (v : Value) (l : List Ev) : Prop :=
  (l = [] ∧ w.ownsRow B 36 8 v 0 []) ∨ ∃ ps e vr vw rs qs, l = ps.map Prod.fst ++ [e] ∧ EvsL B w v ps e vr vw rs qs
theorem EvsO.ext {l : List Ev} (h : EvsO B w v l) (hx : Ext w w') : EvsO B w' v l := by
  rcases h with ⟨h1, h2⟩ | ⟨ps, e, vr, vw, rs, qs, h1, h2⟩
  · exact .inl ⟨h1, own_same h2 fun g hg => Below.block hx g (h2.lt g hg).2⟩
  · exact .inr ⟨ps, e, vr, vw, rs, qs, h1, h2.ext hx⟩
/-- the rows of a history under way, whatever its length -/
theorem EvsO.open {l : List Ev} (h : EvsO B w v l) : ∃ ps : List (Ev × Value × Value), l = ps.map Prod.fst ∧ w.ownsRow B 36 8 v l.length (ps.flatMap evC) ∧
    ∀ p ∈ ps, Kp (UpBut B v) w fun w2 => RsAt w2 p.2.1 p.1.rows ∧ WsAt w2 p.2.2 p.1.wts := by
  rcases h with ⟨rfl, h2⟩ | ⟨ps, e, vr, vw, rs, qs, rfl, h2⟩
  · exact ⟨[], rfl, h2, fun p hp => by cases hp⟩
  · refine ⟨ps ++ [(e, vr, vw)], by simp, ?_, h2.all⟩
    have := h2.own'
    simpa using this
theorem EvsO.at_ {l : List Ev} (h : EvsO B w v l) : ∃ A c, v = .slice A l.length c ∧ EvsAt w A l := by
  obtain ⟨ps, rfl, h2, h3⟩ := h.open
  rw [List.length_map] at h2 ⊢
  exact evs_at h2 fun p hp => (h3 p hp).here
/-- a new event behind the others -/
theorem EvsO.push {l : List Ev} {e : Ev} {v' : Value} {xs : List Value} (h : EvsO B w v l) (hr : e.rows = []) (hw : e.wts = [])
    (hxs : w.ownsRow B 36 8 v l.length xs) (hown : w'.ownsRow B 36 8 v' (l.length + 1) (xs ++ evC (e, .slice none 0 0, .slice none 0 0))) (hg : w.grownBy w' v.ownBlock) (hb : v'.ownBlock = v.ownBlock ∨ v'.ownBlock = some w.heap.size) :
    EvsO B w' v' (l ++ [e]) := by
  obtain ⟨ps, rfl, h2, h3⟩ := h.open
  have hx : xs = ps.flatMap evC := by
    rcases hxs.2 with ⟨rfl, h0⟩ | ⟨g, cap, cur, rfl, _, hh, _, _, _, ht⟩
    · have e1 := hxs.1
      have e2 := h2.1
      rw [h0, Nat.zero_mul] at e1 e2
      rw [List.eq_nil_of_length_eq_zero e1, List.eq_nil_of_length_eq_zero e2]
    · rcases h2.2 with ⟨h0, _⟩ | ⟨g2, cap2, cur2, hv2, _, hh2, _, _, _, ht2⟩
      · cases h0
      · simp only [Value.slice.injEq, Option.some.injEq, Addr.mk.injEq, and_true, true_and] at hv2
        obtain ⟨rfl, rfl⟩ := hv2
        rw [hh] at hh2
        simp only [Option.some.injEq, Obj.cells.injEq, and_true] at hh2
        subst hh2
        exact ht.symm.trans ht2
  subst hx
  refine .inr ⟨ps, e, .slice none 0 0, .slice none 0 0, [], [], rfl, ?_⟩
  refine ⟨by rw [List.length_map] at hown; exact hown, World.ownsRow_nil _ _ _ _, World.ownsRow_nil _ _ _ _, by rw [hr]; rfl, by rw [hw]; rfl, fun g _ => ⟨by simp [Value.ownBlock], by simp [Value.ownBlock]⟩, fun g hg => by simp [Value.ownBlock] at hg, fun p hp => ?_, fun p hp => (by cases hp), fun p hp => (by cases hp)⟩
  refine (h3 p hp).mono hg.size (fun k hk hu => ⟨hu.1, ?_, by simp [Value.ownBlock], by simp [Value.ownBlock]⟩) fun k hk hu => hg.block k hk hu.2
  intro hv
  rcases hb with hb | hb
  · rw [hb] at hv; exact hu.2 hv.symm
  · rw [hb] at hv; have := Option.some.inj hv; omega
theorem own_kpS {S : Nat → Prop} {e sz n : Nat} {xs : List Value} (h : w.ownsRow B e sz v n xs) (hS : ∀ g, v.ownBlock = some g → S g) {P : World → Prop} (hP : ∀ w2 : World, w2.ownsRow B e sz v n xs → P w2) : Kp S w P :=
  fun w2 h2 => hP w2 (own_same h fun g hg => h2 g (h.lt g hg).2 (hS g hg))
/-- the last event changed -/
theorem EvsL.upd (h : EvsL B w v ps e vr vw rs qs) {e' : Ev} {vr' vw' : Value} {rs' : List (List Val × Value)} {qs' : List (Wt × Value)}
    (ho : w'.ownsRow B 36 8 v (ps.length + 1) (ps.flatMap evC ++ evC (e', vr', vw')))
    (hR : w'.ownsRow B 60 1 vr' rs'.length (rs'.flatMap rwC)) (hW : w'.ownsRow B 62 3 vw' qs'.length (qs'.flatMap wtC)) (eR : rs'.map Prod.fst = e'.rows) (eW : qs'.map Prod.fst = e'.wts)
    (hs : w.heap.size ≤ w'.heap.size) (hk : ∀ k, k < w.heap.size → Rest B v vr vw k → w'.heap[k]? = w.heap[k]?)
    (fr : ∀ k, vr'.ownBlock = some k → vr.ownBlock = some k ∨ w.heap.size ≤ k) (fw : ∀ k, vw'.ownBlock = some k → vw.ownBlock = some k ∨ w.heap.size ≤ k)
    (hd : vr' = vr ∨ vw' = vw)
    (nR : ∀ p ∈ rs', p ∈ rs ∨ Kp (Rest B v vr' vw') w' fun w2 => RowAt w2 p.2 p.1) (nW : ∀ p ∈ qs', p ∈ qs ∨ Kp (Rest B v vr' vw') w' fun w2 => RowAt w2 p.2 p.1.row) : EvsL B w' v ps e' vr' vw' rs' qs' := by
  have hS : ∀ k, k < w.heap.size → Rest B v vr vw k → Rest B v vr' vw' k := fun k hk hr => ⟨hr.1, hr.2.1, fun e => by rcases fr k e with h1 | h1; exact hr.2.2.1 h1; omega, fun e => by rcases fw k e with h1 | h1; exact hr.2.2.2 h1; omega⟩
  have up : ∀ {P : World → Prop}, Kp (Rest B v vr vw) w P → Kp (Rest B v vr' vw') w' P := fun hp => hp.mono hs hS hk
  refine ⟨ho, hR, hW, eR, eW, fun g hg => ?_, fun g hg hg2 => ?_, fun p hp => up (h.kE p hp), fun p hp => ?_, fun p hp => ?_⟩
  · have hl := (h.own.lt g hg).2
    obtain ⟨d1, d2⟩ := h.d1 g hg
    exact ⟨fun e => by rcases fr g e with h1 | h1; exact d1 h1; omega, fun e => by rcases fw g e with h1 | h1; exact d2 h1; omega⟩
  · rcases hd with hd | hd
    · subst hd
      have hl := (h.ownR.lt g hg).2
      rcases fw g hg2 with h1 | h1
      · exact h.d2 g hg h1
      · omega
    · subst hd
      have hl := (h.ownW.lt g hg2).2
      rcases fr g hg with h1 | h1
      · exact h.d2 g h1 hg2
      · omega
  · rcases nR p hp with h1 | h1
    · exact up (h.kR p h1)
    · exact h1
  · rcases nW p hp with h1 | h1
    · exact up (h.kW p h1)
    · exact h1
theorem set_last {α : Type} (l : List α) (j : Nat) (xs : List Value) (f : α → List Value) (n : Nat) (hf : ∀ a, (f a).length = n) (u : Value) : (l.flatMap f ++ xs).set (l.length * n + j) u = l.flatMap f ++ xs.set j u := by
  have := flat_len f n hf l
  rw [List.set_append_right _ _ (by omega), this, Nat.add_sub_cancel_left]
theorem own_fresh {B g n c sz : Nat} {T : TypeId} {xs : List Value} (hx : w.ownsRow B T sz (.slice (some ⟨g, 0, none⟩) n c) n xs) : B ≤ g ∧ g < w.heap.size := hx.lt g rfl
/-- a reason is appended in place: w1 the world after the append, then the store of the header -/
theorem EvsL.pushW {g n c : Nat} (h : EvsL B w (.slice (some ⟨g, 0, none⟩) n c) ps e vr vw rs qs) (hn : n = ps.length + 1) {w0 w1 : World} {x : Wt} {rv vw' : Value} {B1 : Nat} (hx : Ext w w0)
    (hrow : w0.ownsRow B1 88 3 rv x.row.length (valcs x.row)) (hB1 : w.heap.size ≤ B1)
    (hown : w1.ownsRow B 62 3 vw' (qs.length + 1) (qs.flatMap wtC ++ wtC (x, rv))) (hg : w0.grownBy w1 vw.ownBlock) (hb : vw'.ownBlock = vw.ownBlock ∨ vw'.ownBlock = some w0.heap.size) :
    EvsL B (w1.setCell ⟨g, ps.length * 8 + 7, none⟩ vw') (.slice (some ⟨g, 0, none⟩) n c) ps { e with wts := e.wts ++ [x] } vr vw' rs (qs ++ [(x, rv)]) := by
  subst hn
  obtain ⟨hgB, hgl⟩ := own_fresh h.own
  obtain ⟨dr, dw⟩ := h.d1 g rfl
  have hs0 := hx.size
  have hs1 := hg.size
  have own0 := own_same h.own fun k hk => Below.block hx k (h.own.lt k hk).2
  have own1 := own0.kept hg (.inr fun e => dw (by simpa [Value.ownBlock] using e.symm))
  have own2 := (own1.stored (ps.length * 8 + 7) vw').1
  rw [set_last ps 7 _ evC 8 (fun _ => rfl)] at own2
  have hvl : ∀ k, vw'.ownBlock = some k → vw.ownBlock = some k ∨ w.heap.size ≤ k := fun k hk => by
    rcases hb with hb | hb
    · exact .inl (hb ▸ hk)
    · rw [hb] at hk; have := Option.some.inj hk; exact .inr (by omega)
  have hng : vw'.ownBlock ≠ some g := fun hk => by
    rcases hvl g hk with h1 | h1
    · exact dw h1
    · omega
  have ownR0 := own_same h.ownR fun k hk => Below.block hx k (h.ownR.lt k hk).2
  have ownR1 := ownR0.kept hg (by
    rcases hv : vr.ownBlock with _ | k
    · exact .inl rfl
    · exact .inr fun e => h.d2 k hv e.symm)
  refine h.upd (w' := w1.setCell ⟨g, ps.length * 8 + 7, none⟩ vw') (e' := { e with wts := e.wts ++ [x] }) own2 (ownsRow_setCell_other ownR1 dr _) ?_ h.eR ?_ (by simp [World.size_setCell]; omega) (fun k hk hr => ?_) (fun k hk => .inl hk) hvl (.inl rfl) (fun p hp => .inl hp) fun p hp => ?_
  · have := ownsRow_setCell_other hown (a := ⟨g, ps.length * 8 + 7, none⟩) hng vw'
    simpa [List.flatMap_append] using this
  · rw [List.map_append, h.eW]
    rfl
  · have hkg : k ≠ g := fun e => hr.2.1 (by rw [e]; rfl)
    exact (Below.heap_setCell _ _ _ _ hkg).trans ((hg.block k (by omega) fun e => hr.2.2.2 e.symm).trans (Below.block hx k hk))
  · rcases List.mem_append.1 hp with hp | hp
    · exact .inl hp
    · obtain rfl := List.mem_singleton.1 hp
      right
      have hne1 : rv.ownBlock = none ∨ rv.ownBlock ≠ vw.ownBlock := by
        rcases hv : rv.ownBlock with _ | k
        · exact .inl rfl
        · right
          intro e
          have h1 := (hrow.lt k hv).1
          have h2 := (h.ownW.lt k e.symm).2
          omega
      have hne2 : rv.ownBlock ≠ some g := fun e => by have h1 := (hrow.lt g e).1; omega
      refine own_kpS (ownsRow_setCell_other (hrow.kept hg hne1) (a := ⟨g, ps.length * 8 + 7, none⟩) hne2 vw') (fun k hk => ?_) fun w2 h2 => own_row 88 h2
      obtain ⟨r1, r2⟩ := hrow.lt k hk
      refine ⟨by omega, fun e => ?_, fun e => ?_, fun e => ?_⟩
      · have : g = k := by simpa [Value.ownBlock] using e
        omega
      · have := (h.ownR.lt k e).2
        omega
      · rcases hb with hb | hb
        · rw [hb] at e
          have := (h.ownW.lt k e).2
          omega
        · rw [hb] at e
          have := Option.some.inj e
          omega
/-- a row is appended in place -/
theorem EvsL.pushR {g n c : Nat} (h : EvsL B w (.slice (some ⟨g, 0, none⟩) n c) ps e vr vw rs qs) (hn : n = ps.length + 1) {w0 w1 : World} {x : List Val} {rv vr' : Value} {B1 : Nat} (hx : Ext w w0)
    (hrow : w0.ownsRow B1 88 3 rv x.length (valcs x)) (hB1 : w.heap.size ≤ B1)
    (hown : w1.ownsRow B 60 1 vr' (rs.length + 1) (rs.flatMap rwC ++ rwC (x, rv))) (hg : w0.grownBy w1 vr.ownBlock) (hb : vr'.ownBlock = vr.ownBlock ∨ vr'.ownBlock = some w0.heap.size) :
    EvsL B (w1.setCell ⟨g, ps.length * 8 + 6, none⟩ vr') (.slice (some ⟨g, 0, none⟩) n c) ps { e with rows := e.rows ++ [x] } vr' vw (rs ++ [(x, rv)]) qs := by
  subst hn
  obtain ⟨hgB, hgl⟩ := own_fresh h.own
  obtain ⟨dr, dw⟩ := h.d1 g rfl
  have hs0 := hx.size
  have hs1 := hg.size
  have own0 := own_same h.own fun k hk => Below.block hx k (h.own.lt k hk).2
  have own1 := own0.kept hg (.inr fun e => dr (by simpa [Value.ownBlock] using e.symm))
  have own2 := (own1.stored (ps.length * 8 + 6) vr').1
  rw [set_last ps 6 _ evC 8 (fun _ => rfl)] at own2
  have hvl : ∀ k, vr'.ownBlock = some k → vr.ownBlock = some k ∨ w.heap.size ≤ k := fun k hk => by
    rcases hb with hb | hb
    · exact .inl (hb ▸ hk)
    · rw [hb] at hk; have := Option.some.inj hk; exact .inr (by omega)
  have hng : vr'.ownBlock ≠ some g := fun hk => by
    rcases hvl g hk with h1 | h1
    · exact dr h1
    · omega
  have ownW0 := own_same h.ownW fun k hk => Below.block hx k (h.ownW.lt k hk).2
  have ownW1 := ownW0.kept hg (by
    rcases hv : vw.ownBlock with _ | k
    · exact .inl rfl
    · exact .inr fun e => h.d2 k e.symm hv)
  refine h.upd (w' := w1.setCell ⟨g, ps.length * 8 + 6, none⟩ vr') (e' := { e with rows := e.rows ++ [x] }) own2 ?_ (ownsRow_setCell_other ownW1 dw _) ?_ h.eW (by simp [World.size_setCell]; omega) (fun k hk hr => ?_) hvl (fun k hk => .inl hk) (.inr rfl) (fun p hp => ?_) fun p hp => .inl hp
  · have := ownsRow_setCell_other hown (a := ⟨g, ps.length * 8 + 6, none⟩) hng vr'
    simpa [List.flatMap_append] using this
  · rw [List.map_append, h.eR]
    rfl
  · have hkg : k ≠ g := fun e => hr.2.1 (by rw [e]; rfl)
    exact (Below.heap_setCell _ _ _ _ hkg).trans ((hg.block k (by omega) fun e => hr.2.2.1 e.symm).trans (Below.block hx k hk))
  · rcases List.mem_append.1 hp with hp | hp
    · exact .inl hp
    · obtain rfl := List.mem_singleton.1 hp
      right
      have hne1 : rv.ownBlock = none ∨ rv.ownBlock ≠ vr.ownBlock := by
        rcases hv : rv.ownBlock with _ | k
        · exact .inl rfl
        · right
          intro e
          have h1 := (hrow.lt k hv).1
          have h2 := (h.ownR.lt k e.symm).2
          omega
      have hne2 : rv.ownBlock ≠ some g := fun e => by have h1 := (hrow.lt g e).1; omega
      refine own_kpS (ownsRow_setCell_other (hrow.kept hg hne1) (a := ⟨g, ps.length * 8 + 6, none⟩) hne2 vr') (fun k hk => ?_) fun w2 h2 => own_row 88 h2
      obtain ⟨r1, r2⟩ := hrow.lt k hk
      refine ⟨by omega, fun e => ?_, fun e => ?_, fun e => ?_⟩
      · have : g = k := by simpa [Value.ownBlock] using e
        omega
      · rcases hb with hb | hb
        · rw [hb] at e
          have := (h.ownR.lt k e).2
          omega
        · rw [hb] at e
          have := Option.some.inj e
          omega
      · have := (h.ownW.lt k e).2
        omega
/-- the last event replaced by one with a list of its own made anew -/
theorem EvsL.replW {g n c : Nat} (h : EvsL B w (.slice (some ⟨g, 0, none⟩) n c) ps e vr vw rs qs) {w0 : World} {x : Wt} {rv vw' : Value} {B1 B2 : Nat} (hx : Ext w w0)
    (hrow : w0.ownsRow B1 88 3 rv x.row.length (valcs x.row)) (hB1 : w.heap.size ≤ B1) (hown : w0.ownsRow B2 62 3 vw' (qs.length + 1) (qs.flatMap wtC ++ wtC (x, rv))) (hB2 : w.heap.size ≤ B2)
    (hdj : ∀ k, rv.ownBlock = some k → vw'.ownBlock ≠ some k) (hn : n = ps.length + 1)
    (ho : w'.ownsRow B 36 8 (.slice (some ⟨g, 0, none⟩) n c) (ps.length + 1) (ps.flatMap evC ++ evC ({ e with wts := e.wts ++ [x] }, vr, vw'))) (hg : w0.grownBy w' (some g)) :
    EvsL B w' (.slice (some ⟨g, 0, none⟩) n c) ps { e with wts := e.wts ++ [x] } vr vw' rs (qs ++ [(x, rv)]) := by
  subst hn
  obtain ⟨hgB, hgl⟩ := own_fresh h.own
  obtain ⟨dr, dw⟩ := h.d1 g rfl
  have hs0 := hx.size
  have hs1 := hg.size
  have hB : ∀ {B3 T sz m : Nat} {u : Value} {xs : List Value}, w0.ownsRow B3 T sz u m xs → w.heap.size ≤ B3 → w'.ownsRow B T sz u m xs := fun hu hb => own_base (hu.kept hg (by
    rcases hv : (_ : Value).ownBlock with _ | k
    · exact .inl rfl
    · right; intro e; have := (hu.lt k hv).1; have := Option.some.inj e; omega)) (by omega)
  have ownR0 := own_same h.ownR fun k hk => Below.block hx k (h.ownR.lt k hk).2
  have hown' := hB hown hB2
  refine h.upd (w' := w') (e' := { e with wts := e.wts ++ [x] }) ho (ownR0.kept hg (.inr dr)) ?_ h.eR ?_ (by omega) (fun k hk hr => ?_) (fun k hk => .inl hk) (fun k hk => .inr (by have := (hown.lt k hk).1; omega)) (.inl rfl) (fun p hp => .inl hp) fun p hp => ?_
  · simpa [List.flatMap_append] using hown'
  · rw [List.map_append, h.eW]
    rfl
  · exact (hg.block k (by omega) fun e => hr.2.1 e.symm).trans (Below.block hx k hk)
  · rcases List.mem_append.1 hp with hp | hp
    · exact .inl hp
    · obtain rfl := List.mem_singleton.1 hp
      right
      refine own_kpS (hB hrow hB1) (fun k hk => ?_) fun w2 h2 => own_row 88 h2
      obtain ⟨r1, r2⟩ := hrow.lt k hk
      refine ⟨by omega, fun e => ?_, fun e => ?_, hdj k hk⟩
      · have : g = k := by simpa [Value.ownBlock] using e
        omega
      · have := (h.ownR.lt k e).2
        omega
theorem EvsL.replR {g n c : Nat} (h : EvsL B w (.slice (some ⟨g, 0, none⟩) n c) ps e vr vw rs qs) {w0 : World} {x : List Val} {rv vr' : Value} {B1 B2 : Nat} (hx : Ext w w0)
    (hrow : w0.ownsRow B1 88 3 rv x.length (valcs x)) (hB1 : w.heap.size ≤ B1) (hown : w0.ownsRow B2 60 1 vr' (rs.length + 1) (rs.flatMap rwC ++ rwC (x, rv))) (hB2 : w.heap.size ≤ B2)
    (hdj : ∀ k, rv.ownBlock = some k → vr'.ownBlock ≠ some k) (hn : n = ps.length + 1)
    (ho : w'.ownsRow B 36 8 (.slice (some ⟨g, 0, none⟩) n c) (ps.length + 1) (ps.flatMap evC ++ evC ({ e with rows := e.rows ++ [x] }, vr', vw))) (hg : w0.grownBy w' (some g)) :
    EvsL B w' (.slice (some ⟨g, 0, none⟩) n c) ps { e with rows := e.rows ++ [x] } vr' vw (rs ++ [(x, rv)]) qs := by
  subst hn
  obtain ⟨hgB, hgl⟩ := own_fresh h.own
  obtain ⟨dr, dw⟩ := h.d1 g rfl
  have hs0 := hx.size
  have hs1 := hg.size
  have hB : ∀ {B3 T sz m : Nat} {u : Value} {xs : List Value}, w0.ownsRow B3 T sz u m xs → w.heap.size ≤ B3 → w'.ownsRow B T sz u m xs := fun hu hb => own_base (hu.kept hg (by
    rcases hv : (_ : Value).ownBlock with _ | k
    · exact .inl rfl
    · right; intro e; have := (hu.lt k hv).1; have := Option.some.inj e; omega)) (by omega)
  have ownW0 := own_same h.ownW fun k hk => Below.block hx k (h.ownW.lt k hk).2
  have hown' := hB hown hB2
  refine h.upd (w' := w') (e' := { e with rows := e.rows ++ [x] }) ho ?_ (ownW0.kept hg (.inr dw)) ?_ h.eW (by omega) (fun k hk hr => ?_) (fun k hk => .inr (by have := (hown.lt k hk).1; omega)) (fun k hk => .inl hk) (.inr rfl) (fun p hp => ?_) fun p hp => .inl hp
  · simpa [List.flatMap_append] using hown'
  · rw [List.map_append, h.eR]
    rfl
  · exact (hg.block k (by omega) fun e => hr.2.1 e.symm).trans (Below.block hx k hk)
  · rcases List.mem_append.1 hp with hp | hp
    · exact .inl hp
    · obtain rfl := List.mem_singleton.1 hp
      right
      refine own_kpS (hB hrow hB1) (fun k hk => ?_) fun w2 h2 => own_row 88 h2
      obtain ⟨r1, r2⟩ := hrow.lt k hk
      refine ⟨by omega, fun e => ?_, hdj k hk, fun e => ?_⟩
      · have : g = k := by simpa [Value.ownBlock] using e
        omega
      · have := (h.ownW.lt k e).2
        omega
end
end Go.Proofs.YtdjdhkbomhendaaGreatDoor
