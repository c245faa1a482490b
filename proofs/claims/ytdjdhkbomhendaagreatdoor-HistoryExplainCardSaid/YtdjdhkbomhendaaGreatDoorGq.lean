/-
  Parse: its steps as plain laws; the last event in memory. · The reference's Parse: the first line's loops and the lines, as plain laws.
-/
import Derived.Test.YtdjdhkbomhendaaGreatDoorHMem3z
import Derived.Test.YtdjdhkbomhendaaGreatDoorHW36z
import Derived.Test.YtdjdhkbomhendaaGreatDoorGe
import Derived.Test.YtdjdhkbomhendaaGreatDoorGd
import Derived.Test.YtdjdhkbomhendaaGreatDoorGn
namespace Go.Proofs.YtdjdhkbomhendaaGreatDoor
open Go.RowKit
set_option linter.unusedVariables false
set_option linter.unusedSimpArgs false
set_option maxHeartbeats 1000000
set_option maxRecDepth 100000

abbrev rowPf : List UInt8 := [114, 111, 119, 32]
theorem step_wait {a : List Ev} {e : Ev} {l : List UInt8} {x : Wt} (hk : e.kd = 2) (hr : rsnP l = some x) : stepH (a ++ [e]) l = some (a ++ [{ e with wts := e.wts ++ [x] }]) := by
  rw [stepH_last, hr, if_pos ⟨hk, rfl⟩]
  rfl
theorem step_row {a : List Ev} {e : Ev} {l : List UInt8} {r : List Val} (hk : e.kd = 4) (hr : rowL l = some r) : stepH (a ++ [e]) l = some (a ++ [{ e with rows := e.rows ++ [r] }]) := by
  rw [stepH_last, if_neg (fun h => by have := h.1; omega), hr, if_pos ⟨hk, rfl⟩]
  rfl
theorem cutP_row {l : List UInt8} (h : (cutP rowPf l).2 = true) : (cutW 32 l).1 = rowW := by
  unfold cutP at h
  split at h
  · rename_i hp
    rw [List.isPrefixOf_iff_prefix] at hp
    obtain ⟨t, rfl⟩ := hp
    show (cutW 32 (rowW ++ 32 :: t)).1 = rowW
    rw [cut_at (show (32 : UInt8) ∉ rowW by decide)]
  · cases h
theorem hdr_row {l : List UInt8} (h : (cutW 32 l).1 = rowW) : hdrP l = none := by
  cases hh : hdrP l with
  | none => rfl
  | some e =>
    obtain ⟨h1, h2, h3⟩ := hdrP_kw hh
    exact absurd (h1.symm.trans h) (kw_for h2 h3).2
theorem rowL_yes {l : List UInt8} (hp : (cutP rowPf l).2 = true) : rowL l = rowOf (BA (cutP rowPf l).1) := by
  unfold rowL
  rw [if_pos hp]
  rfl
theorem rowL_no {l : List UInt8} (hp : (cutP rowPf l).2 = false) : rowL l = none := by
  unfold rowL
  rw [if_neg (by rw [hp]; simp)]
theorem step_row_no {a : List Ev} {e : Ev} {l : List UInt8} (hk : e.kd = 4) (hp : (cutP rowPf l).2 = true) (hr : rowOf (BA (cutP rowPf l).1) = none) : stepH (a ++ [e]) l = none := by
  have hL := (rowL_yes hp).trans hr
  have ho : opn e = false := by
    unfold opn
    rw [hk]
    rfl
  rw [stepH_last, if_neg (fun h => by have := h.1; omega), hL, if_neg (by simp), ho, if_neg (by simp)]
  unfold hdrS
  rw [hdr_row (cutP_row hp)]
/-- the last event is of kind k -/
def lastK (k : Int) (out : List Ev) : Bool := match out.getLast? with
  | none => false
  | some e => e.kd == k
theorem lastK_nil (k : Int) : lastK k [] = false := rfl
theorem lastK_snoc (k : Int) (a : List Ev) (e : Ev) : lastK k (a ++ [e]) = (e.kd == k) := by
  unfold lastK
  rw [List.getLast?_concat]
theorem opnL_snoc (a : List Ev) (e : Ev) : opnL (a ++ [e]) = opn e := by
  unfold opnL
  rw [List.getLast?_concat]
theorem step_hdr {out : List Ev} {l : List UInt8} (h1 : ((rsnP l).isSome && lastK 2 out) = false) (h2 : ((cutP rowPf l).2 && lastK 4 out) = false) :
    stepH out l = if opnL out = true then none else hdrS out l := by
  rcases List.eq_nil_or_concat out with rfl | ⟨a, e, rfl⟩
  · rfl
  · rw [List.concat_eq_append] at *
    rw [lastK_snoc] at h1 h2
    rw [opnL_snoc, stepH_last, if_neg, if_neg]
    · rintro ⟨hk, hr⟩
      cases hp : (cutP rowPf l).2 with
      | false => rw [rowL_no hp] at hr; cases hr
      | true => rw [hp, hk] at h2; cases h2
    · rintro ⟨hk, hr⟩
      rw [hr, hk] at h1
      cases h1
theorem step_bad {out : List Ev} {l : List UInt8} (h1 : ((rsnP l).isSome && lastK 2 out) = false) (h2 : ((cutP rowPf l).2 && lastK 4 out) = false) (h3 : hdrP l = none ∨ opnL out = true) : stepH out l = none := by
  rw [step_hdr h1 h2]
  rcases h3 with h3 | h3
  · unfold hdrS
    rw [h3, ite_self]
  · rw [if_pos h3]
theorem step_new {out : List Ev} {l : List UInt8} {e : Ev} (h1 : ((rsnP l).isSome && lastK 2 out) = false) (h2 : ((cutP rowPf l).2 && lastK 4 out) = false) (h3 : hdrP l = some e) (h4 : opnL out = false) : stepH out l = some (out ++ [e]) := by
  rw [step_hdr h1 h2, if_neg (by rw [h4]; simp)]
  unfold hdrS
  rw [h3]
theorem opn_wait (e : Ev) (x : Wt) : opn { e with wts := e.wts ++ [x] } = false := by
  unfold opn
  simp
theorem opn_row (e : Ev) (r : List Val) : opn { e with rows := e.rows ++ [r] } = opn e := rfl
theorem opn_kd {e : Ev} (h : e.kd = 4) : opn e = false := by
  unfold opn
  rw [h]
  rfl
theorem opn_new {e : Ev} (h : e.wts = []) : opn e = (e.kd == 2) := by
  unfold opn
  rw [h]
  simp
/-- what is still to be read -/
def Todo (s T : ByteArray) (n : Nat) (out : List Ev) : Prop := ∃ f, T.size < f ∧ prsH s = prsG f T.data.toList n out
section
variable {s T : ByteArray} {n : Nat} {out o : List Ev}
theorem Todo.start (s : ByteArray) : Todo s s 0 [] := ⟨s.data.toList.length + 1, Nat.lt_succ_of_le (Nat.le_of_eq (by rw [Array.length_toList]; rfl)), rfl⟩
theorem Todo.fin (h : Todo s T n out) (ht : T.data.toList.isEmpty = true) : prsH s = if opnL out = true then ([], (n : Int) + 1, 2) else (out, 0, 0) := by
  obtain ⟨f, hf, h⟩ := h
  cases f with
  | zero => omega
  | succ f => rw [h, prsG, if_pos (List.isEmpty_iff.1 ht)]
theorem ne_of {l : List UInt8} (h : l.isEmpty = false) : l ≠ [] := fun e => by rw [e] at h; cases h
theorem Todo.nocut (h : Todo s T n out) (ht : T.data.toList.isEmpty = false) (hc : (cutW 10 T.data.toList).2.2 = false) : prsH s = ([], (n : Int) + 1, 2) := by
  obtain ⟨f, hf, h⟩ := h
  cases f with
  | zero => omega
  | succ f => rw [h, prsG, if_neg (ne_of ht), if_pos hc]
theorem Todo.bad (h : Todo s T n out) (ht : T.data.toList.isEmpty = false) (hc : (cutW 10 T.data.toList).2.2 = true) (hs : stepH out (cutW 10 T.data.toList).1 = none) : prsH s = ([], (n : Int) + 1, 2) := by
  obtain ⟨f, hf, h⟩ := h
  cases f with
  | zero => omega
  | succ f =>
    rw [h, prsG, if_neg (ne_of ht), if_neg (by rw [hc]; simp), hs]
theorem cutW_rest {l : List UInt8} (h : (cutW 10 l).2.2 = true) : (cutW 10 l).1.length + (cutW 10 l).2.1.length + 1 = l.length := by
  rcases cutW_cases 10 l with ⟨_, h2⟩ | ⟨a, r, _, h2, h3⟩
  · rw [h2] at h; cases h
  · rw [h3]
    dsimp only
    rw [h2, List.length_append, List.length_cons]
    omega
theorem Todo.step (h : Todo s T n out) (ht : T.data.toList.isEmpty = false) (hc : (cutW 10 T.data.toList).2.2 = true) (hs : stepH out (cutW 10 T.data.toList).1 = some o) : Todo s (BA (cutW 10 T.data.toList).2.1) (n + 1) o := by
  obtain ⟨f, hf, h⟩ := h
  cases f with
  | zero => omega
  | succ f =>
    refine ⟨f, ?_, ?_⟩
    · have := cutW_rest hc
      rw [BA_size]
      have hl : T.data.toList.length = T.size := by rw [Array.length_toList]; rfl
      omega
    · rw [h, prsG, if_neg (ne_of ht), if_neg (by rw [hc]; simp), hs]
      rfl
end
/-- bounds of what was read -/
def BdN (n : Nat) (out : List Ev) : Prop := out.length ≤ n ∧ ∀ e ∈ out, e.wts.length ≤ n ∧ e.rows.length ≤ n
theorem BdN.up {n : Nat} {out : List Ev} (h : BdN n out) : BdN (n + 1) out := ⟨by have := h.1; omega, fun e he => by have := h.2 e he; omega⟩
theorem BdN.step {n : Nat} {a : List Ev} {e e' : Ev} (h : BdN n (a ++ [e])) (hw : e'.wts.length ≤ e.wts.length + 1) (hr : e'.rows.length ≤ e.rows.length + 1) : BdN (n + 1) (a ++ [e']) := by
  refine ⟨?_, fun x hx => ?_⟩
  · have := h.1
    rw [List.length_append, List.length_singleton] at this ⊢
    omega
  · rcases List.mem_append.1 hx with hx | hx
    · have := h.2 x (List.mem_append_left _ hx)
      omega
    · obtain rfl := List.mem_singleton.1 hx
      have := h.2 e (by simp)
      omega
theorem BdN.wait {n : Nat} {a : List Ev} {e : Ev} (h : BdN n (a ++ [e])) (x : Wt) : BdN (n + 1) (a ++ [{ e with wts := e.wts ++ [x] }]) := h.step (by simp) (by simp)
theorem BdN.row {n : Nat} {a : List Ev} {e : Ev} (h : BdN n (a ++ [e])) (x : List Val) : BdN (n + 1) (a ++ [{ e with rows := e.rows ++ [x] }]) := h.step (by simp) (by simp)
theorem BdN.new {n : Nat} {a : List Ev} {e : Ev} (h : BdN n a) (hw : e.wts = []) (hr : e.rows = []) : BdN (n + 1) (a ++ [e]) := by
  refine ⟨?_, fun x hx => ?_⟩
  · have := h.1
    rw [List.length_append, List.length_singleton]
    omega
  · rcases List.mem_append.1 hx with hx | hx
    · have := h.2 x hx
      omega
    · obtain rfl := List.mem_singleton.1 hx
      rw [hw, hr]
      exact ⟨Nat.zero_le _, Nat.zero_le _⟩
/-- the last event in memory -/
theorem EvsL.last {B : Nat} {w : World} {v : Value} {ps : List (Ev × Value × Value)} {e : Ev} {vr vw : Value} {rs : List (List Val × Value)} {qs : List (Wt × Value)} (h : EvsL B w v ps e vr vw rs qs) :
    ∃ g c, v = .slice (some ⟨g, 0, none⟩) (ps.length + 1) c ∧ (∀ j u, (evC (e, vr, vw))[j]? = some u → w.cell? ⟨g, ps.length * 8 + j, none⟩ = some u) ∧ ∀ j, w.frozen? ⟨g, j, none⟩ = false := by
  have hl := flat_len evC 8 (fun _ => rfl) ps
  have get : ∀ j, (ps.flatMap evC ++ evC (e, vr, vw))[ps.length * 8 + j]? = (evC (e, vr, vw))[j]? := fun j => by
    rw [List.getElem?_append_right (by omega), hl, Nat.add_sub_cancel_left]
  obtain ⟨g, c, rfl, _⟩ := own_cell h.own (j := ps.length * 8 + 0) (get 0)
  refine ⟨g, c, rfl, fun j u hu => ?_, fun j => h.own.frozenAt j⟩
  obtain ⟨g', c', e', h'⟩ := own_cell h.own (j := ps.length * 8 + j) ((get j).trans hu)
  injection e' with e' _ _
  simp only [Option.some.injEq, Addr.mk.injEq, and_true] at e'
  subst e'
  exact h'
section
variable {B : Nat} {w : World} {ps : List (Ev × Value × Value)} {e : Ev} {vr vw : Value} {rs : List (List Val × Value)} {qs : List (Wt × Value)} {g n c : Nat}
theorem EvsL.cell7 (h : EvsL B w (.slice (some ⟨g, 0, none⟩) n c) ps e vr vw rs qs) {w0 w1 : World} {row : Option Nat} (hx : Ext w w0) (hg : w0.grownBy w1 row) (hr : row ≠ some g) {j : Nat} {u : Value} (hu : (evC (e, vr, vw))[j]? = some u) :
    w1.cell? ⟨g, ps.length * 8 + j, none⟩ = some u ∧ w1.frozen? ⟨g, ps.length * 8 + j, none⟩ = false := by
  have hl := flat_len evC 8 (fun _ => rfl) ps
  have hn : n = ps.length + 1 := by
    have := own_slice h.own
    obtain ⟨A, c', hh⟩ := this
    injection hh
  subst hn
  have own0 := own_same h.own fun k hk => Below.block hx k (h.own.lt k hk).2
  have own1 := own0.kept hg (.inr fun e => hr e.symm)
  have get : (ps.flatMap evC ++ evC (e, vr, vw))[ps.length * 8 + j]? = some u := by
    rw [List.getElem?_append_right (by omega), hl, Nat.add_sub_cancel_left]
    exact hu
  obtain ⟨g', c', e', h'⟩ := own_cell own1 get
  injection e' with e' _ _
  simp only [Option.some.injEq, Addr.mk.injEq, and_true] at e'
  subst e'
  exact ⟨h', own1.frozenAt _⟩
end
theorem reads_new8 (w : World) (cs : List Value) (e : TypeId) (hl : cs.length = 8) : Reads (w.alloc (.cells cs.toArray e)) (w.heap.size + 1) 8 (some ⟨w.heap.size, 0, none⟩) 1 cs :=
  ⟨by simp [hl], fun _ => ⟨_, rfl, Nat.lt_succ_self _, news_at w cs.toArray e w.heap.size rfl⟩⟩
def strMs : Value → Nat
  | .string s => s.size
  | _ => 0
end Go.Proofs.YtdjdhkbomhendaaGreatDoor
namespace Go.Proofs.YtdjdhkbomhendaaGreatDoor
open Go.RowKit
set_option linter.unusedVariables false
set_option linter.unusedSimpArgs false
set_option maxHeartbeats 1000000
set_option maxRecDepth 100000

theorem kind_or (w : List UInt8) : kindOf w = 0 ∨ (1 ≤ kindOf w ∧ kindOf w ≤ 13) := by
  unfold kindOf
  repeat' split
  all_goals omega
theorem kw_iff {k : Int} {w : List UInt8} (h0 : 1 ≤ k) (h1 : k ≤ 13) : (kwB k).data.toList = w ↔ kindOf w = k := by
  constructor
  · rintro rfl
    exact kindOf_kw h0 h1
  · intro h
    have := (kindOf_some (w := w) (by omega)).1
    rwa [h] at this
/-- the kind found among the first ones -/
def kTo (w : List UInt8) (k : Int) : Int := if kindOf w < k then kindOf w else 0
theorem kTo_start (w : List UInt8) : kTo w 1 = 0 := by
  unfold kTo
  rcases kind_or w with h | h
  · rw [h]; rfl
  · rw [if_neg (by omega)]
theorem kTo_yes {w : List UInt8} {k : Int} (h0 : 1 ≤ k) (h1 : k ≤ 13) (h : (kwB k).data.toList = w) : kTo w (k + 1) = k := by
  have := (kw_iff h0 h1).1 h
  unfold kTo
  rw [this, if_pos (by omega)]
theorem kTo_no {w : List UInt8} {k : Int} (h0 : 1 ≤ k) (h1 : k ≤ 13) (h : ¬ (kwB k).data.toList = w) : kTo w (k + 1) = kTo w k := by
  have : ¬ kindOf w = k := fun e => h ((kw_iff h0 h1).2 e)
  unfold kTo
  by_cases hk : kindOf w < k
  · rw [if_pos hk, if_pos (by omega)]
  · rw [if_neg hk, if_neg (by omega)]
theorem kTo_fin (w : List UInt8) : kTo w 14 = kindOf w := by
  unfold kTo
  have := kind_or w
  rw [if_pos (by omega)]
theorem kTo_bd (w : List UInt8) (k : Int) : 0 ≤ kTo w k ∧ kTo w k ≤ 13 := by
  unfold kTo
  have := kind_or w
  split <;> omega
/-- the numbers of a line, under way -/
def NumSt (f0 : Nat) (L : List UInt8) (ns : List Int) (rest : List UInt8) : Prop := ∃ f, rest.length < f ∧ refNums f0 L = (refNums f rest).map (ns ++ ·)
theorem NumSt.start {f0 : Nat} {L : List UInt8} (h : L.length < f0) : NumSt f0 L [] L := ⟨f0, h, by cases refNums f0 L <;> rfl⟩
theorem NumSt.fin {f0 : Nat} {L rest : List UInt8} {ns : List Int} (h : NumSt f0 L ns rest) (hr : rest.isEmpty = true) : refNums f0 L = some ns := by
  obtain ⟨f, hf, h⟩ := h
  cases f with
  | zero => omega
  | succ f =>
    rw [h, refNums, if_pos (List.isEmpty_iff.1 hr)]
    simp
theorem NumSt.bad {f0 : Nat} {L rest : List UInt8} {ns : List Int} (h : NumSt f0 L ns rest) (hr : rest.isEmpty = false) (hn : numP (BA (cutW 32 rest).1) = none) : refNums f0 L = none := by
  obtain ⟨f, hf, h⟩ := h
  cases f with
  | zero => omega
  | succ f =>
    rw [h, refNums, if_neg (ne_of hr), show numP ⟨(cutW 32 rest).1.toArray⟩ = none from hn]
    rfl
theorem cutW_less {c : UInt8} {l : List UInt8} (h : l.isEmpty = false) : (cutW c l).2.1.length < l.length ∧ (cutW c l).1.length ≤ l.length := by
  rcases cutW_cases c l with ⟨_, h2⟩ | ⟨a, r, _, h2, h3⟩
  · rw [h2]
    cases l with
    | nil => cases h
    | cons x l => exact ⟨by simp, Nat.le_refl _⟩
  · rw [h3]
    dsimp only
    rw [h2, List.length_append, List.length_cons]
    omega
theorem NumSt.step {f0 : Nat} {L rest : List UInt8} {ns : List Int} {n : Int} (h : NumSt f0 L ns rest) (hr : rest.isEmpty = false) (hn : numP (BA (cutW 32 rest).1) = some n) : NumSt f0 L (ns ++ [n]) (cutW 32 rest).2.1 := by
  obtain ⟨f, hf, h⟩ := h
  cases f with
  | zero => omega
  | succ f =>
    refine ⟨f, by have := (cutW_less (c := 32) hr).1; omega, ?_⟩
    rw [h, refNums, if_neg (ne_of hr), show numP ⟨(cutW 32 rest).1.toArray⟩ = some n from hn]
    dsimp only
    cases refNums f (cutW 32 rest).2.1 <;> simp
/-- the reference's lines: what stands behind fr, no end of a line ahead of i -/
def RTodo (s : ByteArray) (i fr n : Nat) (out : List Ev) : Prop := fr ≤ i ∧ i ≤ s.size ∧ (10 : UInt8) ∉ (s.data.toList.drop fr).take (i - fr) ∧ Todo s (BA (s.data.toList.drop fr)) n out
section
variable {s : ByteArray} {i fr n : Nat} {out o : List Ev}
theorem size_list (s : ByteArray) : s.data.toList.length = s.size := by rw [Array.length_toList]; rfl
theorem RTodo.start (s : ByteArray) : RTodo s 0 0 0 [] := ⟨Nat.le_refl _, Nat.zero_le _, by simp, by rw [List.drop_zero, BA_of]; exact Todo.start s⟩
theorem RTodo.tick (h : RTodo s i fr n out) (hi : i < s.size) (hc : s[i] ≠ 10) : RTodo s (i + 1) fr n out := by
  obtain ⟨h1, h2, h3, h4⟩ := h
  refine ⟨by omega, hi, ?_, h4⟩
  have hl := size_list s
  rw [show i + 1 - fr = (i - fr) + 1 by omega, List.take_succ_eq_append_getElem (by rw [List.length_drop]; omega)]
  intro hm
  rcases List.mem_append.1 hm with hm | hm
  · exact h3 hm
  · have := List.mem_singleton.1 hm
    rw [List.getElem_drop] at this
    refine hc ?_
    rw [this]
    simp only [show fr + (i - fr) = i by omega]
    rfl
theorem rcut_line (h : RTodo s i fr n out) (hi : i < s.size) (hc : s[i] = 10) : (BA (s.data.toList.drop fr)).data.toList.isEmpty = false ∧
    cutW 10 (BA (s.data.toList.drop fr)).data.toList = ((s.extract fr i).data.toList, s.data.toList.drop (i + 1), true) := by
  obtain ⟨h1, h2, h3, h4⟩ := h
  have hl := size_list s
  have hk : i - fr < (BA (s.data.toList.drop fr)).size := by rw [BA_size, List.length_drop]; omega
  refine ⟨?_, ?_⟩
  · rw [BA_list]
    cases hd : s.data.toList.drop fr with
    | nil =>
      have := congrArg List.length hd
      rw [List.length_drop] at this
      simp at this
      omega
    | cons x l => rfl
  · rw [cutW_take 10 (BA (s.data.toList.drop fr)) (i - fr) hk h3 ?_]
    · rw [BA_list, List.drop_drop, show fr + (i - fr + 1) = i + 1 by omega]
      congr 1
      simp [ByteArray.data_extract, Array.toList_extract, List.extract_eq_take_drop]
    · show (BA (s.data.toList.drop fr)).data.toList[i - fr]'(by rw [size_list]; exact hk) = 10
      simp only [BA_list]
      rw [List.getElem_drop]
      simp only [show fr + (i - fr) = i by omega]
      exact hc
theorem RTodo.line (h : RTodo s i fr n out) (hi : i < s.size) (hc : s[i] = 10) (hs : stepH out (s.extract fr i).data.toList = some o) : RTodo s (i + 1) (i + 1) (n + 1) o := by
  obtain ⟨c1, c2⟩ := rcut_line h hi hc
  refine ⟨Nat.le_refl _, hi, by simp, ?_⟩
  have := h.2.2.2.step (o := o) c1 (by rw [c2]) (by rw [c2]; exact hs)
  rw [c2] at this
  exact this
theorem RTodo.bad (h : RTodo s i fr n out) (hi : i < s.size) (hc : s[i] = 10) (hs : stepH out (s.extract fr i).data.toList = none) : prsH s = ([], (n : Int) + 1, 2) := by
  obtain ⟨c1, c2⟩ := rcut_line h hi hc
  exact h.2.2.2.bad c1 (by rw [c2]) (by rw [c2]; exact hs)
theorem RTodo.fin (h : RTodo s s.size fr n out) : prsH s = if fr < s.size ∨ opnL out = true then ([], (n : Int) + 1, 2) else (out, 0, 0) := by
  obtain ⟨h1, h2, h3, h4⟩ := h
  have hl := size_list s
  rw [List.take_of_length_le (by rw [List.length_drop]; omega)] at h3
  by_cases hf : fr < s.size
  · rw [if_pos (.inl hf)]
    refine h4.nocut ?_ ?_
    · rw [BA_list]
      cases hd : s.data.toList.drop fr with
      | nil =>
        have := congrArg List.length hd
        rw [List.length_drop] at this
        simp at this
        omega
      | cons x l => rfl
    · rw [BA_list, cutW_none 10 _ h3]
  · rw [h4.fin (by rw [BA_list, List.drop_eq_nil_of_le (by omega)]; rfl)]
    by_cases ho : opnL out = true
    · rw [if_pos ho, if_pos (.inr ho)]
    · rw [if_neg ho, if_neg (by rintro (h | h); exact hf h; exact ho h)]
end
end Go.Proofs.YtdjdhkbomhendaaGreatDoor
