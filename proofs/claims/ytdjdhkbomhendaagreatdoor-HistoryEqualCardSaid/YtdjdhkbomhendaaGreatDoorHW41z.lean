/-
  Walks over history: the reference's first (plain part).
-/
import Derived.Test.YtdjdhkbomhendaaGreatDoorGq
import Derived.Test.YtdjdhkbomhendaaGreatDoorGt
namespace Go.Proofs.YtdjdhkbomhendaaGreatDoor
open Go.RowKit
set_option linter.unusedVariables false
set_option linter.unusedSimpArgs false
set_option maxHeartbeats 1000000
set_option maxRecDepth 100000

theorem head_lines {e : Ev} (hr : e.rows = []) (hw : e.wts = []) : e.lines = e.head ++ nlB := by
  unfold Ev.lines
  rw [hr, hw]
  rfl
theorem lines_nl {e : Ev} {s : ByteArray} {q : Bool} (hr : e.rows = []) (hw : e.wts = []) (hq : (e.lines.toList == (s ++ ⟨#[10]⟩ : ByteArray).toList) = q) : q = true ↔ e.head.data.toList = s.data.toList := by
  rw [← hq, head_lines hr hw, ByteArray.toList_eq, ByteArray.toList_eq, beq_iff_eq, ByteArray.data_append, ByteArray.data_append, Array.toList_append, Array.toList_append]
  exact List.append_left_inj _
theorem hdr_none {l : List UInt8} (h : refNums (l.length + 1) (cutW 32 l).2.1 = none) : hdrP l = none := by
  rw [← refHdr_hdrP]
  unfold refHdr
  rw [h]
theorem hdr_big {l : List UInt8} {ns : List Int} (h : refNums (l.length + 1) (cutW 32 l).2.1 = some ns) (hc : kindOf (cutW 32 l).1 < 11 ∧ 3 ≤ ns.length ∧ 7 < ns.getD 0 0) : hdrP l = none := by
  rw [← refHdr_hdrP]
  unfold refHdr
  rw [h]
  exact if_pos hc
theorem hdr_fin {l : List UInt8} {ns : List Int} (h : refNums (l.length + 1) (cutW 32 l).2.1 = some ns) (hc : ¬ (kindOf (cutW 32 l).1 < 11 ∧ 3 ≤ ns.length ∧ 7 < ns.getD 0 0)) :
    hdrP l = if (chk (refE (kindOf (cutW 32 l).1) ns)).ok = true ∧ (refE (kindOf (cutW 32 l).1) ns).head.data.toList = l then some (refE (kindOf (cutW 32 l).1) ns) else none := by
  rw [← refHdr_hdrP]
  unfold refHdr
  rw [h]
  exact if_neg hc
theorem getD_bd {ns : List Int} (h : ∀ n ∈ ns, 0 ≤ n ∧ n ≤ 9223372036854775807) (i : Nat) : i64 (ns.getD i 0) := by
  rw [List.getD_eq_getElem?_getD]
  cases hi : ns[i]? with
  | none => exact ⟨by decide, by decide⟩
  | some n =>
    have := h n (List.mem_of_getElem? hi)
    exact ⟨by show _ ≤ n; omega, this.2⟩
theorem refE_sm {k : Int} {ns : List Int} (hk : 0 ≤ k ∧ k ≤ 13) (h : ∀ n ∈ ns, 0 ≤ n ∧ n ≤ 9223372036854775807) : (refE k ns).sm := by
  have z : i64 0 := ⟨by decide, by decide⟩
  unfold refE Ev.sm
  refine ⟨⟨⟨by dsimp only; omega, by dsimp only; omega⟩, ?_, ?_, ?_, ?_, ?_⟩, Nat.zero_le _, Nat.zero_le _, by simp, by simp⟩ <;> dsimp only <;> split <;> first | exact getD_bd h _ | exact z
theorem rchk_valid (E : Ev) (hr : E.rows = []) (hw : E.wts = []) (vw : Value) (W : World) (h : WsAt W vw (chk E).wts) :
    Calls Tryz.prog 31 #[.agg #[.int .i64 E.kd, .int .i64 E.ss, .int .i64 E.tx, .int .i64 E.st, .int .i64 E.er, .int .i64 E.ct, .slice none 0 0, vw]] W fun r w' => r = .returned (.bool (chk E).ok) ∧ Ext W w' := by
  obtain ⟨e1, e2, e3, e4, e5, e6, e7⟩ := chk_f E
  have hww : (chk E).wts = [] ∨ (chk E).wts = [⟨1, 0, [⟨0, 0, ⟨#[]⟩⟩]⟩] := by
    by_cases h2 : E.kd = 2
    · exact .inr (chk_w2 h2)
    · exact .inl (by rw [chk_w h2, hw])
  have hf : (chk E).fit := ⟨by rw [e7, hr]; simp, by rcases hww with h | h <;> rw [h] <;> simp, fun r h => by rw [e7, hr] at h; simp at h, fun x h => by rcases hww with h' | h' <;> rw [h'] at h <;> simp at h; subst h; simp⟩
  have ht : (chk E).sz4 := ⟨fun r h => by rw [e7, hr] at h; simp at h, fun x h => by
    rcases hww with h' | h' <;> rw [h'] at h <;> simp at h
    subst h
    refine ⟨by simp, fun a ha => ?_⟩
    obtain rfl := List.mem_singleton.1 ha
    exact Nat.zero_le _⟩
  have := rvalidE_any (chk E) (.slice none 0 0) vw W (by rw [e7, hr]; exact ⟨none, 0, rfl, fun i r h => by simp at h⟩) h hf ht
  unfold evV at this
  rw [e1, e2, e3, e4, e5, e6] at this
  exact this
theorem nums_own {B : Nat} {W : World} {v : Value} {ns : List Int} (h : W.ownsRow B 2 1 v ns.length (i64s ns)) : ∃ A c, v = .slice A ns.length c ∧ (∀ j, j < ns.length → ∃ g, A = some ⟨g, 0, none⟩ ∧ W.cell? ⟨g, j, none⟩ = some (.int .i64 (ns.getD j 0))) := by
  obtain ⟨A, c, rfl⟩ := own_slice h
  refine ⟨A, c, rfl, fun j hj => ?_⟩
  have hg : (i64s ns)[j]? = some (.int .i64 (ns.getD j 0)) := by
    unfold i64s
    rw [List.getElem?_map, List.getElem?_eq_getElem hj, List.getD_eq_getElem?_getD, List.getElem?_eq_getElem hj]
    rfl
  obtain ⟨g, c', e0, h0⟩ := own_cell h hg
  injection e0 with e0 _ _
  exact ⟨g, e0, h0⟩
end Go.Proofs.YtdjdhkbomhendaaGreatDoor
