/-
  The examples, as plain facts.
-/
import Derived.Test.YtdjdhkbomhendaaGreatDoorGg
import Derived.Test.YtdjdhkbomhendaaGreatDoorHW15z
namespace Go.Proofs.YtdjdhkbomhendaaGreatDoor
open Go.RowKit
set_option linter.unusedVariables false
set_option linter.unusedSimpArgs false
set_option maxHeartbeats 400000
set_option maxRecDepth 100000

def wt0 : Wt := ⟨9, 1, [⟨1, 3, ⟨#[]⟩⟩, ⟨2, 0, ⟨#[97, 110, 110]⟩⟩]⟩
def evB : Ev := ⟨1, 0, 17, 0, 0, 0, [], []⟩
def evW : Ev := ⟨2, 0, 17, 2, 0, 0, [], [wt0]⟩
def evO : Ev := ⟨2, 0, 17, 2, 0, 0, [], []⟩
def ev8 : Ev := ⟨8, 1, 2, 0, 0, 0, [], []⟩
def exL : List Ev := [evB, evW, ev8]
def exS : List Tb := [⟨⟨#[116]⟩, []⟩, ⟨⟨#[97, 99, 99, 111, 117, 110, 116]⟩, [⟨#[105, 100]⟩, ⟨#[111, 119, 110, 101, 114]⟩]⟩]
theorem ex_ok : okH exL = true := by decide +kernel
theorem ex_text : (textH exL).data.toList = (⟨#[98, 101, 103, 105, 110, 32, 48, 32, 49, 55, 32, 48, 10, 119, 97, 105, 116, 32, 48, 32, 49, 55, 32, 50, 10, 102, 111, 114, 32, 57, 32, 49, 32, 40, 51, 44, 32, 39, 97, 110, 110, 39, 41, 10, 99, 111, 109, 109, 105, 116, 32, 49, 32, 50, 32, 48, 10]⟩ : ByteArray).data.toList := by decide +kernel
def exA : ByteArray := ⟨#[116, 114, 97, 110, 115, 97, 99, 116, 105, 111, 110, 32, 49, 55, 32, 119, 97, 105, 116, 115, 32, 102, 111, 114, 32, 116, 114, 97, 110, 115, 97, 99, 116, 105, 111, 110, 32, 57, 58, 32, 114, 111, 119, 32, 40, 105, 100, 32, 61, 32, 51, 44, 32, 111, 119, 110, 101, 114, 32, 61, 32, 39, 97, 110, 110, 39, 41, 32, 111, 102, 32, 97, 99, 99, 111, 117, 110, 116]⟩
def exB : ByteArray := ⟨#[116, 114, 97, 110, 115, 97, 99, 116, 105, 111, 110, 32, 49, 55, 32, 119, 97, 105, 116, 115, 32, 102, 111, 114, 32, 116, 114, 97, 110, 115, 97, 99, 116, 105, 111, 110, 32, 57, 58, 32, 114, 111, 119, 32, 40, 51, 44, 32, 39, 97, 110, 110, 39, 41, 32, 111, 102, 32, 116, 97, 98, 108, 101, 32, 49]⟩
theorem map1 {l : List ByteArray} {b : ByteArray} (h : l.map (fun b => b.data.toList) = [b.data.toList]) : l = [b] := by
  cases l with
  | nil => simp at h
  | cons x r =>
    cases r with
    | nil =>
      have h2 := List.cons.inj h
      rw [t_inj h2.1]
    | cons y r => simp at h
theorem ex_exp : expP exS evW = [exA] := map1 (by decide +kernel)
theorem ex_exp2 : expP [] evW = [exB] := map1 (by decide +kernel)
theorem ex_comm : commP exL = [2] := by decide +kernel
theorem ex_eq : eqH exL exL = true := eqH_iff.2 rfl
theorem ex_sm : ∀ e ∈ exL, Ev.sm e := by
  intro e he
  simp only [exL, List.mem_cons, List.not_mem_nil, or_false] at he
  have z : ∀ n : Int, 0 ≤ n → n ≤ 100 → i64 n := fun n h1 h2 => ⟨by omega, by omega⟩
  rcases he with rfl | rfl | rfl
  · exact ⟨⟨z _ (by decide) (by decide), z _ (by decide) (by decide), z _ (by decide) (by decide), z _ (by decide) (by decide), z _ (by decide) (by decide), z _ (by decide) (by decide)⟩, Nat.zero_le _, Nat.zero_le _, by simp [evB], by simp [evB]⟩
  · refine ⟨⟨z _ (by decide) (by decide), z _ (by decide) (by decide), z _ (by decide) (by decide), z _ (by decide) (by decide), z _ (by decide) (by decide), z _ (by decide) (by decide)⟩, Nat.zero_le _, by decide, by simp [evW], fun x hx => ?_⟩
    simp only [evW, List.mem_cons, List.not_mem_nil, or_false] at hx
    subst hx
    refine ⟨z _ (by decide) (by decide), z _ (by decide) (by decide), by decide, fun a ha => ?_, fun a ha => ?_⟩
    · simp only [wt0, List.mem_cons, List.not_mem_nil, or_false] at ha
      rcases ha with rfl | rfl
      · exact z _ (by decide) (by decide)
      · exact z _ (by decide) (by decide)
    · simp only [wt0, List.mem_cons, List.not_mem_nil, or_false] at ha
      rcases ha with rfl | rfl <;> decide
  · exact ⟨⟨z _ (by decide) (by decide), z _ (by decide) (by decide), z _ (by decide) (by decide), z _ (by decide) (by decide), z _ (by decide) (by decide), z _ (by decide) (by decide)⟩, Nat.zero_le _, Nat.zero_le _, by simp [ev8], by simp [ev8]⟩
theorem sm_bd {e : Ev} (h : e.sm) : e.bd := by
  obtain ⟨⟨a, b, c, d, f, g⟩, _, _, h1, h2⟩ := h
  exact ⟨⟨b.2, c.2, d.2, f.2, g.2⟩, fun x hx => ⟨(h2 x hx).1.2, (h2 x hx).2.2.2.1⟩, fun r hr => (h1 r hr).2.1⟩
theorem ex_prs : prsH (textH exL) = (exL, 0, 0) := prsH_text ex_ok fun e he => sm_bd (ex_sm e he)
def exW : ByteArray := ⟨#[119, 97, 105, 116, 32, 48, 32, 49, 55, 32, 50, 10]⟩
theorem ex_hdr : hdrP [119, 97, 105, 116, 32, 48, 32, 49, 55, 32, 50] = some evO := by
  have h := hdrP_head (e := evO) (by unfold okE evO; decide) rfl rfl (by unfold Ev.hi evO; decide)
  rw [show evO.head.data.toList = [119, 97, 105, 116, 32, 48, 32, 49, 55, 32, 50] by decide +kernel] at h
  exact h
theorem ex_bad : prsH exW = ([], 2, 2) := by
  unfold prsH
  rw [show exW.data.toList = [119, 97, 105, 116, 32, 48, 32, 49, 55, 32, 50, 10] from rfl]
  rw [show ([119, 97, 105, 116, 32, 48, 32, 49, 55, 32, 50, 10] : List UInt8).length + 1 = 11 + 1 + 1 from rfl, prsG, if_neg (by decide)]
  rw [show cutW 10 [119, 97, 105, 116, 32, 48, 32, 49, 55, 32, 50, 10] = ([119, 97, 105, 116, 32, 48, 32, 49, 55, 32, 50], [], true) by decide]
  rw [if_neg (by decide)]
  dsimp only
  rw [show stepH [] [119, 97, 105, 116, 32, 48, 32, 49, 55, 32, 50] = some [evO] by
    show hdrS [] _ = _
    unfold hdrS
    rw [ex_hdr]
    rfl]
  dsimp only
  rw [prsG, if_pos rfl]
  rfl
end Go.Proofs.YtdjdhkbomhendaaGreatDoor
