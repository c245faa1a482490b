/-
  Lists compared element by element; no program in sight.
-/
import Derived.Test.YtcdnodjcnofogaaGreatDoorStmt
namespace Go.Proofs.YtcdnodjcnofogaaGreatDoor
open Go.RowKit
set_option linter.unusedVariables false

def allS {α : Type} (f : α → α → Bool) : List α → List α → Bool
  | [], [] => true
  | x :: l, y :: m => f x y && allS f l m
  | _, _ => false
theorem allS_iff {α : Type} (f : α → α → Bool) : ∀ (a b : List α), allS f a b = true ↔ a.length = b.length ∧ ∀ (i : Nat) (x y : α), a[i]? = some x → b[i]? = some y → f x y = true := by
  intro a
  induction a with
  | nil => intro b; cases b <;> simp [allS]
  | cons e a ih =>
    intro b
    cases b with
    | nil => simp [allS]
    | cons g b =>
      rw [allS, Bool.and_eq_true, ih]
      constructor
      · rintro ⟨h1, h2, h3⟩
        refine ⟨by simp [h2], fun i x y hx hy => ?_⟩
        cases i with
        | zero => simp at hx hy; subst hx hy; exact h1
        | succ i => exact h3 i x y (by simpa using hx) (by simpa using hy)
      · rintro ⟨h2, h3⟩
        exact ⟨h3 0 e g rfl rfl, by simpa using h2, fun i x y hx hy => h3 (i + 1) x y (by simpa using hx) (by simpa using hy)⟩
def STo {α : Type} (f : α → α → Bool) (l m : List α) (k : Nat) : Prop := ∀ (i : Nat), i < k → ∀ (x y : α), l[i]? = some x → m[i]? = some y → f x y = true
theorem STo.zero {α : Type} (f : α → α → Bool) (l m : List α) : STo f l m 0 := fun i hi => by omega
theorem STo.succ {α : Type} {f : α → α → Bool} {l m : List α} {k : Nat} {x y : α} (h : STo f l m k) (hx : l[k]? = some x) (hy : m[k]? = some y) (hf : f x y = true) : STo f l m (k + 1) := by
  intro i hi x' y' hx' hy'
  by_cases he : i = k
  · subst he
    obtain rfl := Option.some.inj (hx.symm.trans hx')
    obtain rfl := Option.some.inj (hy.symm.trans hy')
    exact hf
  · exact h i (by omega) x' y' hx' hy'
theorem allS_no {α : Type} {f : α → α → Bool} {l m : List α} {k : Nat} {x y : α} (hx : l[k]? = some x) (hy : m[k]? = some y) (hf : f x y = false) : allS f l m = false := by
  cases h : allS f l m with
  | false => rfl
  | true =>
    have := ((allS_iff f l m).1 h).2 k x y hx hy
    rw [hf] at this
    cases this
theorem allS_len {α : Type} {f : α → α → Bool} {l m : List α} (h : l.length ≠ m.length) : allS f l m = false := by
  cases h2 : allS f l m with
  | false => rfl
  | true => exact absurd ((allS_iff f l m).1 h2).1 h
theorem allS_yes {α : Type} {f : α → α → Bool} {l m : List α} {n : Nat} (hl : l.length = n) (hm : m.length = n) (h : STo f l m n) : allS f l m = true := by
  rw [allS_iff]
  exact ⟨by omega, fun i x y hx hy => h i (by have := (List.getElem?_eq_some_iff.1 hx).1; omega) x y hx hy⟩
theorem allS_sameL (l m : List Ex) : allS Ex.same l m = sameL l m := by
  induction l generalizing m with
  | nil => cases m <;> rfl
  | cons a l ih =>
    cases m with
    | nil => rfl
    | cons b m => rw [allS, sameL, ih]
theorem allS_refl {α : Type} {f : α → α → Bool} (h : ∀ x, f x x = true) (l : List α) : allS f l l = true := by
  induction l with
  | nil => rfl
  | cons a l ih => rw [allS, h, ih]; rfl
theorem allS_comm {α : Type} {f : α → α → Bool} (h : ∀ x y, f x y = f y x) : ∀ l m : List α, allS f l m = allS f m l
  | [], [] => rfl
  | [], _ :: _ => rfl
  | _ :: _, [] => rfl
  | a :: l, b :: m => by rw [allS, allS, h a b, allS_comm h l m]
def sN (a b : ByteArray) : Bool := N a == N b
def Src.same (a b : Src) : Bool := sN a.tb b.tb && sN a.al b.al
def Ord'.same (a b : Ord') : Bool := a.it == b.it && a.ds == b.ds
def Cd.same (a b : Cd) : Bool := sN a.nm b.nm && (a.ty == b.ty && (a.lo == b.lo && (a.hi == b.hi && (a.mx == b.mx && a.nn == b.nn))))
def Rf.same (a b : Rf) : Bool := sN a.tb b.tb && allS sN a.cs b.cs && allS sN a.tg b.tg
def Asg.same (a b : Asg) : Bool := sN a.cl b.cl && a.ex.same b.ex
def Itm.same (a b : Itm) : Bool := a.ag == b.ag && a.ex.same b.ex
theorem beq_flip {α : Type} [BEq α] [LawfulBEq α] (x y : α) : (x == y) = (y == x) := by rw [Bool.eq_iff_iff, beq_iff_eq, beq_iff_eq]; exact eq_comm
theorem sN_refl (a : ByteArray) : sN a a = true := by simp [sN]
theorem sN_comm (a b : ByteArray) : sN a b = sN b a := beq_flip _ _
theorem src_comm (a b : Src) : a.same b = b.same a := by unfold Src.same; rw [sN_comm a.tb, sN_comm a.al]
theorem ord_comm (a b : Ord') : a.same b = b.same a := by unfold Ord'.same; rw [beq_flip a.it, beq_flip a.ds]
theorem cd_comm (a b : Cd) : a.same b = b.same a := by unfold Cd.same; rw [sN_comm a.nm, beq_flip a.ty, beq_flip a.lo, beq_flip a.hi, beq_flip a.mx, beq_flip a.nn]
theorem rf_comm (a b : Rf) : a.same b = b.same a := by unfold Rf.same; rw [sN_comm a.tb, allS_comm sN_comm a.cs, allS_comm sN_comm a.tg]
theorem asg_comm (a b : Asg) : a.same b = b.same a := by unfold Asg.same; rw [sN_comm a.cl, same_comm a.ex]
theorem itm_comm (a b : Itm) : a.same b = b.same a := by unfold Itm.same; rw [beq_flip a.ag, same_comm a.ex]
theorem src_refl (a : Src) : a.same a = true := by unfold Src.same; simp [sN_refl]
theorem ord_refl (a : Ord') : a.same a = true := by unfold Ord'.same; simp
theorem cd_refl (a : Cd) : a.same a = true := by unfold Cd.same; simp [sN_refl]
theorem rf_refl (a : Rf) : a.same a = true := by unfold Rf.same; simp [sN_refl, allS_refl sN_refl]
theorem asg_refl (a : Asg) : a.same a = true := by unfold Asg.same; simp [sN_refl, same_refl]
theorem itm_refl (a : Itm) : a.same a = true := by unfold Itm.same; simp [same_refl]
/-- statements are equal, apart from Index -/
structure SB where
  kd : Bool
  tb : Bool
  nm : Bool
  lim : Bool
  whr : Bool
  frm : Bool
  ord : Bool
  grp : Bool
  vals : Bool
  sets : Bool
  itms : Bool
  cols : Bool
  keys : Bool
  frs : Bool
  chk : Bool
def St.sb (a b : St) : SB :=
  ⟨a.kd == b.kd, sN a.tb b.tb, sN a.nm b.nm, a.lim == b.lim, a.whr.same b.whr, allS Src.same a.frm b.frm, allS Ord'.same a.ord b.ord, sameL a.grp b.grp, allS sameL a.vals b.vals, allS Asg.same a.sets b.sets, allS Itm.same a.itms b.itms, allS Cd.same a.cols b.cols, allS (allS sN) a.keys b.keys, allS Rf.same a.frs b.frs, sameL a.chk b.chk⟩
def SB.all (x : SB) : Bool := x.kd && x.tb && x.nm && x.lim && x.whr && x.frm && x.ord && x.grp && x.vals && x.sets && x.itms && x.cols && x.keys && x.frs && x.chk
def St.same (a b : St) : Bool := (a.sb b).all
theorem sameL_comm (l m : List Ex) : sameL l m = sameL m l := by rw [← allS_sameL, ← allS_sameL]; exact allS_comm same_comm l m
theorem sameL_refl (l : List Ex) : sameL l l = true := by rw [← allS_sameL]; exact allS_refl same_refl l
theorem st_comm (a b : St) : a.same b = b.same a := by
  unfold St.same
  congr 1
  unfold St.sb
  rw [beq_flip a.kd, sN_comm a.tb, sN_comm a.nm, beq_flip a.lim, same_comm a.whr, allS_comm src_comm a.frm, allS_comm ord_comm a.ord, sameL_comm a.grp, allS_comm sameL_comm a.vals, allS_comm asg_comm a.sets, allS_comm itm_comm a.itms, allS_comm cd_comm a.cols, allS_comm (allS_comm sN_comm) a.keys, allS_comm rf_comm a.frs, sameL_comm a.chk]
theorem st_refl (a : St) : a.same a = true := by
  unfold St.same St.sb SB.all
  simp [sN_refl, same_refl, sameL_refl, allS_refl src_refl, allS_refl ord_refl, allS_refl sameL_refl, allS_refl asg_refl, allS_refl itm_refl, allS_refl cd_refl, allS_refl (allS_refl sN_refl), allS_refl rf_refl]
end Go.Proofs.YtcdnodjcnofogaaGreatDoor
