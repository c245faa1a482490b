/-
  The canonical text of a statement; no program in sight.
-/
import Derived.Test.YtcdnodjcnofogaaGreatDoorFmP
import Derived.Test.YtcdnodjcnofogaaGreatDoorOpen4
import Derived.Lib.Join
import Derived.Test.YtcdnodjcnofogaaGreatDoorW23
namespace Go.Proofs.YtcdnodjcnofogaaGreatDoor
open Go.RowKit
set_option linter.unusedVariables false
set_option maxHeartbeats 400000

def comS : ByteArray := ⟨#[44, 32]⟩
/-- texts with commas between -/
def cma : List ByteArray → ByteArray
  | [] => ⟨#[]⟩
  | x :: l => l.foldl (fun a y => a ++ comS ++ y) x
theorem cma_snoc (x : ByteArray) (l : List ByteArray) (y : ByteArray) : cma (x :: l ++ [y]) = cma (x :: l) ++ comS ++ y := by
  show (l ++ [y]).foldl _ x = l.foldl _ x ++ comS ++ y
  rw [List.foldl_append]
  rfl
theorem cma_step (l : List ByteArray) (h : l ≠ []) (y : ByteArray) : cma (l ++ [y]) = cma l ++ comS ++ y := by
  cases l with
  | nil => exact absurd rfl h
  | cons x l => exact cma_snoc x l y
theorem cma_one (y : ByteArray) : cma [y] = y := rfl
/-- the room of some texts -/
def sumS : List ByteArray → Nat
  | [] => 0
  | x :: l => x.size + 2 + sumS l
theorem sumS_app (a b : List ByteArray) : sumS (a ++ b) = sumS a + sumS b := by
  induction a with
  | nil => simp [sumS]
  | cons x a ih => rw [List.cons_append, sumS, sumS, ih]; omega
theorem foldl_size (l : List ByteArray) : ∀ x : ByteArray, (l.foldl (fun a y => a ++ comS ++ y) x).size = x.size + sumS l := by
  induction l with
  | nil => intro x; rfl
  | cons y l ih =>
    intro x
    rw [List.foldl_cons, ih, sumS, ByteArray.size_append, ByteArray.size_append]
    show x.size + 2 + y.size + _ = _
    omega
theorem cma_size (l : List ByteArray) : (cma l).size ≤ sumS l := by
  cases l with
  | nil => exact Nat.le_refl _
  | cons x l => show (l.foldl _ x).size ≤ _; rw [foldl_size, sumS]; omega
theorem sumS_len (l : List ByteArray) : 2 * l.length ≤ sumS l := by
  induction l with
  | nil => exact Nat.le_refl _
  | cons x l ih => rw [sumS, List.length_cons]; omega
theorem sumS_take (l : List ByteArray) (k : Nat) : sumS (l.take k) ≤ sumS l := by
  conv => rhs; rw [← List.take_append_drop k l, sumS_app]
  omega
theorem sumS_mem {l : List ByteArray} {x : ByteArray} (h : x ∈ l) : x.size + 2 ≤ sumS l := by
  induction l with
  | nil => cases h
  | cons a l ih =>
    rw [sumS]
    rcases List.mem_cons.1 h with rfl | h
    · omega
    · have := ih h; omega
theorem sumS_map {α : Type} (tx : α → ByteArray) (bk : α → Nat) (c : Nat) (l : List α) (h : ∀ x ∈ l, (tx x).size + 2 ≤ c * bk x) : sumS (l.map tx) ≤ c * sumB bk l := by
  induction l with
  | nil => exact Nat.zero_le _
  | cons a l ih =>
    rw [List.map_cons, sumS, sumB, Nat.mul_add]
    have h1 := h a (by simp)
    have h2 := ih fun x hx => h x (by simp [hx])
    omega
theorem join_tail (l : List ByteArray) : ∀ x : ByteArray, (l.foldl (fun a y => a ++ comS ++ y) x).data.toList = x.data.toList ++ Lib.joinTail [44, 32] (l.map fun y => y.data.toList) := by
  induction l with
  | nil => intro x; simp [Lib.joinTail]
  | cons y l ih =>
    intro x
    rw [List.foldl_cons, ih]
    have h : (x ++ comS ++ y).data.toList = x.data.toList ++ [44, 32] ++ y.data.toList := by
      rw [ByteArray.data_append, ByteArray.data_append, Array.toList_append, Array.toList_append]
      rfl
    rw [h]
    simp [Lib.joinTail]

/-- the parts of a statement -/
def Cd.bs (x : Cd) : ByteArray := if x.ty = 1 then x.nm ++ ⟨#[32, 73, 78, 84, 69, 71, 69, 82, 40]⟩ ++ itoB x.lo ++ ⟨#[44, 32]⟩ ++ itoB x.hi ++ ⟨#[41]⟩ else x.nm ++ ⟨#[32, 84, 69, 88, 84, 40]⟩ ++ itoB x.mx ++ ⟨#[41]⟩
def Cd.tx (x : Cd) : ByteArray := if x.nn = true then x.bs ++ ⟨#[32, 78, 79, 84, 32, 78, 85, 76, 76]⟩ else x.bs
def keyT (k : List ByteArray) : ByteArray := ⟨#[85, 78, 73, 81, 85, 69, 32, 40]⟩ ++ cma k ++ ⟨#[41]⟩
def Rf.tx (x : Rf) : ByteArray := ⟨#[70, 79, 82, 69, 73, 71, 78, 32, 75, 69, 89, 32, 40]⟩ ++ cma x.cs ++ ⟨#[41, 32, 82, 69, 70, 69, 82, 69, 78, 67, 69, 83, 32]⟩ ++ x.tb ++ ⟨#[32, 40]⟩ ++ cma x.tg ++ ⟨#[41]⟩
def chkT (e : Ex) : ByteArray := ⟨#[67, 72, 69, 67, 75, 32, 40]⟩ ++ e.tx 1 ++ ⟨#[41]⟩
def St.elts (s : St) : List ByteArray := s.cols.map Cd.tx ++ s.keys.map keyT ++ s.frs.map Rf.tx ++ s.chk.map chkT
def exsT (l : List Ex) : ByteArray := cma (l.map fun e => e.tx 1)
def rowT (l : List Ex) : ByteArray := ⟨#[40]⟩ ++ exsT l ++ ⟨#[41]⟩
def Asg.tx (x : Asg) : ByteArray := x.cl ++ ⟨#[32, 61, 32]⟩ ++ x.ex.tx 1
def agW (n : Int) : ByteArray := if n = 2 then ⟨#[67, 79, 85, 78, 84]⟩ else if n = 3 then ⟨#[83, 85, 77]⟩ else if n = 4 then ⟨#[77, 73, 78]⟩ else if n = 5 then ⟨#[77, 65, 88]⟩ else ⟨#[]⟩
def Itm.tx (x : Itm) : ByteArray := if x.ag = 1 then ⟨#[67, 79, 85, 78, 84, 40, 42, 41]⟩ else if x.ag = 0 then x.ex.tx 1 else agW x.ag ++ ⟨#[40]⟩ ++ x.ex.tx 1 ++ ⟨#[41]⟩
def Src.tx (x : Src) : ByteArray := if x.al.size = 0 then x.tb else x.tb ++ ⟨#[32, 65, 83, 32]⟩ ++ x.al
def Ord'.tx (x : Ord') : ByteArray := if x.ds = true then itoB x.it ++ ⟨#[32, 68, 69, 83, 67]⟩ else itoB x.it
def St.whT (s : St) : ByteArray := if s.whr.absent = true then ⟨#[]⟩ else sWhere ++ s.whr.tx 1
def St.itT (s : St) : ByteArray := if s.itms.length = 0 then ⟨#[42]⟩ else cma (s.itms.map Itm.tx)
def St.selT (s : St) : ByteArray :=
  ⟨#[83, 69, 76, 69, 67, 84, 32]⟩ ++ s.itT ++ ⟨#[32, 70, 82, 79, 77, 32]⟩ ++ cma (s.frm.map Src.tx) ++ s.whT ++ (if s.grp.length = 0 then ⟨#[]⟩ else ⟨#[32, 71, 82, 79, 85, 80, 32, 66, 89, 32]⟩ ++ exsT s.grp) ++ (if s.ord.length = 0 then ⟨#[]⟩ else ⟨#[32, 79, 82, 68, 69, 82, 32, 66, 89, 32]⟩ ++ cma (s.ord.map Ord'.tx)) ++ (if 0 < s.lim then ⟨#[32, 76, 73, 77, 73, 84, 32]⟩ ++ itoB s.lim else ⟨#[]⟩)
/-- the text of a statement -/
def St.text (s : St) : ByteArray :=
  if s.kd = 1 then ⟨#[67, 82, 69, 65, 84, 69, 32, 84, 65, 66, 76, 69, 32]⟩ ++ s.tb ++ ⟨#[32, 40]⟩ ++ cma s.elts ++ ⟨#[41]⟩
  else if s.kd = 2 then ⟨#[73, 78, 83, 69, 82, 84, 32, 73, 78, 84, 79, 32]⟩ ++ s.tb ++ ⟨#[32, 86, 65, 76, 85, 69, 83, 32]⟩ ++ cma (s.vals.map rowT)
  else if s.kd = 3 then ⟨#[85, 80, 68, 65, 84, 69, 32]⟩ ++ s.tb ++ ⟨#[32, 83, 69, 84, 32]⟩ ++ cma (s.sets.map Asg.tx) ++ s.whT
  else if s.kd = 4 then sDelete ++ s.tb ++ s.whT
  else if s.kd = 5 then s.selT
  else if s.kd = 6 then ⟨#[66, 69, 71, 73, 78]⟩ else if s.kd = 7 then ⟨#[67, 79, 77, 77, 73, 84]⟩ else if s.kd = 8 then ⟨#[82, 79, 76, 76, 66, 65, 67, 75]⟩
  else if s.kd = 9 then ⟨#[83, 65, 86, 69, 80, 79, 73, 78, 84, 32]⟩ ++ s.nm else if s.kd = 10 then ⟨#[82, 79, 76, 76, 66, 65, 67, 75, 32, 84, 79, 32]⟩ ++ s.nm else ⟨#[82, 69, 76, 69, 65, 83, 69, 32]⟩ ++ s.nm

/-- how long they are -/
theorem sumB_ex (l : List Ex) : sumB Ex.size l = sizeL l := by
  induction l with
  | nil => rfl
  | cons a l ih => rw [sumB, sizeL, ih]
theorem sumS_bk (l : List ByteArray) : sumS l ≤ 3 * sumB bkS l := by
  induction l with
  | nil => exact Nat.zero_le _
  | cons a l ih => rw [sumS, sumB]; unfold bkS at *; omega
theorem inB_iff {lo hi x : Int} : inB lo hi x = true ↔ lo ≤ x ∧ x ≤ hi := by unfold inB; simp
theorem cd_bs {x : Cd} (h : x.ok = true) : x.bs.size + 11 ≤ 100 * bkCd x := by
  unfold Cd.ok at h
  unfold Cd.bs bkCd
  split
  · rename_i h1
    rw [if_pos (by simpa using h1)] at h
    simp only [Bool.and_eq_true, inB_iff] at h
    have h2 := itoB_size x.lo (by omega) (by omega)
    have h3 := itoB_size x.hi (by omega) (by omega)
    simp only [ByteArray.size_append]
    show x.nm.size + 9 + _ + 2 + _ + 1 + 11 ≤ _
    omega
  · rename_i h1
    rw [if_neg (by simpa using h1)] at h
    simp only [Bool.and_eq_true, inB_iff] at h
    have h2 := itoB_size x.mx (by omega) (by omega)
    simp only [ByteArray.size_append]
    show x.nm.size + 6 + _ + 1 + 11 ≤ _
    omega
theorem cd_size {x : Cd} (h : x.ok = true) : x.tx.size + 2 ≤ 100 * bkCd x := by
  have h1 := cd_bs h
  unfold Cd.tx
  split
  · rw [ByteArray.size_append]
    show _ + 9 + 2 ≤ _
    omega
  · omega
theorem cd_nm {x : Cd} (h : x.ok = true) : x.nm.size ≤ 24 := by
  unfold Cd.ok at h
  split at h
  · simp only [Bool.and_eq_true] at h; exact nameB_size h.1.1.1
  · simp only [Bool.and_eq_true] at h; exact nameB_size h.1.1.1.2
theorem cd_ty {x : Cd} (h : x.ok = true) : x.ty = 1 ∨ x.ty = 2 := by
  unfold Cd.ok at h
  split at h
  · rename_i h1; exact .inl (by simpa using h1)
  · simp only [Bool.and_eq_true] at h; exact .inr (by simpa using h.1.1.1.1)
theorem rf_nm {x : Rf} (h : x.ok = true) : x.tb.size ≤ 24 := by
  unfold Rf.ok at h
  simp only [Bool.and_eq_true] at h
  exact nameB_size h.1.2
theorem key_size (k : List ByteArray) : (keyT k).size + 2 ≤ 100 * bkK k := by
  have h1 := cma_size k
  have h2 := sumS_bk k
  unfold keyT bkK
  simp only [ByteArray.size_append]
  show 8 + _ + 1 + 2 ≤ _
  omega
theorem rf_size (x : Rf) : x.tx.size + 2 ≤ 100 * bkRf x := by
  have h1 := cma_size x.cs
  have h2 := sumS_bk x.cs
  have h3 := cma_size x.tg
  have h4 := sumS_bk x.tg
  unfold Rf.tx bkRf
  simp only [ByteArray.size_append]
  show 13 + _ + 13 + _ + 2 + _ + 1 + 2 ≤ _
  omega
theorem tx1_size {e : Ex} (h : e.formed = true) : (e.tx 1).size + 2 ≤ 100 * e.size := by
  have := tx_size e 1 h
  have := size_pos e
  omega
theorem chk_size {e : Ex} (h : e.formed = true) : (chkT e).size + 2 ≤ 100 * e.size := by
  have := tx_size e 1 h
  have := size_pos e
  unfold chkT
  simp only [ByteArray.size_append]
  show 7 + _ + 1 + 2 ≤ _
  omega
theorem exs_size {l : List Ex} (h : l.all Ex.formed = true) : sumS (l.map fun e => e.tx 1) ≤ 100 * sizeL l := by
  rw [← sumB_ex]
  exact sumS_map _ _ 100 l fun x hx => tx1_size (List.all_eq_true.1 h x hx)
theorem exs_size2 {l : List Ex} (h : l.all Ex.formed = true) : sumS (l.map fun e => e.tx 1) ≤ 62 * sizeL l := by
  rw [← sumB_ex]
  exact sumS_map _ _ 62 l fun x hx => by have := tx_size x 1 (List.all_eq_true.1 h x hx); have := size_pos x; omega
theorem row_size {l : List Ex} (h : l.all Ex.formed = true) : (rowT l).size + 2 ≤ 100 * bkR l := by
  have h1 := exs_size2 h
  have h2 := cma_size (l.map fun e => e.tx 1)
  unfold rowT bkR exsT
  simp only [ByteArray.size_append]
  show 1 + _ + 1 + 2 ≤ _
  omega
theorem asg_size {x : Asg} (h : x.ok = true) : x.tx.size + 2 ≤ 100 * bkA x := by
  unfold Asg.ok at h
  simp only [Bool.and_eq_true] at h
  have := tx_size x.ex 1 h.2
  unfold Asg.tx bkA
  simp only [ByteArray.size_append]
  show _ + 3 + _ + 2 ≤ _
  omega
theorem agW_size (n : Int) : (agW n).size ≤ 5 := by
  unfold agW
  exact ite_size _ _ _ _ (show 5 ≤ 5 by omega) (ite_size _ _ _ _ (show 3 ≤ 5 by omega) (ite_size _ _ _ _ (show 3 ≤ 5 by omega) (ite_size _ _ _ _ (show 3 ≤ 5 by omega) (show 0 ≤ 5 by omega))))
theorem itm_size {x : Itm} (h : x.ok = true) : x.tx.size + 2 ≤ 100 * bkI x := by
  have := size_pos x.ex
  unfold Itm.ok at h
  unfold Itm.tx bkI
  by_cases h1 : x.ag = 1
  · rw [if_pos h1]; show 8 + 2 ≤ _; omega
  · rw [if_neg h1]
    rw [if_neg (by simpa using h1)] at h
    simp only [Bool.and_eq_true] at h
    have := tx_size x.ex 1 h.2
    split
    · omega
    · have := agW_size x.ag
      simp only [ByteArray.size_append]
      show _ + 1 + _ + 1 + 2 ≤ _
      omega
theorem src_size (x : Src) : x.tx.size + 2 ≤ 100 * bkF x := by
  unfold Src.tx bkF
  split
  · omega
  · simp only [ByteArray.size_append]
    show _ + 4 + _ + 2 ≤ _
    omega
theorem ord_size {x : Ord'} (h : x.ok = true) : x.tx.size + 2 ≤ 100 * bkO x := by
  unfold Ord'.ok at h
  rw [inB_iff] at h
  have := itoB_size x.it (by omega) (by omega)
  unfold Ord'.tx bkO
  split
  · rw [ByteArray.size_append]; show _ + 5 + 2 ≤ _; omega
  · omega
theorem elts_size {s : St} (h : s.defOk = true) : sumS s.elts ≤ 100 * (sumB bkCd s.cols + sumB bkK s.keys + sumB bkRf s.frs + sizeL s.chk) := by
  unfold St.defOk at h
  simp only [Bool.and_eq_true] at h
  unfold St.elts
  rw [sumS_app, sumS_app, sumS_app]
  have h1 := sumS_map Cd.tx bkCd 100 s.cols fun x hx => cd_size (List.all_eq_true.1 h.1.1.1.2 x hx)
  have h2 := sumS_map keyT bkK 100 s.keys fun x hx => key_size x
  have h3 := sumS_map Rf.tx bkRf 100 s.frs fun x hx => rf_size x
  have h4 := sumS_map chkT Ex.size 100 s.chk fun x hx => chk_size (List.all_eq_true.1 h.2 x hx)
  rw [sumB_ex] at h4
  omega
end Go.Proofs.YtcdnodjcnofogaaGreatDoor
