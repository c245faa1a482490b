/-
  Walks over the laws of the lexer: same, awake.
-/
import Derived.Test.YtmnjfhjhbjhmhaaDoorW18
namespace Go.Proofs.YtmnjfhjhbjhmhaaDoor
open Go.RowKit
set_option linter.unusedVariables false
set_option maxHeartbeats 2000000
set_option maxRecDepth 100000

theorem same_true (A B : Option Addr) (n m c1 c2 d : Nat) (l x : List Tk) (w : World) (hA : TksAt w A l) (hB : TksAt w B x) (hn : l.length = n) (hm : x.length = m) (hlx : l = x.map (Tk.sh d)) (hbig : n ≤ 100000) (hd : d ≤ 100000) (hp : ∀ t ∈ x, t.pos ≤ 100000) :
    Calls Tryd.prog 13 #[.slice A n c1, .slice B m c2, .int .i64 d] w fun e w' => e = .returned (.bool true) ∧ Ext w w' := by
  have hmn : m = n := by rw [← hn, ← hm, hlx, List.length_map]
  subst hmn
  have HP := hid hp
  have HN := hid hn
  have HM := hid hm
  have HLX := hid hlx
  clear hn hm hlx hp
  go_enter Tryd.func13, Tryd.ntmps13
  go_wp2_with fail
  go_loopw [15] (fun i wr => ∃ k : Nat, k ≤ m ∧ i = .int .i64 k ∧ Ext w wr) (fun i _ => m - (intOf i).toNat)
  case atStart => exact ⟨0, Nat.zero_le _, rfl, Ext.refl w⟩
  case round =>
    obtain ⟨k, hk, rfl, hxr⟩ := hrel
    by_cases hlt : k < m
    · have hkx : k < x.length := by rw [HM.out]; exact hlt
      obtain ⟨t, ht⟩ : ∃ t, x[k]? = some t := ⟨_, List.getElem?_eq_getElem hkx⟩
      have htl : l[k]? = some (Tk.sh d t) := by rw [HLX.out, List.getElem?_map, ht]; rfl
      obtain ⟨bx, ox, rfl, x0, x1, x2⟩ := (hB.ext hxr) k t ht
      obtain ⟨bl, ol, rfl, l0, l1, l2⟩ := (hA.ext hxr) k _ htl
      have htp := HP.out t (List.mem_of_getElem? ht)
      have l2' : wr.cell? ⟨bl, ol + k * 3 + 2, none⟩ = some (.int .i64 ((t.pos : Int) + (d : Int))) := l2
      simp only [Tk.sh] at l0 l1
      clear l2 ht htl hkx
      go_wp2_with fail
      go_region
      go_wp2_with fail
      go_roundw
      case rel => exact ⟨k + 1, by omega, by go_num, hxr.drew⟩
      case measure => simp [intOf]; omega
    · go_wp2_with fail
      go_ret
      exact ⟨rfl, hxr⟩
def exS : ByteArray := ⟨#[83, 69, 76, 69, 67, 84, 32, 97, 46, 66, 60, 61, 45, 55, 32, 45, 45, 32, 120]⟩
def exL : List Tk := [⟨2, [83, 69, 76, 69, 67, 84], 0⟩, ⟨1, [97], 7⟩, ⟨5, [46], 8⟩, ⟨1, [98], 9⟩, ⟨5, [60, 61], 10⟩, ⟨5, [45], 12⟩, ⟨3, [55], 13⟩, ⟨0, [], 19⟩]
theorem ex_toks : tokAll exS = .ok exL := by kernel_rfl
theorem ex_quote : quoteP ⟨#[105, 116, 39, 115]⟩ = ⟨#[39, 105, 116, 39, 39, 115, 39]⟩ := by kernel_rfl
end Go.Proofs.YtmnjfhjhbjhmhaaDoor
