/-
  Walks over the pattern package: key.
-/
import Derived.Test.YtbniemkllhhnfaaW8
import Derived.Test.YtbniemkllhhnfaaPure5
import Derived.Test.YtbniemkllhhnfaaOwn
namespace Go.Proofs.Ytbniemkllhhnfaa
open Go.RowKit
set_option maxHeartbeats 1000000
set_option maxRecDepth 100000

/-- a slice that reads as a list of cells; its block has elements of type t -/
def Rd (w : World) (t : TypeId) (A : Option Addr) (xs : List Value) : Prop :=
  xs = [] ∨ ∃ b off cs fr, A = some ⟨b, off, none⟩ ∧ w.heap[b]? = some (.cells cs t fr) ∧ ∀ (i : Nat) (v : Value), xs[i]? = some v → cs[off + i]? = some v
theorem Rd.at_ {w : World} {t : TypeId} {A : Option Addr} {xs : List Value} (h : Rd w t A xs) {i : Nat} {v : Value} (hv : xs[i]? = some v) : ∃ b off, A = some ⟨b, off, none⟩ ∧ w.cell? ⟨b, off + i, none⟩ = some v := by
  rcases h with rfl | ⟨b, off, cs, fr, hA, hb, hc⟩
  · simp at hv
  · exact ⟨b, off, hA, by simp [World.cell?, hb]; exact hc i v hv⟩
theorem Rd.ext {w w' : World} {t : TypeId} {A : Option Addr} {xs : List Value} (h : Rd w t A xs) (hx : Ext w w') : Rd w' t A xs := by
  rcases h with rfl | ⟨b, off, cs, fr, hA, hb, hc⟩
  · exact .inl rfl
  · exact .inr ⟨b, off, cs, fr, hA, (Below.block hx b (Array.getElem?_eq_some_iff.1 hb).1).trans hb, hc⟩
def u32s (xs : List Nat) : List Value := xs.map fun (x : Nat) => .int .u32 (x : Int)
theorem u32s_get (xs : List Nat) (i : Nat) (h : i < xs.length) : (u32s xs)[i]? = some (.int .u32 ((at0 xs i : Nat) : Int)) := by
  simp [u32s, at0, List.getElem?_map, List.getElem?_eq_getElem h]

theorem u32s_set (xs : List Nat) (i v : Nat) : u32s (xs.set i v) = (u32s xs).set i (.int .u32 (v : Int)) := by simp [u32s, List.map_set]

theorem key_any (A : Option Addr) (l : List Nat) (n c left : Nat) (w : World) (hl : Rd w 55 A (u32s l)) (hn : l.length = n) (hlen : n ≤ 1000) (hs : ∀ s ∈ l, s < 131072) (hleft : left < 256) :
    Calls Try.prog 49 #[.slice A n c, .int .i64 left] w fun e w' => e = .returned (.string (S (keyL l left))) ∧ Ext w w' := by
  obtain ⟨i0, hi, hz0, hz1, hz2⟩ := info_parts info5
  have HN := hid hn
  have HS := hid hs
  have hwl : IntKind.u8.wrap (left : Int) = (left : Int) := by rw [IntKind.wrap_u8']; omega
  clear hn hs
  go_enter Try.func49, Try.ntmps49
  go_wp2_with fail
  go_loopw [5, 13] (fun v i wr => ∃ k : Nat, k ≤ n ∧ i = .int .i64 k ∧ wr.ownsRow w.heap.size 5 1 v (1 + 3 * k) (u8s (keyL (l.take k) left)) ∧ Ext w wr) (fun _ i _ => n - (intOf i).toNat)
  case atStart =>
    refine ⟨0, Nat.zero_le _, rfl, ?_, (Ext.refl w).alloc _⟩
    have e : u8s (keyL (l.take 0) left) = [Value.int .u8 (left : Int)] := by
      have : left % 256 = left := Nat.mod_eq_of_lt hleft
      simp [keyL, u8s, this]
    rw [e]
    exact own_lit w 5 [Value.int .u8 (left : Int)] _ (Nat.le_refl _) (by simp [maxLen])
  case round =>
    obtain ⟨k, hk, rfl, hown, hxr⟩ := hrel
    by_cases hlt : k < n
    · have hkl : k < l.length := by rw [HN.out]; exact hlt
      have hs1 : at0 l k < 131072 := by
        have := HS.out l[k] (List.getElem_mem hkl)
        simpa [at0, List.getElem?_eq_getElem hkl] using this
      obtain ⟨b, off, rfl, hck⟩ := (hl.ext hxr).at_ (u32s_get l k hkl)
      have HK := hid (keyL_take l left k hkl)
      clear hkl
      go_wp2_with (at_builtin; refine wpList_app _ rfl _ _ 57 rfl w.heap.size 5 i0 (.int .u8 0) 1 Try.underlying57 hi hz0 hz1 hz2 rfl _ _ _ rfl (own_ext hown ((Ext.refl _).alloc _)) ⟨wr.heap.size, 0, none⟩ 3 3 [Value.int .u8 ((at0 l k : Int) % 256), Value.int .u8 ((at0 l k : Int) / 256 % 256), Value.int .u8 ((at0 l k : Int) / 65536)] rfl rfl (news_new _ _ _) (by intro u hu; simp at hu; rcases hu with rfl | rfl | rfl <;> rfl) (by unfold maxLen; omega) (by omega) (by have := hxr.size; simp; omega) ?_; intro v' w1 hown' hg' hat' hold' _)
      go_roundw
      case rel =>
        refine ⟨k + 1, by omega, by go_num, ?_, ?_⟩
        · rw [HK.out, u8s_app, ← key3_cells _ hs1, show 1 + 3 * (k + 1) = 1 + 3 * k + 3 by omega]
          exact hown'
        · refine Ext.grown ((hxr.alloc _)) hg' ?_
          intro g hg
          exact own_ge hown hg
      case measure => simp [intOf]; omega
    · obtain rfl : k = n := by omega
      have hcv := conv_own (P := Try.prog) 57 9 5 _ _ _ _ Try.underlying57 Try.underlying5 Try.underlying9 hown
      go_wp2_with fail
      go_ret
      refine ⟨ret_str ?_, hxr⟩
      rw [List.take_of_length_le (by rw [HN.out]; exact Nat.le_refl _)]

end Go.Proofs.Ytbniemkllhhnfaa
