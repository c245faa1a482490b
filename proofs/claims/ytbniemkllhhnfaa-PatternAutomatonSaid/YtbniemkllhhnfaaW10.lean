/-
  Walks over the pattern package: the finder's begin.
-/
import Derived.Test.YtbniemkllhhnfaaW9
namespace Go.Proofs.Ytbniemkllhhnfaa
open Go.RowKit
set_option maxHeartbeats 1000000
set_option maxRecDepth 100000

theorem info55 : (Try.prog.info? 55).map (fun i => (i.zero, i.size, i.bytes)) = some (some (.int .u32 0), 1, 4) := by kernel_rfl

/-- a slice of tests, read -/
def TsAt (w : World) (A : Option Addr) (ts : List Tst) : Prop :=
  ∀ (i : Nat) (t : Tst), ts[i]? = some t → ∃ b off, A = some ⟨b, off, none⟩ ∧ w.cell? ⟨b, off + i * 4, none⟩ = some (.int .i64 t.v) ∧ w.cell? ⟨b, off + i * 4 + 1, none⟩ = some (.int .i64 t.kd) ∧
    w.cell? ⟨b, off + i * 4 + 2, none⟩ = some (.bool t.ng) ∧ w.cell? ⟨b, off + i * 4 + 3, none⟩ = some (.string t.p)
theorem TsAt.ext {w w' : World} {A : Option Addr} {ts : List Tst} (h : TsAt w A ts) (hx : Ext w w') : TsAt w' A ts := fun i t ht => by
  obtain ⟨b, off, hA, h0, h1, h2, h3⟩ := h i t ht
  exact ⟨b, off, hA, hx.keep h0, hx.keep h1, hx.keep h2, hx.keep h3⟩

theorem fbegin_any (F : Nat) (A : Option Addr) (ts : List Tst) (n c : Nat) (rest : List Value) (w : World) (hb : Blk w F 65 (.slice A n c :: rest)) (hts : TsAt w A ts) (hn : ts.length = n) (hlen : n ≤ 1000) (hok : ∀ t ∈ ts, t.p.size ≤ 16) :
    Calls Try.prog 40 #[.pointer (some ⟨F, 0, none⟩)] w fun e w' => ∃ v, e = .returned v ∧ w'.ownsRow w.heap.size 55 1 v n (u32s (begs ts)) ∧ Ext w w' := by
  obtain ⟨i0, hi, hz0, hz1, hz2⟩ := info_parts info55
  have HN := hid hn
  have HO := hid hok
  clear hn hok
  have hf0 := hb.cell_some (i := 0) (v := .slice A n c) rfl
  go_enter Try.func40, Try.ntmps40
  go_wp2_with fail
  go_loopw [3, 11] (fun v i wr => ∃ k : Nat, k ≤ n ∧ i = .int .i64 k ∧ wr.ownsRow w.heap.size 55 1 v k (u32s (begs (ts.take k))) ∧ Ext w wr) (fun _ i _ => n - (intOf i).toNat)
  case atStart => exact ⟨0, Nat.zero_le _, rfl, World.ownsRow_nil _ _ _ _, Ext.refl w⟩
  case round =>
    obtain ⟨k, hk, rfl, hown, hxr⟩ := hrel
    by_cases hlt : k < n
    · have hkl : k < ts.length := by rw [HN.out]; exact hlt
      obtain ⟨t, ht⟩ : ∃ t, ts[k]? = some t := ⟨_, List.getElem?_eq_getElem hkl⟩
      obtain ⟨b, off, rfl, hc0, hc1, hc2, hc3⟩ := (hts.ext hxr) k t ht
      have HT := hid ht
      clear ht hkl
      have hp16 : t.p.size ≤ 16 := HO.out t (List.mem_of_getElem? HT.out)
      have HB : Hid (u32s (begs (ts.take (k + 1))) = u32s (begs (ts.take k)) ++ [Value.int .u32 ((beg t.kd (N t.p) : Nat) : Int)]) := by
        obtain ⟨hkl, rfl⟩ := List.getElem?_eq_some_iff.1 HT.out
        rw [begs, List.take_succ_eq_append_getElem hkl, List.map_append]
        simp [u32s, begs, Hid]
      go_wp2_with (first
        | (go_at_call 33; refine (begin_any t.v t.kd t.ng t.p _ hp16).mono ?_; rintro e w1 ⟨rfl, hx1⟩)
        | (at_builtin; refine wpList_app _ rfl _ _ 67 rfl w.heap.size 55 i0 (.int .u32 0) 4 Try.underlying67 hi hz0 hz1 hz2 rfl _ _ _ rfl (own_ext hown (((Ext.refl _).alloc _).trans (hx1.trans ((Ext.refl _).alloc _)))) ⟨w1.heap.size, 0, none⟩ 1 1 [Value.int .u32 ((beg t.kd (N t.p) : Nat) : Int)] rfl rfl (news_new _ _ _) (by intro u hu; simp at hu; subst hu; rfl) (by unfold maxLen; omega) (by omega) (by have := hxr.size; have := hx1.size; simp at this ⊢; omega) ?_; intro v' w2 hown' hg' hat' hold' _))
      go_roundw
      case rel =>
        refine ⟨k + 1, by omega, by go_num, by rw [HB.out]; exact hown', ?_⟩
        exact Ext.grown ((hxr.alloc _).trans (hx1.trans ((Ext.refl _).alloc _))) hg' (fun g hg => own_ge hown hg)
      case measure => simp [intOf]; omega
    · obtain rfl : k = n := by omega
      go_wp2_with fail
      go_ret
      refine ⟨_, rfl, ?_, hxr⟩
      rw [List.take_of_length_le (by rw [HN.out]; exact Nat.le_refl _)] at hown
      exact hown

end Go.Proofs.Ytbniemkllhhnfaa
