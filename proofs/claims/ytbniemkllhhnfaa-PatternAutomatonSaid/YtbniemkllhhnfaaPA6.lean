/-
  A walk over the reference's position sets.
-/
import Derived.Test.YtbniemkllhhnfaaPA5
import Derived.Test.YtbniemkllhhnfaaW21
namespace Go.Proofs.Ytbniemkllhhnfaa
open Go.RowKit
set_option linter.unusedVariables false
set_option linter.unusedSimpArgs false
set_option maxHeartbeats 4000000
set_option maxRecDepth 100000

/-- the sets that were found, the first i of them closed -/
structure SetInv (p : List Nat) (L : List (List Nat)) (i : Nat) : Prop where
  start : rbeg 1 p ∈ L
  ok : ∀ x ∈ L, rok 1 p.length x
  done : ∀ (k : Nat) (x : List Nat), k < i → L[k]? = some x → ∀ c, 32 ≤ c → c ≤ 126 → rnx 1 p x c ∈ L
/-- the same, the characters before c of the next one done too -/
structure SetMid (p : List Nat) (L : List (List Nat)) (i : Nat) (x : List Nat) (c : Nat) : Prop extends SetInv p L i where
  here : L[i]? = some x
  some_ : ∀ d, 32 ≤ d → d < c → rnx 1 p x d ∈ L
theorem SetInv.first (p : List Nat) : SetInv p [rbeg 1 p] 0 := ⟨List.mem_singleton_self _, fun x hx => by rw [List.mem_singleton.1 hx]; exact rbeg_ok 1 p, fun k x h => absurd h (by omega)⟩
theorem SetMid.first {p : List Nat} {L : List (List Nat)} {i : Nat} {x : List Nat} (h : SetInv p L i) (hx : L[i]? = some x) : SetMid p L i x 32 := ⟨h, hx, fun d h1 h2 => absurd h2 (by omega)⟩
theorem SetMid.last {p : List Nat} {L : List (List Nat)} {i : Nat} {x : List Nat} (h : SetMid p L i x 127) : SetInv p L (i + 1) :=
  ⟨h.start, h.ok, fun k y hk hy c h1 h2 => by
    by_cases hki : k < i
    · exact h.done k y hki hy c h1 h2
    · obtain rfl : k = i := by omega
      obtain rfl := Option.some.inj (h.here.symm.trans hy)
      exact h.some_ c h1 (by omega)⟩
theorem SetMid.old {p : List Nat} {L : List (List Nat)} {i : Nat} {x : List Nat} {c : Nat} (h : SetMid p L i x c) (hm : rnx 1 p x c ∈ L) : SetMid p L i x (c + 1) :=
  ⟨h.toSetInv, h.here, fun d h1 h2 => by
    by_cases hd : d < c
    · exact h.some_ d h1 hd
    · obtain rfl : d = c := by omega
      exact hm⟩
theorem SetMid.new {p : List Nat} {L : List (List Nat)} {i : Nat} {x : List Nat} {c : Nat} (h : SetMid p L i x c) : SetMid p (L ++ [rnx 1 p x c]) i x (c + 1) := by
  have hin : ∀ y, y ∈ L → y ∈ L ++ [rnx 1 p x c] := fun y hy => List.mem_append_left _ hy
  have hi := (List.getElem?_eq_some_iff.1 h.here).1
  refine ⟨⟨hin _ h.start, fun y hy => ?_, fun k y hk hy d h1 h2 => ?_⟩, by rw [List.getElem?_append_left hi]; exact h.here, fun d h1 h2 => ?_⟩
  · rcases List.mem_append.1 hy with hy | hy
    · exact h.ok y hy
    · rw [List.mem_singleton.1 hy]
      exact rnx_ok 1 p x c (h.ok x (List.mem_of_getElem? h.here))
  · rw [List.getElem?_append_left (by omega)] at hy
    exact hin _ (h.done k y hk hy d h1 h2)
  · by_cases hd : d < c
    · exact hin _ (h.some_ d h1 hd)
    · obtain rfl : d = c := by omega
      exact List.mem_append_right _ (List.mem_singleton_self _)
theorem SetInv.fin {p : List Nat} {L : List (List Nat)} {i : Nat} (h : SetInv p L i) (hi : ¬ (i < L.length ∧ L.length ≤ 100)) : SetsOk p L.length := by
  by_cases hl : 100 < L.length
  · exact .inl hl
  · refine .inr ⟨L, rfl, h.start, fun x hx c h1 h2 => ?_⟩
    obtain ⟨k, hk⟩ := List.getElem?_of_mem hx
    have := (List.getElem?_eq_some_iff.1 hk).1
    exact h.done k x (by omega) hk c h1 h2
theorem S_beq {a b : List Nat} (ha : ∀ y ∈ a, y < 256) (hb : ∀ y ∈ b, y < 256) : ((S a).toList == (S b).toList) = (a == b) := by
  rw [str_eq, N_S a ha, N_S b hb]
def setV (L : List (List Nat)) : List Value := L.map fun l => .string (S l)
theorem setV_get {L : List (List Nat)} {k : Nat} {x : List Nat} (h : L[k]? = some x) : (setV L)[k]? = some (.string (S x)) := by unfold setV; rw [List.getElem?_map, h]; rfl
theorem setV_app (L : List (List Nat)) (x : List Nat) : setV (L ++ [x]) = setV L ++ [.string (S x)] := by simp [setV]
theorem info_str9 : (Try.prog.info? 9).map (fun i => (i.zero, i.size, i.bytes)) = some (some (.string ⟨#[]⟩), 1, 16) := by kernel_rfl
theorem sets_any (p : ByteArray) (w : World) (hp : p.size ≤ 16) :
    Calls Try.prog 24 #[.string p, .int .i64 100] w fun e w' => (∃ m : Nat, e = .returned (.int .i64 m) ∧ SetsOk (N p) m ∧ m ≤ 1000) ∧ Ext w w' := by
  obtain ⟨is, his, hs0, hs1, hs2⟩ := ninfo_parts info_str9
  have HSt := hid (fun W => rstart_any 0 1 false p W hp)
  have HNx := hid (fun W l c (h : rok 1 (N p).length l) => rstep_any 0 1 false p l c W hp h)
  have hp16 : (N p).length ≤ 16 := by rw [N_len]; exact hp
  have HLt := hid (fun l (h : rok 1 (N p).length l) => rok_lt 1 (N p).length l hp16 h)
  have HX0 := hid ((Ext.refl w).alloc (.cells #[.int .i64 0, .int .i64 1, .bool false, .string p] 23))
  have HB0 := hid (Blk.of_new w 23 [.int .i64 0, .int .i64 1, .bool false, .string p])
  go_enter Try.func24, Try.ntmps24
  go_upto_region 2 with fail
  generalize w.alloc (.cells #[.int .i64 0, .int .i64 1, .bool false, .string p] 23) = W1 at *
  obtain ⟨g, hg⟩ : ∃ g, w.heap.size = g := ⟨_, rfl⟩
  have HG := hid hg
  rw [hg] at HB0 ⊢
  clear hg
  obtain ⟨b0, b1, b2, b3⟩ : W1.cell? ⟨g, 0, none⟩ = some (.int .i64 0) ∧ W1.cell? ⟨g, 1, none⟩ = some (.int .i64 1) ∧ W1.cell? ⟨g, 2, none⟩ = some (.bool false) ∧ W1.cell? ⟨g, 3, none⟩ = some (.string p) := ⟨HB0.out.cell_some rfl, HB0.out.cell_some rfl, HB0.out.cell_some rfl, HB0.out.cell_some rfl⟩
  go_upto_region 4 with (go_at_call 36; (with_reducible refine (HSt.out _).mono ?_); rintro _ w2 ⟨rfl, hx2⟩)
  have HX2 := hid (HX0.out.trans (hx2.alloc (.cells #[.string (S (rbeg 1 (N p)))] 9)))
  have HB2 := hid (HB0.out.ext (hx2.alloc (.cells #[.string (S (rbeg 1 (N p)))] 9)))
  have HL2 : Hid ((w2.alloc (.cells #[.string (S (rbeg 1 (N p)))] 9)).ownsRow (g + 1) 9 1 (.slice (some ⟨w2.heap.size, 0, none⟩) 1 1) 1 (setV [rbeg 1 (N p)])) := own_lit w2 _ _ _ (by have := (HB0.out.ext hx2).lt; omega) (by simp [maxLen])
  clear hx2 b0 b1 b2 b3
  generalize hpl : N p = pl at *
  generalize w2.alloc (.cells #[.string (S (rbeg 1 pl))] 9) = W2 at *
  go_loopw [6, 7] (fun lv iv wr => ∃ (L : List (List Nat)) (i c : Nat) (A : Option Addr), i ≤ L.length ∧ iv = .int .i64 i ∧ lv = .slice A L.length c ∧ wr.ownsRow (g + 1) 9 1 (.slice A L.length c) L.length (setV L) ∧ L.length ≤ 200 ∧ SetInv pl L i ∧ Blk wr g 23 [.int .i64 0, .int .i64 1, .bool false, .string p] ∧ Ext w wr) (fun _ i _ => 1000 - (intOf i).toNat)
  case atStart => exact ⟨[rbeg 1 pl], 0, 1, _, Nat.zero_le _, rfl, rfl, HL2.out, by simp, SetInv.first pl, HB2.out, HX2.out⟩
  case round =>
    obtain ⟨L, i, c0, A, hi, rfl, rfl, ho, hl2, hinv, hb, hx⟩ := hrel
    have HO := hid ho
    have HI := hid hinv
    have HB := hid hb
    have HX := hid hx
    clear ho hinv hb hx HL2 HB2 HX2
    obtain ⟨n, hn⟩ : ∃ n, L.length = n := ⟨_, rfl⟩
    have HN := hid hn
    rw [hn] at hi hl2 HO ⊢
    clear hn
    by_cases hlt : i < n ∧ n ≤ 100
    · obtain ⟨hlt, hle⟩ := hlt
      obtain ⟨x, hx⟩ : ∃ x, L[i]? = some x := ⟨_, List.getElem?_eq_getElem (by rw [HN.out]; exact hlt)⟩
      have HM := hid (SetMid.first HI.out hx)
      clear hx
      have b100 : decide ((n : Int) ≤ 100) = true := decide_eq_true (by omega)
      go_upto_region 7 with fail
      try rw [b100]
      go_loopw [6, 8] (fun lv cv wr => ∃ (L : List (List Nat)) (d c : Nat) (A : Option Addr), 32 ≤ d ∧ d ≤ 127 ∧ cv = .int .u8 d ∧ lv = .slice A L.length c ∧ wr.ownsRow (g + 1) 9 1 (.slice A L.length c) L.length (setV L) ∧ L.length + 32 ≤ n + d ∧ SetMid pl L i x d ∧ Blk wr g 23 [.int .i64 0, .int .i64 1, .bool false, .string p] ∧ Ext w wr) (fun _ c _ => 1000 - (intOf c).toNat)
      case atStart => exact ⟨L, 32, c0, A, by decide, by decide, rfl, by rw [HN.out], by rw [HN.out]; exact HO.out, by rw [HN.out]; exact Nat.le_refl _, HM.out, HB.out, HX.out⟩
      case round =>
        obtain ⟨L2, d, c2, A2, hd1, hd2, rfl, rfl, ho, hl3, hmid, hb, hxr⟩ := hrel
        have HO2 := hid ho
        have HM2 := hid hmid
        have HB2 := hid hb
        have HX2 := hid hxr
        have HIl : Hid (i < L2.length) := (List.getElem?_eq_some_iff.1 hmid.here).1
        have HHe := hid hmid.here
        have HRk := hid (hmid.ok x (List.mem_of_getElem? hmid.here))
        clear ho hmid hb hxr HO HM HB HX HI HN
        obtain ⟨m, hm⟩ : ∃ m, L2.length = m := ⟨_, rfl⟩
        have HMl := hid hm
        rw [hm] at hl3 HO2 HIl ⊢
        clear hm
        generalize wr = W3 at *
        by_cases hdl : d < 127
        · obtain ⟨b0, b1, b2, b3⟩ : W3.cell? ⟨g, 0, none⟩ = some (.int .i64 0) ∧ W3.cell? ⟨g, 1, none⟩ = some (.int .i64 1) ∧ W3.cell? ⟨g, 2, none⟩ = some (.bool false) ∧ W3.cell? ⟨g, 3, none⟩ = some (.string p) := ⟨HB2.out.cell_some rfl, HB2.out.cell_some rfl, HB2.out.cell_some rfl, HB2.out.cell_some rfl⟩
          obtain ⟨ga, ca, e0, hc⟩ := nOwn_cell HO2.out (setV_get HHe.out)
          injection e0 with e0 _ e1
          subst e0 e1
          have i0 : (0 : Int) ≤ (i : Int) := by omega
          have i1 : (i : Int) < (m : Int) := by have := HIl.out; omega
          have HNc := hid (fun W => HNx.out W x d HRk.out)
          go_upto_region 9 with fail
          first | go_region_with (go_at_call 37; (with_reducible refine (HNc.out _).mono ?_); rintro _ w4 ⟨rfl, hx4⟩) | fail
          all_goals
            have HX4 : Hid (Ext W3 w4) := (Ext.refl W3).drew.trans hx4
            clear hx4 b0 b1 b2 b3 hc
            go_upto_region 12 with fail
          all_goals
            obtain ⟨y, hy⟩ : ∃ y, rnx 1 pl x d = y := ⟨_, rfl⟩
            have HY := hid hy
            have HO4 := hid (nOwn_ext HO2.out HX4.out)
            have HYl := hid (HLt.out _ (rnx_ok 1 pl x d HRk.out))
            have HLs := hid (fun z hz => HLt.out z (HM2.out.ok z hz))
            have HB4 := hid (HB2.out.ext HX4.out)
            have HX5 := hid (HX2.out.trans HX4.out)
            rw [hy] at HYl ⊢
            clear hy
            go_loopw [10, 11] (fun bv kv wr => ∃ (k : Nat) (b : Bool), k ≤ m ∧ kv = .int .i64 k ∧ bv = .bool b ∧ (b = true → y ∈ L2) ∧ Ext w4 wr) (fun _ k _ => m - (intOf k).toNat)
            case atStart => exact ⟨0, false, Nat.zero_le _, rfl, rfl, by simp, Ext.refl w4⟩
            case round =>
              obtain ⟨k, b, hk, rfl, rfl, hb1, hxr⟩ := hrel
              have HBk := hid hb1
              have HXr := hid hxr
              clear hb1 hxr
              by_cases hkm : k < m ∧ b = false
              · obtain ⟨hkm, rfl⟩ := hkm
                obtain ⟨z, hz⟩ : ∃ z, L2[k]? = some z := ⟨_, List.getElem?_eq_getElem (by rw [HMl.out]; exact hkm)⟩
                obtain ⟨gk, ck, e0, hc⟩ := nOwn_cell (nOwn_ext HO4.out HXr.out) (setV_get hz)
                injection e0 with e0 _ e1
                simp only [Option.some.injEq, Addr.mk.injEq, and_true] at e0
                subst e0 e1
                have hzm := List.mem_of_getElem? hz
                have hq := S_beq (HLs.out z hzm) HYl.out
                have i2 : (0 : Int) ≤ (k : Int) := by omega
                have i3 : (k : Int) < (m : Int) := by omega
                have HZ : Hid ((z == y) = true → y ∈ L2) := fun h => by rw [← eq_of_beq h]; exact hzm
                clear hz hzm
                generalize (z == y) = bz at *
                go_wp2_with fail
                exact ⟨⟨k + 1, bz, by omega, by go_num, rfl, HZ.out, HXr.out⟩, by simp [intOf]; omega⟩
              · have HB5 := hid (HB4.out.ext HXr.out)
                have HX6 := hid (HX5.out.trans HXr.out)
                have HO5 := hid (nOwn_ext HO4.out HXr.out)
                cases b
                · have HNw := hid HM2.out.new
                  rw [HY.out] at HNw
                  obtain rfl : k = m := by
                    rcases Nat.lt_or_ge k m with h | h
                    · exact absurd ⟨h, rfl⟩ hkm
                    · omega
                  clear hkm
                  have HSz : Hid (g < wr.heap.size) := HB5.out.lt
                  go_wp2_with (at_builtin; refine wpList_append_any _ rfl (.tmp 58) (.tmp 60) 31 rfl (g + 1) 9 is _ 1 16 Try.underlying31 his hs0 hs1 hs2 rfl (by decide) _ k _ rfl (nOwn_ext HO5.out ((Ext.refl wr).alloc _)) _ _ 1 1 [.string (S y)] rfl (nReads1 _ _ _ _ rfl) (by simp [Value.oneCell']) (by unfold maxLen; omega) (by omega) (by have := HSz.out; simp; omega) ?_; intro v7 w7 hown7 hgr7 hblk7; obtain ⟨A8, c8, rfl⟩ := nOwn_slice hown7)
                  replace hgr7 : World.grownBy _ w7 (Value.slice (some ⟨ga, 0, none⟩) k c2).ownBlock := hgr7
                  have hge : ∀ q, (Value.slice (some ⟨ga, 0, none⟩) k c2).ownBlock = some q → g + 1 ≤ q := fun q hq => own_ge HO5.out hq
                  have HB7 := hid ((HB5.out.ext ((Ext.refl wr).alloc (.cells #[.string (S y)] 9))).grown hgr7 (fun e => by have := hge _ e.symm; omega))
                  have HX7 : Hid (Ext w w7) := Ext.grown (HX6.out.alloc _) hgr7 (fun q hq => by have := hge q hq; have := HG.out; omega)
                  have hlen : (L2 ++ [y]).length = k + 1 := by rw [List.length_append, HMl.out]; rfl
                  have HO7 : Hid (w7.ownsRow (g + 1) 9 1 (.slice A8 (L2 ++ [y]).length c8) (L2 ++ [y]).length (setV (L2 ++ [y]))) := by
                    rw [hlen, setV_app]
                    exact hown7
                  clear hblk7
                  go_roundw
                  case rel => exact ⟨L2 ++ [y], d + 1, c8, A8, by omega, by omega, by go_num, by rw [hlen], HO7.out, by rw [hlen]; omega, HNw.out, HB7.out, HX7.out⟩
                  case measure => simp [intOf]; omega
                · have HNw := hid (HM2.out.old (by rw [HY.out]; exact HBk.out rfl))
                  go_wp2_with fail
                  all_goals exact ⟨⟨L2, d + 1, c2, _, by omega, by omega, by go_num, by rw [HMl.out], by rw [HMl.out]; exact HO5.out, by rw [HMl.out]; omega, HNw.out, HB5.out, HX6.out⟩, by simp [intOf]; omega⟩
        · obtain rfl : d = 127 := by omega
          have HF := hid HM2.out.last
          go_wp2_with fail
          exact ⟨⟨L2, i + 1, c2, A2, by have := HIl.out; rw [HMl.out]; omega, by go_num, by rw [HMl.out], by rw [HMl.out]; exact HO2.out, by rw [HMl.out]; omega, HF.out, HB2.out, HX2.out⟩, by simp [intOf]; omega⟩
    · have hfin : Hid (SetsOk pl n) := by
        have := HI.out.fin (by rw [HN.out]; exact hlt)
        rwa [HN.out] at this
      go_wp2_with fail
      all_goals first
        | (exfalso; apply hlt; constructor <;> omega)
        | (go_ret; exact ⟨⟨n, rfl, by rw [hpl]; exact hfin.out, by omega⟩, HX.out⟩)
end Go.Proofs.Ytbniemkllhhnfaa
