/-
  Walks over history: Committed and Outcomes (both).
-/
import Derived.Test.YtdjdhkbomhendaaGreatDoorGg
import Derived.Test.YtdjdhkbomhendaaGreatDoorGl
import Derived.Test.YtdjdhkbomhendaaGreatDoorHW13z
import Derived.Test.YtdjdhkbomhendaaGreatDoorApp
namespace Go.Proofs.YtdjdhkbomhendaaGreatDoor
open Go.RowKit
set_option linter.unusedVariables false
set_option linter.unusedSimpArgs false
set_option maxHeartbeats 4000000
set_option maxRecDepth 100000

theorem info_i64 : (Tryz.prog.info? 2).map (fun i => (i.zero, i.size, i.bytes)) = some (some (.int .i64 0), 1, 8) := by kernel_rfl
theorem info_int : (Tryz.prog.info? 3).map (fun i => (i.zero, i.size, i.bytes)) = some (some (.int .i64 0), 1, 8) := by kernel_rfl
theorem reads_new1 (w : World) (v : Value) (e : TypeId) : Reads (w.alloc (.cells #[v] e)) (w.heap.size + 1) 1 (some ⟨w.heap.size, 0, none⟩) 1 [v] :=
  ⟨by simp, fun _ => ⟨_, rfl, Nat.lt_succ_self _, news_at w #[v] e w.heap.size rfl⟩⟩
def i64s (l : List Int) : List Value := l.map (Value.int .i64)
theorem i64s_app (l m : List Int) : i64s (l ++ m) = i64s l ++ i64s m := by simp [i64s]
theorem own_empty (w : World) (B : Nat) (e : TypeId) (sz : Nat) (hB : B ≤ w.heap.size) : (w.alloc (.cells #[] e)).ownsRow B e sz (.slice (some ⟨w.heap.size, 0, none⟩) 0 0) 0 [] :=
  ⟨by simp, .inr ⟨w.heap.size, 0, #[], rfl, hB, by show (w.heap.push _)[w.heap.size]? = _; simp, Nat.le_refl _, by decide, by simp, by simp⟩⟩
theorem comm_take {l : List Ev} {k : Nat} {e : Ev} (h : l[k]? = some e) : commP (l.take (k + 1)) = if e.kd = 8 then commP (l.take k) ++ [e.tx] else commP (l.take k) := by
  unfold commP
  rw [take_step h, List.filter_append, List.map_append]
  by_cases h8 : e.kd = 8
  · rw [if_pos h8]; simp [h8]
  · rw [if_neg h8]; simp [h8]
theorem comm_len (l : List Ev) : (commP l).length ≤ l.length := by
  unfold commP
  rw [List.length_map]
  exact List.length_filter_le _ _
theorem out_take {l : List Ev} {k : Nat} {e : Ev} (t : Int) (h : l[k]? = some e) : outP (l.take (k + 1)) t = outS t (outP (l.take k) t) (e, k) := by
  unfold outP
  have hk := (List.getElem?_eq_some_iff.1 h).1
  rw [take_step h, List.zipIdx_append, List.foldl_append]
  rw [show (l.take k).length = k by rw [List.length_take]; omega]
  simp
theorem out_len (t : Int) (l : List Ev) : ∀ k, k ≤ l.length → (outP (l.take k) t).2.length ≤ k
  | 0, _ => by simp [outP]
  | k + 1, hk => by
    have ih := out_len t l k (by omega)
    obtain ⟨e, he⟩ := rat_lt (L := l) (n := l.length) rfl (show k < l.length by omega)
    rw [out_take t he]
    unfold outS
    split
    · omega
    · split
      · simp
      · split
        · rw [List.length_append]; simp; omega
        · omega
/-- a slice of numbers of the call's own -/
def NumsR (B : Nat) (T : TypeId) (l : List Int) (e : Ending) (w' : World) : Prop := ∃ v, e = .returned v ∧ w'.ownsRow B T 1 v l.length (i64s l)
theorem Committed_any (A : Option Addr) (l : List Ev) (n c : Nat) (w : World) (hl : EvsAt w A l) (hn : l.length = n) (hm : n ≤ 1000000) :
    Calls Tryz.prog 21 #[.slice A n c] w fun r w' => NumsR w.heap.size 2 (commP l) r w' ∧ Ext w w' := by
  obtain ⟨i0, hi, hz0, hz1, hz2⟩ := info_parts info_i64
  have HL := hid hl
  have HN := hid hn
  clear hl hn
  go_enter Tryz.func21, Tryz.ntmps21
  go_wp2_with fail
  go_loopw [3, 8] (fun sv iv wr => ∃ (k : Nat), k ≤ n ∧ iv = .int .i64 k ∧ wr.ownsRow w.heap.size 2 1 sv (commP (l.take k)).length (i64s (commP (l.take k))) ∧ Ext w wr) (fun _ i _ => n - (intOf i).toNat)
  case atStart => exact ⟨0, Nat.zero_le _, rfl, World.ownsRow_nil _ _ _ _, Ext.refl w⟩
  case round =>
    obtain ⟨k, hk, rfl, hown, hxr⟩ := hrel
    have HO := hid hown
    have HXr := hid hxr
    clear hown
    by_cases hlt : k < n
    · obtain ⟨e, he⟩ := rat_lt HN.out hlt
      obtain ⟨bq, off, vr, vw, rfl, q0, q1, q2, q3, q4, q5, q6, q7, q8, q9⟩ := (HL.out.ext hxr) k e he
      obtain ⟨A1, c1, rfl, _⟩ := q8
      obtain ⟨B1, d1, rfl, _⟩ := q9
      have HTk := hid (comm_take he)
      have HLn : Hid ((commP (l.take k)).length ≤ 1000000) := by
        have h1 := comm_len (l.take k)
        have h2 : (l.take k).length ≤ k := List.length_take_le _ _
        unfold Hid
        omega
      obtain ⟨Ax, cx, hvx⟩ := own_slice HO.out
      subst hvx
      have hsm : True := trivial
      clear hxr
      clear he hsm
      generalize e.rows.length = n1 at *
      generalize e.wts.length = m1 at *
      generalize e.kd = kd at *
      generalize e.ss = ss at *
      generalize e.tx = tx at *
      generalize e.st = st at *
      generalize e.er = er at *
      generalize e.ct = ct at *
      by_cases h8 : kd = 8
      · have HT1 : Hid (commP (l.take (k + 1)) = commP (l.take k) ++ [tx]) := by unfold Hid; rw [HTk.out, if_pos h8]
        subst h8
        clear HTk
        generalize commP (l.take k) = C at *
        have HLL := hid (rfl : C.length = C.length)
        have HXa := hid ((Ext.refl wr).alloc (.cells #[.int .i64 8, .int .i64 ss, .int .i64 tx, .int .i64 st, .int .i64 er, .int .i64 ct, .slice A1 n1 c1, .slice B1 m1 d1] 36))
        go_upto_region 6 with fail
        have HOw := hid (ownN_ext HO.out HXa.out)
        have HXz := hid (HXr.out.trans HXa.out)
        have HBa := hid (Blk.of_new wr 36 [.int .i64 8, .int .i64 ss, .int .i64 tx, .int .i64 st, .int .i64 er, .int .i64 ct, .slice A1 n1 c1, .slice B1 m1 d1])
        generalize wr.alloc (.cells #[.int .i64 8, .int .i64 ss, .int .i64 tx, .int .i64 st, .int .i64 er, .int .i64 ct, .slice A1 n1 c1, .slice B1 m1 d1] 36) = wa at *
        generalize wr.heap.size = ga at *
        obtain ⟨p0, p1, p2, p3, p4, p5⟩ := blk6 HBa.out
        go_wp2_with (at_builtin; refine wpList_append_any _ rfl (.tmp 15) (.tmp 18) 52 rfl w.heap.size 2 i0 _ 1 8 Tryz.underlying52 hi hz0 hz1 hz2 rfl (by decide) _ C.length _ rfl (HOw.out.alloc _) _ _ 1 1 [.int .i64 tx] rfl (reads_new1 _ _ _) (by simp [Value.oneCell']) (by have := HLn.out; unfold maxLen; omega) (by have := HLn.out; omega) (by have := HXz.out.size; simp; omega) ?_; intro v5 w5 hown5 hgr5 hblk5)
        have HG5 : Hid (Ext w w5) := Ext.grown (HXz.out.alloc _) hgr5 (fun g hg => own_ge HO.out hg)
        go_roundw
        case rel =>
          refine ⟨k + 1, by omega, by go_num, ?_, HG5.out⟩
          rw [HT1.out, List.length_append, i64s_app]
          exact hown5
        case measure => simp [intOf]; omega
      · have HT1 : Hid (commP (l.take (k + 1)) = commP (l.take k)) := by unfold Hid; rw [HTk.out, if_neg h8]
        have b8 : (kd == 8) = false := by simpa using h8
        clear HTk h8
        go_wp2_with fail
        go_roundw
        case rel =>
          refine ⟨k + 1, by omega, by go_num, ?_, HXr.out.trans ((Ext.refl wr).alloc _)⟩
          rw [HT1.out]
          exact ownN_ext HO.out ((Ext.refl wr).alloc _)
        case measure => simp [intOf]; omega
    · obtain rfl : k = n := by omega
      have hfin : commP (l.take k) = commP l := by rw [List.take_of_length_le (Nat.le_of_eq HN.out)]
      rw [hfin] at HO
      go_wp2_with fail
      go_ret
      exact ⟨⟨_, rfl, HO.out⟩, HXr.out⟩
theorem rCommitted_any (A : Option Addr) (l : List Ev) (n c : Nat) (w : World) (hl : EvsAt w A l) (hn : l.length = n) (hm : n ≤ 1000000) :
    Calls Tryz.prog 22 #[.slice A n c] w fun r w' => NumsR w.heap.size 2 (commP l) r w' ∧ Ext w w' := by
  obtain ⟨i0, hi, hz0, hz1, hz2⟩ := info_parts info_i64
  have HL := hid hl
  have HN := hid hn
  clear hl hn
  go_enter Tryz.func22, Tryz.ntmps22
  go_wp2_with fail
  go_loopw [3, 4] (fun sv iv wr => ∃ (k : Nat), k ≤ n ∧ iv = .int .i64 k ∧ wr.ownsRow w.heap.size 2 1 sv (commP (l.take k)).length (i64s (commP (l.take k))) ∧ Ext w wr) (fun _ i _ => n - (intOf i).toNat)
  case atStart => exact ⟨0, Nat.zero_le _, rfl, own_empty w _ _ _ (Nat.le_refl _), (Ext.refl w).alloc _⟩
  case round =>
    obtain ⟨k, hk, rfl, hown, hxr⟩ := hrel
    have HO := hid hown
    have HXr := hid hxr
    clear hown
    by_cases hlt : k < n
    · obtain ⟨e, he⟩ := rat_lt HN.out hlt
      obtain ⟨bq, off, vr, vw, rfl, q0, q1, q2, q3, q4, q5, q6, q7, q8, q9⟩ := (HL.out.ext hxr) k e he
      obtain ⟨A1, c1, rfl, _⟩ := q8
      obtain ⟨B1, d1, rfl, _⟩ := q9
      have HTk := hid (comm_take he)
      have HLn : Hid ((commP (l.take k)).length ≤ 1000000) := by
        have h1 := comm_len (l.take k)
        have h2 : (l.take k).length ≤ k := List.length_take_le _ _
        unfold Hid
        omega
      obtain ⟨Ax, cx, hvx⟩ := own_slice HO.out
      subst hvx
      have hsm : True := trivial
      clear hxr
      clear he hsm
      generalize e.rows.length = n1 at *
      generalize e.wts.length = m1 at *
      generalize e.kd = kd at *
      generalize e.ss = ss at *
      generalize e.tx = tx at *
      generalize e.st = st at *
      generalize e.er = er at *
      generalize e.ct = ct at *
      by_cases h8 : kd = 8
      · have HT1 : Hid (commP (l.take (k + 1)) = commP (l.take k) ++ [tx]) := by unfold Hid; rw [HTk.out, if_pos h8]
        subst h8
        clear HTk
        generalize commP (l.take k) = C at *
        have HLL := hid (rfl : C.length = C.length)
        have HXa := hid (Ext.refl wr)
        go_upto_region 6 with fail
        have HOw := hid (ownN_ext HO.out HXa.out)
        have HXz := hid (HXr.out.trans HXa.out)

        go_wp2_with (at_builtin; refine wpList_append_any _ rfl (.tmp 18) (.tmp 24) 52 rfl w.heap.size 2 i0 _ 1 8 Tryz.underlying52 hi hz0 hz1 hz2 rfl (by decide) _ C.length _ rfl (HOw.out.alloc _) _ _ 1 1 [.int .i64 tx] rfl (reads_new1 _ _ _) (by simp [Value.oneCell']) (by have := HLn.out; unfold maxLen; omega) (by have := HLn.out; omega) (by have := HXz.out.size; simp; omega) ?_; intro v5 w5 hown5 hgr5 hblk5)
        have HG5 : Hid (Ext w w5) := Ext.grown (HXz.out.alloc _) hgr5 (fun g hg => own_ge HO.out hg)
        go_roundw
        case rel =>
          refine ⟨k + 1, by omega, by go_num, ?_, HG5.out⟩
          rw [HT1.out, List.length_append, i64s_app]
          exact hown5
        case measure => simp [intOf]; omega
      · have HT1 : Hid (commP (l.take (k + 1)) = commP (l.take k)) := by unfold Hid; rw [HTk.out, if_neg h8]
        have b8 : (kd == 8) = false := by simpa using h8
        clear HTk h8
        go_wp2_with fail
        go_roundw
        case rel =>
          refine ⟨k + 1, by omega, by go_num, ?_, HXr.out.trans (Ext.refl wr)⟩
          rw [HT1.out]
          exact ownN_ext HO.out (Ext.refl wr)
        case measure => simp [intOf]; omega
    · obtain rfl : k = n := by omega
      have hfin : commP (l.take k) = commP l := by rw [List.take_of_length_le (Nat.le_of_eq HN.out)]
      rw [hfin] at HO
      go_wp2_with fail
      go_ret
      exact ⟨⟨_, rfl, HO.out⟩, HXr.out⟩
end Go.Proofs.YtdjdhkbomhendaaGreatDoor
