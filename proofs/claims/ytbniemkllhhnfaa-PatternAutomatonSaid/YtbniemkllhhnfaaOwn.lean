/-
  General laws: append onto a row of the call's own, the old row kept; a set of strings kept in a map to bool.
-/
import Derived.Test.YtbniemkllhhnfaaBase
import Derived.Maps.AppendAt
import Derived.Maps.Own
import Derived.Maps.OwnOps
import Derived.Maps.Views
import Derived.Deep.RegionLaw
namespace Go.Proofs.Ytbniemkllhhnfaa
open Go.RowKit
set_option maxHeartbeats 400000
set_option maxRecDepth 100000

section
variable {P : Program} (w : World)
/-- append of one-cell elements onto an owned row: the new row is owned, and the old one still reads as it did -/
theorem run_append_pre (B : Nat) (t ty e : TypeId) (i : TypeInfo) (z : Value) (bytes : Nat) (ht : P.underlying t = some (.slice e)) (hi : P.info? e = some i) (hz : i.zero = some z)
    (hs : i.size = 1) (hby : i.bytes = bytes) (hzs : z.cells.size = 1) (v : Value) (n : Nat) (xs : List Value) (hown : w.ownsRow B e 1 v n xs)
    (a : Addr) (m c : Nat) (news : List Value) (hl : news.length = m) (hnews : ∀ j u, news[j]? = some u → w.cell? (a.add j) = some u) (h1 : ∀ u ∈ news, u.oneCell' = true)
    (h63 : n + m ≤ maxLen) (hbytes : (n + m) * bytes ≤ 140737488355328) (hbase : B ≤ w.heap.size) :
    ∃ v' w', (Builtin.append_ #[t, t] ty #[v, .slice (some a) m c]).run P w = .ok v' w' ∧ w'.ownsRow B e 1 v' (n + m) (xs ++ news) ∧ w.grownBy w' v.ownBlock ∧
      (v'.ownBlock = v.ownBlock ∨ v'.ownBlock = some w.heap.size) ∧ w'.ownsRow B e 1 v n xs ∧
      (v'.ownBlock = v.ownBlock → ∀ w2 : World, w2.ownsRow B e 1 v' (n + m) (xs ++ news) → w2.ownsRow B e 1 v n xs) := by
  have hsmall : n + m ≤ 9223372036854775807 := by simp only [maxLen] at h63; omega
  obtain ⟨v', w', hrun, ho, hg, _, hat⟩ := run_append_own_at (P := P) w B t ty e i z 1 bytes ht hi hz hs hby hzs (by omega) v n xs hown a m c news (by omega) hnews h1 h63 hbytes hbase
  refine ⟨v', w', hrun, ho, hg, hat, ?_⟩
  rcases hown.2 with ⟨rfl, rfl⟩ | ⟨g, cap, cur, rfl, hbg, hgb, hnc, hcm, hcs, htake⟩
  · have hx : xs = [] := List.eq_nil_of_length_eq_zero (by simpa using hown.1)
    subst hx
    exact ⟨World.ownsRow_nil _ _ _ _, fun _ _ _ => World.ownsRow_nil _ _ _ _⟩
  · by_cases hroom : n + m ≤ cap
    · have hfit : n * i.size + news.length ≤ cur.size := by rw [hl, hcs, hs]; omega
      have hr := run_append_room (P := P) w t ty e i ht hi g n cap cur hgb a m c news (by rw [hs]; omega) hnews h1 hroom hfit
      rw [hrun] at hr
      injection hr with e1 e2
      subst e2
      refine ⟨⟨hown.1, .inr ⟨g, cap, _, rfl, hbg, setRow_heap w g cur _ e _ hgb, hnc, hcm, ?_, ?_⟩⟩, ?_⟩
      · rw [hs] at hfit ⊢
        simp only [List.size_toArray, List.length_append, List.length_take, List.length_drop, Array.length_toList]
        omega
      · rw [hs]
        simp only [List.append_assoc]
        rw [List.take_append_of_le_length (by simp only [List.length_take, Array.length_toList]; rw [hs] at hfit; omega), List.take_take, Nat.min_self]
        exact htake
      · subst e1
        intro _ w2 h2
        rcases h2.2 with ⟨h2, _⟩ | ⟨g2, cap2, cur2, hv2, hb2, hh2, hn2, hm2, hs2, ht2⟩
        · cases h2
        · simp only [Value.slice.injEq, Option.some.injEq, Addr.mk.injEq, and_true, true_and] at hv2
          obtain ⟨rfl, rfl⟩ := hv2
          refine ⟨hown.1, .inr ⟨g, cap, cur2, rfl, hbg, hh2, hnc, hcm, hs2, ?_⟩⟩
          have hx : xs.length = n := by have := hown.1; omega
          have := congrArg (List.take n) ht2
          rw [List.take_take, List.take_append_of_le_length (by omega), List.take_of_length_le (l := xs) (by omega), show min n ((n + m) * 1) = n * 1 by omega] at this
          exact this
    · have holds : ∀ j u, xs[j]? = some u → w.cell? ((⟨g, 0, none⟩ : Addr).add j) = some u := hown.cells (g := g) rfl
      have hr := run_append_grow (P := P) w t ty e i z ht hi hz ⟨g, 0, none⟩ n cap xs (by rw [hown.1, hs]) holds a m c news (by rw [hs]; omega) hnews (by omega) (by omega) (growslice_fits (by omega) (by rw [hby]; exact hbytes))
      rw [hrun] at hr
      injection hr with e1 e2
      subst e2
      have hlt : g < w.heap.size := (Array.getElem?_eq_some_iff.1 hgb).1
      refine ⟨⟨hown.1, .inr ⟨g, cap, cur, rfl, hbg, (Below.heap_alloc w.drew _ g hlt).trans hgb, hnc, hcm, hcs, htake⟩⟩, fun he => ?_⟩
      subst e1
      simp [Value.ownBlock] at he
      omega

theorem wp_append_pre {o : Oper} {a : Act} {K : Act → World → Prop} {Q : Exit → Act → World → Prop} (s x : Operand) (t : TypeId)
    (ho : o.op = .call { callee := .builtin .append, args := #[s, x], argTypes := #[t, t] })
    (B : Nat) (e : TypeId) (i : TypeInfo) (z : Value) (bytes : Nat) (ht : P.underlying t = some (.slice e)) (hi : P.info? e = some i) (hz : i.zero = some z)
    (hsz : i.size = 1) (hby : i.bytes = bytes) (hzs : z.cells.size = 1) (v : Value) (n : Nat) (xs : List Value) (hs : a.eval s = v) (hown : w.ownsRow B e 1 v n xs)
    (ad : Addr) (m c : Nat) (news : List Value) (hx : a.eval x = .slice (some ad) m c) (hl : news.length = m) (hnews : ∀ j u, news[j]? = some u → w.cell? (ad.add j) = some u) (h1 : ∀ u ∈ news, u.oneCell' = true)
    (h63 : n + m ≤ maxLen) (hbytes : (n + m) * bytes ≤ 140737488355328) (hbase : B ≤ w.heap.size)
    (h : ∀ v' w', w'.ownsRow B e 1 v' (n + m) (xs ++ news) → w.grownBy w' v.ownBlock → (v'.ownBlock = v.ownBlock ∨ v'.ownBlock = some w.heap.size) → w'.ownsRow B e 1 v n xs → (v'.ownBlock = v.ownBlock → ∀ w2 : World, w2.ownsRow B e 1 v' (n + m) (xs ++ news) → w2.ownsRow B e 1 v n xs) → K (a.put o.dst v') w') : o.wp P a w K Q := by
  obtain ⟨v', w', hr, h2, h3, h4, h5, h6⟩ := run_append_pre (P := P) w B t o.type e i z bytes ht hi hz hsz hby hzs v n xs hown ad m c news hl hnews h1 h63 hbytes hbase
  unfold Oper.wp execOp
  simp only [ho, resolve, invoke, builtin, Sem.run_bind, Sem.run_pure, Result.andThen_ok, List.map_toArray, List.map_cons, List.map_nil, hs, hx, hr]
  exact h v' w' h2 h3 h4 h5 h6

theorem wpList_app {ops : Array Oper} {rest : List Oper} {o : Oper} {a : Act} {Q : Exit → Act → World → Prop} (hgd : o.guard = none) (s x : Operand) (t : TypeId)
    (ho : o.op = .call { callee := .builtin .append, args := #[s, x], argTypes := #[t, t] })
    (B : Nat) (e : TypeId) (i : TypeInfo) (z : Value) (bytes : Nat) (ht : P.underlying t = some (.slice e)) (hi : P.info? e = some i) (hz : i.zero = some z)
    (hsz : i.size = 1) (hby : i.bytes = bytes) (hzs : z.cells.size = 1) (v : Value) (n : Nat) (xs : List Value) (hs : a.eval s = v) (hown : w.ownsRow B e 1 v n xs)
    (ad : Addr) (m c : Nat) (news : List Value) (hx : a.eval x = .slice (some ad) m c) (hl : news.length = m) (hnews : ∀ j u, news[j]? = some u → w.cell? (ad.add j) = some u) (h1 : ∀ u ∈ news, u.oneCell' = true)
    (h63 : n + m ≤ maxLen) (hbytes : (n + m) * bytes ≤ 140737488355328) (hbase : B ≤ w.heap.size)
    (h : ∀ v' w', w'.ownsRow B e 1 v' (n + m) (xs ++ news) → w.grownBy w' v.ownBlock → (v'.ownBlock = v.ownBlock ∨ v'.ownBlock = some w.heap.size) → w'.ownsRow B e 1 v n xs → (v'.ownBlock = v.ownBlock → ∀ w2 : World, w2.ownsRow B e 1 v' (n + m) (xs ++ news) → w2.ownsRow B e 1 v n xs) → wpList P ops Q rest (a.put o.dst v') w') :
    wpList P ops Q (o :: rest) a w :=
  wpList_plain hgd fun _ hK => wp_append_pre w s x t ho B e i z bytes ht hi hz hsz hby hzs v n xs hs hown ad m c news hx hl hnews h1 h63 hbytes hbase fun v' w' h2 h3 h4 h5 h6 => hK _ _ (h v' w' h2 h3 h4 h5 h6)

theorem step_app {ops : Array Oper} {o : Oper} {a : Act} {K : Act → World → Prop} {Q : Exit → Act → World → Prop} {E : Prop} (hgd : o.guard = none) (s x : Operand) (t : TypeId)
    (ho : o.op = .call { callee := .builtin .append, args := #[s, x], argTypes := #[t, t] })
    (B : Nat) (e : TypeId) (i : TypeInfo) (z : Value) (bytes : Nat) (ht : P.underlying t = some (.slice e)) (hi : P.info? e = some i) (hz : i.zero = some z)
    (hsz : i.size = 1) (hby : i.bytes = bytes) (hzs : z.cells.size = 1) (v : Value) (n : Nat) (xs : List Value) (hs : a.eval s = v) (hown : w.ownsRow B e 1 v n xs)
    (ad : Addr) (m c : Nat) (news : List Value) (hx : a.eval x = .slice (some ad) m c) (hl : news.length = m) (hnews : ∀ j u, news[j]? = some u → w.cell? (ad.add j) = some u) (h1 : ∀ u ∈ news, u.oneCell' = true)
    (h63 : n + m ≤ maxLen) (hbytes : (n + m) * bytes ≤ 140737488355328) (hbase : B ≤ w.heap.size)
    (h : ∀ v' w', w'.ownsRow B e 1 v' (n + m) (xs ++ news) → w.grownBy w' v.ownBlock → (v'.ownBlock = v.ownBlock ∨ v'.ownBlock = some w.heap.size) → w'.ownsRow B e 1 v n xs → (v'.ownBlock = v.ownBlock → ∀ w2 : World, w2.ownsRow B e 1 v' (n + m) (xs ++ news) → w2.ownsRow B e 1 v n xs) → K (a.put o.dst v') w') :
    if Region.wanted o (yielded ops a.tmps) = true then Oper.wp P o a w K Q else E := by
  have hw : Region.wanted o (yielded ops a.tmps) = true := by simp [Region.wanted, hgd]
  rw [if_pos hw]
  exact wp_append_pre w s x t ho B e i z bytes ht hi hz hsz hby hzs v n xs hs hown ad m c news hx hl hnews h1 h63 hbytes hbase h
end

/-- a literal's block as an owned row -/
theorem own_lit (w : World) (e : TypeId) (xs : List Value) (B : Nat) (hB : B ≤ w.heap.size) (hm : xs.length ≤ maxLen) :
    (w.alloc (.cells xs.toArray e)).ownsRow B e 1 (.slice (some ⟨w.heap.size, 0, none⟩) xs.length xs.length) xs.length xs :=
  ⟨by simp, .inr ⟨w.heap.size, xs.length, xs.toArray, rfl, hB, by show (w.heap.push _)[w.heap.size]? = _; simp, Nat.le_refl _, hm, by simp, by simp⟩⟩
theorem own_ext {w w' : World} {B e n : Nat} {v : Value} {xs : List Value} (h : w.ownsRow B e 1 v n xs) (hx : Ext w w') : w'.ownsRow B e 1 v n xs := by
  obtain ⟨h1, h2⟩ := h
  refine ⟨h1, ?_⟩
  rcases h2 with h2 | ⟨g, cap, cur, hv, hg, hh, r⟩
  · exact .inl h2
  · exact .inr ⟨g, cap, cur, hv, hg, (Below.block hx g (Array.getElem?_eq_some_iff.1 hh).1).trans hh, r⟩

/-- the cells of a block that has just been made -/
theorem news_new (w : World) (cs : Array Value) (e : TypeId) : ∀ (j : Nat) (u : Value), cs.toList[j]? = some u → (w.alloc (.cells cs e)).cell? ((⟨w.heap.size, 0, none⟩ : Addr).add j) = some u := fun j u hu => by
  have hadd : (⟨w.heap.size, 0, none⟩ : Addr).add j = ⟨w.heap.size, j, none⟩ := by unfold Addr.add; split <;> simp_all
  rw [hadd, World.cell?_alloc_new]
  simpa using hu
theorem own_ge {w : World} {B e sz n g : Nat} {v : Value} {xs : List Value} (h : w.ownsRow B e sz v n xs) (hg : v.ownBlock = some g) : B ≤ g := by
  rcases h.2 with ⟨rfl, _⟩ | ⟨g', cap, cur, rfl, hb, _⟩
  · simp [Value.ownBlock] at hg
  · simp [Value.ownBlock] at hg; omega
theorem own_lt {w : World} {B e sz n g : Nat} {v : Value} {xs : List Value} (h : w.ownsRow B e sz v n xs) (hg : v.ownBlock = some g) : g < w.heap.size := by
  rcases h.2 with ⟨rfl, _⟩ | ⟨g', cap, cur, rfl, hb, hh, _⟩
  · simp [Value.ownBlock] at hg
  · simp [Value.ownBlock] at hg; subst hg; exact (Array.getElem?_eq_some_iff.1 hh).1
theorem own_type {w : World} {B e sz n g : Nat} {v : Value} {xs : List Value} (h : w.ownsRow B e sz v n xs) (hg : v.ownBlock = some g) : ∃ cur, w.heap[g]? = some (.cells cur e (0, 0)) := by
  rcases h.2 with ⟨rfl, _⟩ | ⟨g', cap, cur, rfl, hb, hh, _⟩
  · simp [Value.ownBlock] at hg
  · simp [Value.ownBlock] at hg; subst hg; exact ⟨cur, hh⟩
/-- 'string(b)', b an owned row of bytes -/
theorem conv_own {P : Program} {w : World} (src dst e B n : Nat) (v : Value) (xs : List Nat) (hs : P.underlying src = some (.slice e)) (he : P.underlying e = some (.int .u8)) (hd : P.underlying dst = some .string)
    (hb : w.ownsRow B e 1 v n (u8s xs)) : (convert src dst v).run P w = .ok (.string (S xs)) w := by
  have hlen : xs.length = n := by have := hb.1; simpa [u8s] using this
  rcases hb.2 with ⟨rfl, h0⟩ | ⟨g, cap, cur, rfl, _, hg, _, _, _, ht⟩
  · subst h0
    have : xs = [] := List.eq_nil_of_length_eq_zero hlen
    subst this
    exact run_convert_bytes_nil w src e hs he 0 0 dst hd
  · rw [run_convert_bytes_arg w src e hs he g 0 n cap (xs.map fun (x : Nat) => (x : Int)) (by simp [hlen]) (fun i hi => ?_) dst hd, strOf_S]
    have hi2 : i < xs.length := by omega
    have h1 : (u8s xs)[i]? = cur[i]? := by
      rw [← ht, List.getElem?_take, if_pos (by omega), Array.getElem?_toList]
    simp only [World.cell?, hg, Nat.zero_add]
    rw [show (none : Option Nat).isSome = false from rfl]
    simp only [Bool.false_eq_true, if_false]
    rw [← h1, u8s_get xs i hi2]
    simp [at0, List.getElem?_eq_getElem hi2]
/-- A map from strings to bools, as a set. -/
def SetMap (w : World) (P : Program) (k e : TypeId) (M : Nat) (n : Nat) (mem : List UInt8 → Bool) : Prop :=
  ∃ D : DataW Unit, w.ownsMap P k (plainElem P e) M n D ∧ Maps.IsMap D ∧ ∀ s, D.atKey (.string s) (.lit (.bool false)) = .lit (.bool (mem s))
section
variable {P : Program} {w w' : World} {k e M n : Nat} {mem : List UInt8 → Bool}
theorem SetMap.made (w : World) (P : Program) (k e : TypeId) : SetMap (w.alloc (.map #[] 0)) P k e w.heap.size 0 (fun _ => false) :=
  ⟨_, World.ownsMap_made w P k _, Maps.isMap_empty, fun _ => rfl⟩
theorem SetMap.lt (h : SetMap w P k e M n mem) : M < w.heap.size := by
  obtain ⟨D, h, _⟩ := h
  exact h.lt
theorem SetMap.kept (h : SetMap w P k e M n mem) {row : Option Nat} (hg : w.grownBy w' row) (hne : some M ≠ row) : SetMap w' P k e M n mem := by
  obtain ⟨D, h, h2⟩ := h
  exact ⟨D, h.kept hg hne, h2⟩
theorem SetMap.ext (h : SetMap w P k e M n mem) (hx : Ext w w') : SetMap w' P k e M n mem :=
  h.kept (row := none) ⟨Below.os hx, Below.tape hx, Below.output hx, Below.size hx, fun i hi _ => Below.block hx i hi⟩ (by simp)
theorem SetMap.far (h : SetMap w P k e M n mem) {p : Addr} (hp : M ≠ p.block) (u : Value) : SetMap (w.setCell p u) P k e M n mem :=
  h.kept (row := some p.block) ⟨rfl, rfl, rfl, by simp [World.setCell], fun i _ hi => Below.heap_setCell w p u i (fun e => hi (by rw [e]))⟩ (by simpa using hp)
theorem plainElem_bool_inv {v : Value} {z : DataW Unit × List MemPlace} (he : P.underlying e = some .bool) (h : plainElem P e v = some z) : ∃ b, v = .bool b ∧ z = (.lit (.bool b), []) := by
  unfold plainElem at h
  rw [he] at h
  cases v <;> simp at h
  subst h
  exact ⟨_, rfl, rfl⟩
/-- 'm[k]' -/
theorem SetMap.look (h : SetMap w P k e M n mem) {t : TypeId} (hk : P.underlying k = some .string) (ht : P.underlying t = some (.map k e)) (he : P.underlying e = some .bool) (hz : (zeroValue e).run P w = .ok (.bool false) w)
    (s : ByteArray) (hs : s.size ≤ maxLen) : (Instr.lookup t (.map (some M)) (.string s) false).run P w = .ok (.bool (mem s.data.toList)) w := by
  obtain ⟨D, h, _, hD⟩ := h
  obtain ⟨v, ps, hrun, hv⟩ := h.lookup (Maps.string_keyed hk) ht hz (plainElem_bool he false) (WideMaps.keyOf_string_mk hk hs)
  rw [hD] at hv
  obtain ⟨b, rfl, hb⟩ := plainElem_bool_inv he hv
  simp only [Prod.mk.injEq, DataW.lit.injEq, Lit.bool.injEq] at hb
  rw [hb.1]
  exact hrun
/-- 'm[k] = true' -/
theorem SetMap.add (h : SetMap w P k e M n mem) {t : TypeId} (hk : P.underlying k = some .string) (ht : P.underlying t = some (.map k e)) (he : P.underlying e = some .bool) (hn : n < maxLen)
    (s : ByteArray) (hs : s.size ≤ maxLen) : ∃ w', (Instr.mapUpdate t (.map (some M)) (.string s) (.bool true)).run P w = .ok () w' ∧ SetMap w' P k e M (n + 1) (fun x => x == s.data.toList || mem x) ∧ w.grownBy w' (some M) := by
  obtain ⟨D, h, hI, hD⟩ := h
  obtain ⟨w', hrun, h', hg⟩ := h.update (Maps.string_keyed hk) ht hn (WideMaps.keyOf_string_mk hk hs) (plainElem_bool he true)
  refine ⟨w', hrun, ⟨_, h', hI.put _ _, fun x => ?_⟩, hg⟩
  by_cases hx : x = s.data.toList
  · subst hx
    rw [Maps.atKey_put_same hI (by simp [WideAt.IsKeyLit])]
    simp
  · rw [Maps.atKey_put_other (by simpa using hx), hD]
    simp [hx]
end
/-- 'm[k] = true' at the operation -/
theorem wpList_add {P : Program} {w : World} {k e M n : Nat} {mem : List UInt8 → Bool} {ops : Array Oper} {rest : List Oper} {o : Oper} {a : Act} {Q : Exit → Act → World → Prop}
    (hg : o.guard = none) (m x v : Operand) (t : TypeId) (hop : o.op = Op.mapUpdate t m x v)
    (hk : P.underlying k = some .string) (ht : P.underlying t = some (.map k e)) (he : P.underlying e = some .bool)
    (hm : a.eval m = .map (some M)) (h : SetMap w P k e M n mem) (hn : n < maxLen) (s : ByteArray) (hs : s.size ≤ maxLen) (hx : a.eval x = .string s) (hv : a.eval v = .bool true)
    (hK : ∀ w', SetMap w' P k e M (n + 1) (fun x => x == s.data.toList || mem x) → w.grownBy w' (some M) → wpList P ops Q rest (a.put o.dst undef) w') :
    wpList P ops Q (o :: rest) a w := by
  refine wpList_plain hg fun K' hK' => ?_
  obtain ⟨w', hrun, r1, r2⟩ := h.add hk ht he hn s hs
  unfold Oper.wp
  simp [execOp, hop, hm, hx, hv, hrun, Result.andThen]
  exact hK' _ _ (hK w' r1 r2)

theorem cell_set_far (w : World) (p q : Addr) (u : Value) (h : q.block ≠ p.block) : (w.setCell p u).cell? q = w.cell? q := World.cell?_of_block (w := w) (Below.heap_setCell w p u q.block h)

end Go.Proofs.Ytbniemkllhhnfaa
