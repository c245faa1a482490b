/-
  General lemmas on worlds, strings and slices, over any program.
-/
import Derived.WalkKit
import Derived.WalkSpells
import Derived.WalkLawsBesides
import Derived.Laws.IdiomStrings
import Derived.Laws.BitsAllLaws
import Derived.Deep.QuietTactic
import Derived.BigQuiet
import Derived.Lib.Strings
import Derived.Deep.RegionWith
import Derived.Deep.DeepMust
import Derived.Deep.DeepFit
import Derived.Deep.LoopGhost
import Derived.Deep.RegionHeld3
import Derived.Laws.BytesArg
import Derived.OwnWalk
namespace Go.Proofs.Ytbniemkllhhnfaa
open Go.RowKit

theorem hid {p : Prop} (h : p) : Hid p := h
theorem ret_int {k : IntKind} {a b : Int} (h : a = b) : Ending.returned (.int k a) = .returned (.int k b) := by rw [h]
theorem ret_bool {a b : Bool} (h : a = b) : Ending.returned (.bool a) = .returned (.bool b) := by rw [h]
theorem vint {k : IntKind} {a b : Nat} (h : a = b) : Value.int k (a : Int) = Value.int k (b : Int) := by rw [h]
theorem ibeq (a b : Nat) : ((a : Int) == (b : Int)) = (a == b) := by rw [Bool.eq_iff_iff]; simp; omega
theorem ibeq100 (a : Nat) : ((a : Int) == 100) = (a == 100) := ibeq a 100

/-- All that was there is as it was. -/
def Ext (w w' : World) : Prop := Below w.heap.size w w'
theorem Ext.refl (w : World) : Ext w w := Below.refl _ _
theorem Ext.size {w w' : World} (h : Ext w w') : w.heap.size ≤ w'.heap.size := Below.size h
theorem Ext.trans {a b c : World} (h : Ext a b) (k : Ext b c) : Ext a c := Below.trans h (Below.mono k h.size)
theorem Ext.alloc {a b : World} (h : Ext a b) (o : Obj) : Ext a (b.alloc o) := Below.alloc h h.size o
theorem Ext.drew {a b : World} (h : Ext a b) : Ext a b.drew := Below.drew h
theorem Ext.drewN {a b : World} (h : Ext a b) (n : Nat) : Ext a (b.drewN n) := by
  have k : Below _ _ _ := h
  exact (⟨k.os, k.tape, k.output, k.size, k.block⟩ : Below a.heap.size a (b.drewN n))
theorem Ext.setCell {a b : World} (h : Ext a b) {p : Addr} (hp : a.heap.size ≤ p.block) (u : Value) : Ext a (b.setCell p u) := Below.setCell h hp u
theorem Ext.cell {w w' : World} (h : Ext w w') {p : Addr} (hp : p.block < w.heap.size) : w'.cell? p = w.cell? p := Below.cell h hp
theorem cell_lt {w : World} {a : Addr} {v : Value} (h : w.cell? a = some v) : a.block < w.heap.size := by
  rcases Nat.lt_or_ge a.block w.heap.size with h' | h'
  · exact h'
  · simp [World.cell?, Array.getElem?_eq_none h'] at h
theorem Ext.keep {w w' : World} (h : Ext w w') {p : Addr} {v : Value} (hp : w.cell? p = some v) : w'.cell? p = some v := (h.cell (cell_lt hp)).trans hp
theorem Ext.frozen {w w' : World} (h : Ext w w') {p : Addr} (hp : p.block < w.heap.size) : w'.frozen? p = w.frozen? p := Below.frozen h hp
theorem Ext.grown {a w w' : World} {row : Option Nat} (h : Ext a w) (hg : w.grownBy w' row) (hr : ∀ k, row = some k → a.heap.size ≤ k) : Ext a w' := Below.grown h hg h.size hr

/-- a string's bytes, as numbers -/
def N (s : ByteArray) : List Nat := s.data.toList.map UInt8.toNat
theorem N_len (s : ByteArray) : (N s).length = s.size := by simp [N]
theorem N_get (s : ByteArray) (k : Nat) (h : k < s.size) : (N s)[k]? = some s[k].toNat := by
  have h' : k < s.data.size := h
  show (s.data.toList.map UInt8.toNat)[k]? = some (s.data[k]).toNat
  rw [List.getElem?_map, Array.getElem?_toList, Array.getElem?_eq_getElem h']
  rfl
theorem N_lt (s : ByteArray) (x : Nat) (h : x ∈ N s) : x < 256 := by
  simp only [N, List.mem_map] at h
  obtain ⟨a, _, rfl⟩ := h
  exact a.toNat_lt
theorem N_getD (s : ByteArray) (k : Nat) (h : k < s.size) : (N s).getD k 0 = s[k].toNat := by
  rw [List.getD_eq_getElem?_getD, N_get s k h]; rfl
theorem N_take_succ (s : ByteArray) (k : Nat) (hk : k < s.size) : (N s).take (k + 1) = (N s).take k ++ [s[k].toNat] := by
  have hl : k < (N s).length := by rw [N_len]; exact hk
  rw [List.take_succ_eq_append_getElem hl]
  have he : (N s)[k] = s[k].toNat := by
    have := N_get s k hk
    rw [List.getElem?_eq_getElem hl] at this
    exact Option.some.inj this
  rw [he]
theorem N_inj {s t : ByteArray} (h : N s = N t) : s = t := by
  have h1 : s.data.toList = t.data.toList := by
    apply (List.map_inj_right (f := UInt8.toNat) fun a b h => UInt8.toNat_inj.1 h).1 h
  obtain ⟨⟨l⟩⟩ := s
  obtain ⟨⟨m⟩⟩ := t
  simp at h1
  rw [h1]
/-- an element, 0 where there is none -/
def at0 (l : List Nat) (i : Nat) : Nat := l.getD i 0
theorem at0_N (s : ByteArray) (k : Nat) (h : k < s.size) : at0 (N s) k = s[k].toNat := N_getD s k h
/-- numbers to a string -/
def S (l : List Nat) : ByteArray := ⟨(l.map UInt8.ofNat).toArray⟩
theorem N_S (l : List Nat) (h : ∀ x ∈ l, x < 256) : N (S l) = l := by
  simp only [N, S, List.map_map]
  conv => rhs; rw [← List.map_id l]
  apply List.map_congr_left
  intro x hx
  simp [Nat.mod_eq_of_lt (h x hx)]
theorem S_N (s : ByteArray) : S (N s) = s := by
  apply N_inj
  rw [N_S _ (N_lt s)]

section
variable {P : Program}
theorem grownCap_ge (w : World) (need old : Nat) (e : TypeId) : need ≤ grownCap w need old e := by
  exact Nat.le_add_right _ _
/-- '[]byte(s)' -/
theorem conv_bytes (w : World) (src dst e : TypeId) (s : ByteArray) (hs : P.underlying src = some .string) (hd : P.underlying dst = some (.slice e)) (he : P.underlying e = some (.int .u8)) :
    ∃ cap w2, (convert src dst (.string s)).run P w = .ok (.slice (some ⟨w.heap.size, 0, none⟩) s.size cap) w2 ∧ Ext w w2 ∧ w2.heap.size = w.heap.size + 1 ∧
      ∀ k (h : k < s.size), w2.cell? ⟨w.heap.size, k, none⟩ = some (.int .u8 s[k].toNat) := by
  refine ⟨_, _, run_bytes_of_string w src dst e s hs hd he, ((Ext.refl w).drew).alloc _, by simp, fun k h => ?_⟩
  rw [show w.heap.size = w.drew.heap.size from rfl, World.cell?_alloc_mark]
  have h' : k < s.data.size := h
  unfold bytesRow
  rw [Array.getElem?_append_left (by simpa using h'), Array.getElem?_map, Array.getElem?_eq_getElem h']
  rfl
end

/-- A world in which all that was there is as it was: the class of worlds for a region that draws its order and holds calls that make memory of their own. -/
structure Later (w : World) where
  now : World
  ext : Ext w now
instance Later.any (w : World) : Nonempty (Later w) := ⟨⟨w, Ext.refl w⟩⟩
theorem Later.keep {w : World} {p : Addr} {v : Value} (h : w.cell? p = some v) : ∀ x : Later w, x.now.cell? p = some v := fun x => x.ext.keep h
theorem later_out {w w' : World} (h : ∃ x : Later w, w' = x.now) : Ext w w' := by
  obtain ⟨x, rfl⟩ := h
  exact x.ext
theorem wp_region_later {P : Program} {id : Nat} {Q : Exit → Act → World → Prop} {a : Act} {w : World} {l : List Oper} (hm : P.follows .mixedOrders = true) (hB : Region.lexB .any l.toArray = true)
    (h : wpQuiet P l.toArray (fun w' => ∃ x : Later w, w' = x.now) (fun a' => ∀ w', (∃ x : Later w, w' = x.now) → Q .normal a' w') l a) : (Code.region id l.toArray true).wp P Q a w :=
  wp_region_quiet (C := fun w' => ∃ x : Later w, w' = x.now) hm hB ⟨⟨_, (Ext.refl w).drew⟩, rfl⟩ (by simpa using h)
theorem later_of {P : Program} {f : FuncId} {args : Array Value} {w : World} {v : Value} {x : Later w}
    (h : Calls P f args x.now fun e w' => e = .returned v ∧ Ext x.now w') : Calls P f args x.now fun e w'' => e = .returned v ∧ ∃ y : Later w, w'' = y.now :=
  h.mono fun _ _ ⟨he, hx⟩ => ⟨he, ⟨_, x.ext.trans hx⟩, rfl⟩
theorem later_same {P : Program} {f : FuncId} {args : Array Value} {w : World} {v : Value} {x : Later w}
    (h : Calls P f args x.now fun e w' => e = .returned v ∧ x.now = w') : Calls P f args x.now fun e w'' => e = .returned v ∧ ∃ y : Later w, w'' = y.now :=
  h.mono fun _ _ ⟨he, hx⟩ => ⟨he, x, hx.symm⟩
theorem quiet_left {P : Program} {f : FuncId} {args : Array Value} {w : World} {n : Nat} {v : Value}
    (h : Calls P f args (w.drewN n) fun e w' => e = .returned v ∧ w.drewN n = w') : Calls P f args (w.drewN n) fun e w'' => e = .returned v ∧ ∃ m, w'' = w.drewN m :=
  h.mono fun _ _ ⟨he, hm⟩ => ⟨he, n, hm.symm⟩

/-- strings in the walk's spelling -/
theorem str_empty (s : ByteArray) : s.toList.isEmpty = (N s).isEmpty := by
  rw [ByteArray.toList_eq]; unfold N; cases s.data.toList <;> rfl
theorem str_eq (s t : ByteArray) : (s.toList == t.toList) = (N s == N t) := by
  rw [ByteArray.toList_eq, ByteArray.toList_eq, Bool.eq_iff_iff, beq_iff_eq, beq_iff_eq]
  unfold N
  constructor
  · intro h; rw [h]
  · intro h; exact (List.map_inj_right (f := UInt8.toNat) fun a b h => UInt8.toNat_inj.1 h).1 h
theorem N_extract (s : ByteArray) (a b : Nat) : N (s.extract a b) = ((N s).drop a).take (b - a) := by
  unfold N
  rw [← ByteArray.toList_eq, Lib.extract_toList, List.map_take, List.map_drop]
theorem N_from (s : ByteArray) (a : Nat) : N (s.extract a s.size) = (N s).drop a := by
  rw [N_extract, List.take_of_length_le]
  rw [List.length_drop, N_len]; exact Nat.le_refl _

/-- A block that is known whole. -/
def Blk (w : World) (g : Nat) (t : TypeId) (cs : List Value) : Prop := w.heap[g]? = some (.cells cs.toArray t (0, 0))
section
variable {w w' : World} {g : Nat} {t : TypeId} {cs : List Value}
theorem Blk.lt (h : Blk w g t cs) : g < w.heap.size := by
  rcases Nat.lt_or_ge g w.heap.size with hl | hl
  · exact hl
  · unfold Blk at h; rw [Array.getElem?_eq_none hl] at h; cases h
theorem Blk.cell (h : Blk w g t cs) (i : Nat) : w.cell? ⟨g, i, none⟩ = cs[i]? := by
  unfold Blk at h
  simp [World.cell?, h]
theorem Blk.cell_some (h : Blk w g t cs) {i : Nat} {v : Value} (hv : cs[i]? = some v) : w.cell? ⟨g, i, none⟩ = some v := (h.cell i).trans hv
theorem Blk.frozen (h : Blk w g t cs) (i : Nat) : w.frozen? ⟨g, i, none⟩ = false := by
  unfold Blk at h
  simp [World.frozen?, h]
theorem Blk.of_new (w : World) (t : TypeId) (cs : List Value) : Blk (w.alloc (.cells cs.toArray t)) w.heap.size t cs := by
  unfold Blk
  show (w.heap.push _)[w.heap.size]? = _
  simp
theorem Blk.ext (h : Blk w g t cs) (hx : Ext w w') : Blk w' g t cs := (Below.block hx g h.lt).trans h
theorem Blk.drew (h : Blk w g t cs) : Blk w.drew g t cs := h
theorem Blk.set (h : Blk w g t cs) (i : Nat) (u : Value) : Blk (w.setCell ⟨g, i, none⟩ u) g t (cs.set i u) := by
  unfold Blk at h ⊢
  simp [World.setCell, Array.getElem?_modify, h]
theorem Blk.far (h : Blk w g t cs) {p : Addr} (hp : g ≠ p.block) (u : Value) : Blk (w.setCell p u) g t cs := (Below.heap_setCell w p u g hp).trans h
theorem Blk.grown {row : Option Nat} (h : Blk w g t cs) (hb : w.grownBy w' row) (hg : some g ≠ row) : Blk w' g t cs := (hb.block g h.lt hg).trans h
end
/-- Only block g, and what is new, has turned. -/
def Onl (g : Nat) (w w' : World) : Prop := w.grownBy w' (some g)
section
variable {w w' w2 : World} {g : Nat}
theorem Onl.refl (g : Nat) (w : World) : Onl g w w := ⟨rfl, rfl, rfl, Nat.le_refl _, fun _ _ _ => rfl⟩
theorem Onl.trans (h : Onl g w w') (k : Onl g w' w2) : Onl g w w2 :=
  ⟨k.os.trans h.os, k.tape.trans h.tape, k.output.trans h.output, Nat.le_trans h.size k.size, fun i hi hne => (k.block i (Nat.lt_of_lt_of_le hi h.size) hne).trans (h.block i hi hne)⟩
theorem Onl.of_ext (h : Ext w w') (g : Nat) : Onl g w w' := ⟨Below.os h, Below.tape h, Below.output h, Below.size h, fun i hi _ => Below.block h i hi⟩
theorem Onl.setCell (h : Onl g w w') (i : Nat) (u : Value) : Onl g w (w'.setCell ⟨g, i, none⟩ u) :=
  ⟨h.os, h.tape, h.output, by simpa [World.setCell] using h.size, fun k hk hne => (Below.heap_setCell w' ⟨g, i, none⟩ u k (fun e => hne (by rw [e]))).trans (h.block k hk hne)⟩
/-- what was there before block g was made is as it was -/
theorem Onl.ext (h : Onl g w' w2) (hx : Ext w w') (hg : w.heap.size ≤ g) : Ext w w2 :=
  Below.trans hx ⟨h.os, h.tape, h.output, h.size, fun k hk => h.block k (Nat.lt_of_lt_of_le hk hx.size) (fun e => by injection e with e; omega)⟩
theorem Onl.keep (h : Onl g w w') {p : Addr} {v : Value} (hp : w.cell? p = some v) (hne : p.block ≠ g) : w'.cell? p = some v :=
  (World.cell?_of_block (w := w) (h.block p.block (cell_lt hp) (fun e => hne (by injection e)))).trans hp
theorem Onl.blk (h : Onl g w w') {k : Nat} {t : TypeId} {cs : List Value} (hb : Blk w k t cs) (hne : k ≠ g) : Blk w' k t cs :=
  (h.block k hb.lt (fun e => hne (by injection e))).trans hb
end
/-- bytes as cells -/
def u8s (xs : List Nat) : List Value := xs.map fun (x : Nat) => .int .u8 (x : Int)
theorem u8s_len (xs : List Nat) : (u8s xs).length = xs.length := by simp [u8s]
theorem u8s_get (xs : List Nat) (i : Nat) (h : i < xs.length) : (u8s xs)[i]? = some (.int .u8 ((at0 xs i : Nat) : Int)) := by
  simp [u8s, at0, List.getElem?_map, List.getElem?_eq_getElem h]
theorem u8s_set (xs : List Nat) (i v : Nat) : u8s (xs.set i v) = (u8s xs).set i (.int .u8 (v : Int)) := by simp [u8s, List.map_set]
theorem strOf_S (xs : List Nat) : strOfNums (xs.map fun (x : Nat) => (x : Int)) = S xs := by
  unfold strOfNums S
  simp [Function.comp_def]
section
variable {P : Program}
theorem conv_string {w : World} (src dst e g n cap : Nat) (xs : List Nat) (hs : P.underlying src = some (.slice e)) (he : P.underlying e = some (.int .u8)) (hd : P.underlying dst = some .string)
    (hb : Blk w g e (u8s xs)) (hn : xs.length = n) : (convert src dst (.slice (some ⟨g, 0, none⟩) n cap)).run P w = .ok (.string (S xs)) w := by
  rw [run_convert_bytes_arg w src e hs he g 0 n cap (xs.map fun (x : Nat) => (x : Int)) (by simp [hn]) (fun i hi => ?_) dst hd, strOf_S]
  rw [Nat.zero_add, hb.cell i, u8s_get xs i (by omega)]
  simp [at0, List.getElem?_eq_getElem (show i < xs.length by omega)]
theorem conv_one (src dst e x : Nat) (hs : P.underlying src = some (.slice e)) (he : P.underlying e = some (.int .u8)) (hd : P.underlying dst = some .string) (W : World) (n : Nat) (hn : n = W.heap.size) :
    (convert src dst (.slice (some ⟨n, 0, none⟩) 1 1)).run P (W.alloc (.cells #[.int .u8 (x : Int)] e)) = .ok (.string (S [x])) (W.alloc (.cells #[.int .u8 (x : Int)] e)) := by
  subst hn
  exact conv_string src dst e W.heap.size 1 1 [x] hs he hd (Blk.of_new W e (u8s [x])) rfl
theorem madeCells_one (z : Value) (hz : z.cells = #[z]) (n : Nat) : madeCells z.cells n = (List.replicate n z).toArray := by
  rw [hz]
  apply Array.ext
  · simp [madeCells]
  · intro i h1 h2
    simp [madeCells, Nat.mod_one]
/-- 'make([]T, n)', one cell an element -/
theorem wpList_mk {w : World} {ops : Array Oper} {rest : List Oper} {o : Oper} {a : Act} {Q : Exit → Act → World → Prop}
    (hg : o.guard = none) (l c : Operand) (t : TypeId) (hop : o.op = Op.makeSlice t l c)
    (e : TypeId) (i : TypeInfo) (z : Value) (h1 : P.underlying t = some (.slice e)) (h2 : P.info? e = some i) (h3 : i.zero = some z) (h4 : i.size = 1) (h5 : z.cells = #[z])
    (kl kc : IntKind) (L C : Int) (n : Nat) (hl : a.eval l = .int kl L) (hc : a.eval c = .int kc C) (hL : L = (n : Int)) (hC : C = (n : Int)) (b2 : i.bytes * n ≤ 281474976710656) (b3 : n ≤ 9223372036854775807)
    (hK : ∀ w', Ext w w' → w'.heap.size = w.heap.size + 1 → Blk w' w.heap.size e (List.replicate n z) → wpList P ops Q rest (a.put o.dst (.slice (some ⟨w.heap.size, 0, none⟩) n n)) w') :
    wpList P ops Q (o :: rest) a w := by
  refine wpList_plain hg fun K hK' => ?_
  subst hL
  subst hC
  have hb : (i.bytes : Int) * (n : Int) ≤ 281474976710656 := by
    have h : ((i.bytes * n : Nat) : Int) ≤ 281474976710656 := by omega
    rwa [Int.natCast_mul] at h
  have hrun := run_make (P := P) w t e i z h1 h2 h3 kl kc n n (by omega) (by omega) hb (by omega)
  simp only [Int.toNat_natCast, h4, Nat.mul_one] at hrun
  rw [madeCells_one z h5] at hrun
  unfold Oper.wp
  simp [execOp, hop, hl, hc, hrun, Result.andThen]
  exact hK' _ _ (hK _ ((Ext.refl w).alloc _) (by simp) (Blk.of_new w e _))
end

/-- a boxed struct of four cells, in a later world -/
theorem box4 {w w2 : World} {a b c d : Value} {T : TypeId} (h : Ext (w.alloc (.cells #[a, b, c, d] T)) w2) :
    w2.cell? ⟨w.heap.size, 0, none⟩ = some a ∧ w2.cell? ⟨w.heap.size, 1, none⟩ = some b ∧ w2.cell? ⟨w.heap.size, 2, none⟩ = some c ∧ w2.cell? ⟨w.heap.size, 3, none⟩ = some d :=
  ⟨h.keep (World.cell?_alloc_new w #[a, b, c, d] T 0), h.keep (World.cell?_alloc_new w #[a, b, c, d] T 1), h.keep (World.cell?_alloc_new w #[a, b, c, d] T 2), h.keep (World.cell?_alloc_new w #[a, b, c, d] T 3)⟩
theorem ret_str {a b : ByteArray} (h : a = b) : Ending.returned (.string a) = .returned (.string b) := by rw [h]
theorem S_cons (a : Nat) (l : List Nat) : S (a :: l) = S [a] ++ S l := by
  apply ByteArray.ext
  simp [S]

theorem boxL (w : World) (a b c d : Value) (T : TypeId) :
    (∀ x : Later (w.alloc (.cells #[a, b, c, d] T)), x.now.cell? ⟨w.heap.size, 0, none⟩ = some a) ∧ (∀ x : Later (w.alloc (.cells #[a, b, c, d] T)), x.now.cell? ⟨w.heap.size, 1, none⟩ = some b) ∧
    (∀ x : Later (w.alloc (.cells #[a, b, c, d] T)), x.now.cell? ⟨w.heap.size, 2, none⟩ = some c) ∧ (∀ x : Later (w.alloc (.cells #[a, b, c, d] T)), x.now.cell? ⟨w.heap.size, 3, none⟩ = some d) :=
  ⟨fun x => (box4 x.ext).1, fun x => (box4 x.ext).2.1, fun x => (box4 x.ext).2.2.1, fun x => (box4 x.ext).2.2.2⟩

end Go.Proofs.Ytbniemkllhhnfaa
