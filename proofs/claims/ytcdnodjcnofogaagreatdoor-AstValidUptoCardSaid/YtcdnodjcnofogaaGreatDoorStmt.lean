/-
  Statements: plain functions, and how they lie in memory.
-/
import Derived.Test.YtcdnodjcnofogaaGreatDoorW21
namespace Go.Proofs.YtcdnodjcnofogaaGreatDoor
open Go.RowKit
set_option linter.unusedVariables false
set_option maxHeartbeats 400000

/-- a column of a definition -/
structure Cd where
  nm : ByteArray
  ty : Int
  lo : Int
  hi : Int
  mx : Int
  nn : Bool
/-- a foreign key -/
structure Rf where
  cs : List ByteArray
  tb : ByteArray
  tg : List ByteArray
/-- an assignment -/
structure Asg where
  cl : ByteArray
  ix : Int
  ex : Ex
/-- an item of a SELECT list -/
structure Itm where
  ag : Int
  ex : Ex
/-- a source -/
structure Src where
  tb : ByteArray
  al : ByteArray
/-- an element of ORDER BY -/
structure Ord' where
  it : Int
  ds : Bool
/-- a statement -/
structure St where
  kd : Int
  tb : ByteArray
  cols : List Cd
  keys : List (List ByteArray)
  frs : List Rf
  chk : List Ex
  vals : List (List Ex)
  sets : List Asg
  itms : List Itm
  frm : List Src
  whr : Ex
  grp : List Ex
  ord : List Ord'
  lim : Int
  nm : ByteArray
/-- the expressions of a statement, as the program lists them -/
def St.all (s : St) : List Ex := s.chk ++ s.vals.flatten ++ s.grp ++ s.sets.map Asg.ex ++ s.itms.map Itm.ex ++ [s.whr]

section
variable {w w' : World}
/-- a slice of strings -/
def StrsAt (w : World) (A : Option Addr) (l : List ByteArray) : Prop :=
  ∀ (i : Nat) (s : ByteArray), l[i]? = some s → s.size ≤ 9223372036854775807 ∧ ∃ b off, A = some ⟨b, off, none⟩ ∧ w.cell? ⟨b, off + i, none⟩ = some (.string s)
theorem StrsAt.ext {A : Option Addr} {l : List ByteArray} (h : StrsAt w A l) (hx : Ext w w') : StrsAt w' A l := fun i s hs => by
  obtain ⟨h1, b, off, hA, hc⟩ := h i s hs
  exact ⟨h1, b, off, hA, hx.keep hc⟩
/-- a slice of columns -/
def CdsAt (w : World) (A : Option Addr) (l : List Cd) : Prop :=
  ∀ (i : Nat) (x : Cd), l[i]? = some x → (x.nm.size ≤ 9223372036854775807 ∧ I64 x.ty ∧ I64 x.lo ∧ I64 x.hi ∧ I64 x.mx) ∧ ∃ b off, A = some ⟨b, off, none⟩ ∧ w.cell? ⟨b, off + i * 6, none⟩ = some (.string x.nm) ∧ w.cell? ⟨b, off + i * 6 + 1, none⟩ = some (.int .i64 x.ty) ∧
    w.cell? ⟨b, off + i * 6 + 2, none⟩ = some (.int .i64 x.lo) ∧ w.cell? ⟨b, off + i * 6 + 3, none⟩ = some (.int .i64 x.hi) ∧ w.cell? ⟨b, off + i * 6 + 4, none⟩ = some (.int .i64 x.mx) ∧ w.cell? ⟨b, off + i * 6 + 5, none⟩ = some (.bool x.nn)
theorem CdsAt.ext {A : Option Addr} {l : List Cd} (h : CdsAt w A l) (hx : Ext w w') : CdsAt w' A l := fun i s hs => by
  obtain ⟨h0, b, off, hA, h1, h2, h3, h4, h5, h6⟩ := h i s hs
  exact ⟨h0, b, off, hA, hx.keep h1, hx.keep h2, hx.keep h3, hx.keep h4, hx.keep h5, hx.keep h6⟩
/-- a slice of slices of strings -/
def KeysAt (w : World) (A : Option Addr) (L : List (List ByteArray)) : Prop :=
  ∀ (i : Nat) (l : List ByteArray), L[i]? = some l → ∃ b off Ai ni ci, A = some ⟨b, off, none⟩ ∧ w.cell? ⟨b, off + i, none⟩ = some (.slice Ai ni ci) ∧ l.length = ni ∧ ni ≤ 9223372036854775807 ∧ StrsAt w Ai l
theorem KeysAt.ext {A : Option Addr} {L : List (List ByteArray)} (h : KeysAt w A L) (hx : Ext w w') : KeysAt w' A L := fun i l hl => by
  obtain ⟨b, off, Ai, ni, ci, hA, hc, hn, hm, hk⟩ := h i l hl
  exact ⟨b, off, Ai, ni, ci, hA, hx.keep hc, hn, hm, hk.ext hx⟩
/-- a slice of foreign keys -/
def RfsAt (w : World) (A : Option Addr) (l : List Rf) : Prop :=
  ∀ (i : Nat) (x : Rf), l[i]? = some x → x.tb.size ≤ 9223372036854775807 ∧ ∃ b off A1 n1 c1 A2 n2 c2, A = some ⟨b, off, none⟩ ∧ w.cell? ⟨b, off + i * 3, none⟩ = some (.slice A1 n1 c1) ∧ w.cell? ⟨b, off + i * 3 + 1, none⟩ = some (.string x.tb) ∧
    w.cell? ⟨b, off + i * 3 + 2, none⟩ = some (.slice A2 n2 c2) ∧ x.cs.length = n1 ∧ n1 ≤ 9223372036854775807 ∧ StrsAt w A1 x.cs ∧ x.tg.length = n2 ∧ n2 ≤ 9223372036854775807 ∧ StrsAt w A2 x.tg
theorem RfsAt.ext {A : Option Addr} {l : List Rf} (h : RfsAt w A l) (hx : Ext w w') : RfsAt w' A l := fun i s hs => by
  obtain ⟨h0, b, off, A1, n1, c1, A2, n2, c2, hA, h1, h2, h3, h4, h5, h6, h7, h8, h9⟩ := h i s hs
  exact ⟨h0, b, off, A1, n1, c1, A2, n2, c2, hA, hx.keep h1, hx.keep h2, hx.keep h3, h4, h5, h6.ext hx, h7, h8, h9.ext hx⟩
/-- a slice of assignments -/
def AsgsAt (w : World) (A : Option Addr) (l : List Asg) : Prop :=
  ∀ (i : Nat) (x : Asg), l[i]? = some x → (x.cl.size ≤ 9223372036854775807 ∧ I64 x.ix) ∧ ∃ b off A' n c, A = some ⟨b, off, none⟩ ∧ w.cell? ⟨b, off + i * 10, none⟩ = some (.string x.cl) ∧ w.cell? ⟨b, off + i * 10 + 1, none⟩ = some (.int .i64 x.ix) ∧ EltAt w b (off + i * 10 + 2) x.ex A' n c
theorem elt_ext {b o : Nat} {e : Ex} {A : Option Addr} {n c : Nat} (h : EltAt w b o e A n c) (hx : Ext w w') : EltAt w' b o e A n c :=
  ⟨hx.keep h.c0, hx.keep h.c1, hx.keep h.c2, hx.keep h.c3, hx.keep h.c4, hx.keep h.c5, hx.keep h.c6, hx.keep h.c7, h.val.ext hx⟩
theorem AsgsAt.ext {A : Option Addr} {l : List Asg} (h : AsgsAt w A l) (hx : Ext w w') : AsgsAt w' A l := fun i s hs => by
  obtain ⟨h0, b, off, A', n, c, hA, h1, h2, h3⟩ := h i s hs
  exact ⟨h0, b, off, A', n, c, hA, hx.keep h1, hx.keep h2, elt_ext h3 hx⟩
/-- a slice of items -/
def ItmsAt (w : World) (A : Option Addr) (l : List Itm) : Prop :=
  ∀ (i : Nat) (x : Itm), l[i]? = some x → I64 x.ag ∧ ∃ b off A' n c, A = some ⟨b, off, none⟩ ∧ w.cell? ⟨b, off + i * 9, none⟩ = some (.int .i64 x.ag) ∧ EltAt w b (off + i * 9 + 1) x.ex A' n c
theorem ItmsAt.ext {A : Option Addr} {l : List Itm} (h : ItmsAt w A l) (hx : Ext w w') : ItmsAt w' A l := fun i s hs => by
  obtain ⟨h0, b, off, A', n, c, hA, h1, h2⟩ := h i s hs
  exact ⟨h0, b, off, A', n, c, hA, hx.keep h1, elt_ext h2 hx⟩
/-- a slice of sources -/
def SrcsAt (w : World) (A : Option Addr) (l : List Src) : Prop :=
  ∀ (i : Nat) (x : Src), l[i]? = some x → (x.tb.size ≤ 9223372036854775807 ∧ x.al.size ≤ 9223372036854775807) ∧ ∃ b off, A = some ⟨b, off, none⟩ ∧ w.cell? ⟨b, off + i * 2, none⟩ = some (.string x.tb) ∧ w.cell? ⟨b, off + i * 2 + 1, none⟩ = some (.string x.al)
theorem SrcsAt.ext {A : Option Addr} {l : List Src} (h : SrcsAt w A l) (hx : Ext w w') : SrcsAt w' A l := fun i s hs => by
  obtain ⟨h0, b, off, hA, h1, h2⟩ := h i s hs
  exact ⟨h0, b, off, hA, hx.keep h1, hx.keep h2⟩
/-- a slice of elements of ORDER BY -/
def OrdsAt (w : World) (A : Option Addr) (l : List Ord') : Prop :=
  ∀ (i : Nat) (x : Ord'), l[i]? = some x → I64 x.it ∧ ∃ b off, A = some ⟨b, off, none⟩ ∧ w.cell? ⟨b, off + i * 2, none⟩ = some (.int .i64 x.it) ∧ w.cell? ⟨b, off + i * 2 + 1, none⟩ = some (.bool x.ds)
theorem OrdsAt.ext {A : Option Addr} {l : List Ord'} (h : OrdsAt w A l) (hx : Ext w w') : OrdsAt w' A l := fun i s hs => by
  obtain ⟨h0, b, off, hA, h1, h2⟩ := h i s hs
  exact ⟨h0, b, off, hA, hx.keep h1, hx.keep h2⟩
end
/-- where the slices of a statement lie -/
structure Sl where
  A : Option Addr
  n : Nat
  c : Nat
def Sl.v (s : Sl) : Value := .slice s.A s.n s.c
structure SA where
  cols : Sl
  keys : Sl
  frs : Sl
  chk : Sl
  vals : Sl
  sets : Sl
  itms : Sl
  frm : Sl
  whr : Sl
  grp : Sl
  ord : Sl
def St.cells (s : St) (a : SA) : List Value :=
  [.int .i64 s.kd, .string s.tb, a.cols.v, a.keys.v, a.frs.v, a.chk.v, a.vals.v, a.sets.v, a.itms.v, a.frm.v, .int .i64 s.whr.d.op, .string s.whr.d.tb, .string s.whr.d.nm, .int .i64 s.whr.d.ix, .int .i64 s.whr.d.vk, .int .i64 s.whr.d.vi, .string s.whr.d.vt, a.whr.v,
    a.grp.v, a.ord.v, .int .i64 s.lim, .string s.nm]
def St.val (s : St) (a : SA) : Value := .agg (s.cells a).toArray
/-- a statement lies in memory -/
structure StV (w : World) (s : St) (a : SA) : Prop where
  kd : I64 s.kd
  tb : s.tb.size ≤ 9223372036854775807
  lim : I64 s.lim
  nm : s.nm.size ≤ 9223372036854775807
  cols : s.cols.length = a.cols.n ∧ a.cols.n ≤ 9223372036854775807 ∧ CdsAt w a.cols.A s.cols
  keys : s.keys.length = a.keys.n ∧ a.keys.n ≤ 9223372036854775807 ∧ KeysAt w a.keys.A s.keys
  frs : s.frs.length = a.frs.n ∧ a.frs.n ≤ 9223372036854775807 ∧ RfsAt w a.frs.A s.frs
  chk : s.chk.length = a.chk.n ∧ a.chk.n ≤ 9223372036854775807 ∧ KidsAt w a.chk.A s.chk
  vals : s.vals.length = a.vals.n ∧ a.vals.n ≤ 9223372036854775807 ∧ RowsAt w a.vals.A s.vals
  valn : ∀ l ∈ s.vals, l.length ≤ 9223372036854775807
  sets : s.sets.length = a.sets.n ∧ a.sets.n ≤ 9223372036854775807 ∧ AsgsAt w a.sets.A s.sets
  itms : s.itms.length = a.itms.n ∧ a.itms.n ≤ 9223372036854775807 ∧ ItmsAt w a.itms.A s.itms
  frm : s.frm.length = a.frm.n ∧ a.frm.n ≤ 9223372036854775807 ∧ SrcsAt w a.frm.A s.frm
  whr : ExV w s.whr a.whr.A a.whr.n a.whr.c
  grp : s.grp.length = a.grp.n ∧ a.grp.n ≤ 9223372036854775807 ∧ KidsAt w a.grp.A s.grp
  ord : s.ord.length = a.ord.n ∧ a.ord.n ≤ 9223372036854775807 ∧ OrdsAt w a.ord.A s.ord
theorem StV.ext {w w' : World} {s : St} {a : SA} (h : StV w s a) (hx : Ext w w') : StV w' s a :=
  ⟨h.kd, h.tb, h.lim, h.nm, ⟨h.cols.1, h.cols.2.1, h.cols.2.2.ext hx⟩, ⟨h.keys.1, h.keys.2.1, h.keys.2.2.ext hx⟩, ⟨h.frs.1, h.frs.2.1, h.frs.2.2.ext hx⟩, ⟨h.chk.1, h.chk.2.1, h.chk.2.2.ext hx⟩, ⟨h.vals.1, h.vals.2.1, h.vals.2.2.ext hx⟩, h.valn,
    ⟨h.sets.1, h.sets.2.1, h.sets.2.2.ext hx⟩, ⟨h.itms.1, h.itms.2.1, h.itms.2.2.ext hx⟩, ⟨h.frm.1, h.frm.2.1, h.frm.2.2.ext hx⟩, h.whr.ext hx, ⟨h.grp.1, h.grp.2.1, h.grp.2.2.ext hx⟩, ⟨h.ord.1, h.ord.2.1, h.ord.2.2.ext hx⟩⟩
end Go.Proofs.YtcdnodjcnofogaaGreatDoor
