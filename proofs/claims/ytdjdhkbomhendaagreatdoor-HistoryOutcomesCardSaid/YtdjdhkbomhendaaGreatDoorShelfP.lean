/-
  ParseInt at a text that spells no number: the error is not nil.
-/
import Derived.Test.YtdjdhkbomhendaaGreatDoorShelf
import Derived.Shelf.Strconv.ParseInt10All
namespace Go.Proofs.YtdjdhkbomhendaaGreatDoor
open Go.RowKit

/-- the library's error variables hold errors -/
def Er (w : World) : Prop := (∃ te pe, w.cell? ⟨2, 0, none⟩ = some (.iface te pe)) ∧ (∃ te pe, w.cell? ⟨3, 0, none⟩ = some (.iface te pe))
/-- a string that spells no int64: an error that is not nil -/
theorem parse_bad (s : ByteArray) (hlim : s.size ≤ 281474976710656) (h : ∀ v, Lib.parseIntB 64 s.data.toList ≠ .ok v) (w : World) (hE : Er w) :
    Calls Tryz.prog 94 #[.string s, .int .i64 10, .int .i64 64] w fun e w' => ∃ x ty p, e = .returned (.tuple #[.int .i64 x, .iface ty (.pointer (some p))]) ∧ Go.RowKit.Below w.heap.size w w' := by
  obtain ⟨⟨te, pe, h2⟩, ⟨tf, pf, h3⟩⟩ := hE
  cases hc : Lib.parseIntB 64 s.data.toList
  · exact absurd hc (h _)
  · refine (Any.strconv_ParseInt_10_at64_syntax Tryz.laysC174 s hlim hc _ w h2 (.inr ⟨te, pe, rfl⟩)).mono ?_
    rintro e w' ⟨n, rfl, _, _, hb⟩
    exact ⟨_, _, _, rfl, hb⟩
  · refine (Any.strconv_ParseInt_10_at64_range Tryz.laysC174 s hlim hc _ w h3 (.inr ⟨tf, pf, rfl⟩)).mono ?_
    rintro e w' ⟨n, rfl, _, _, hb⟩
    exact ⟨_, _, _, rfl, hb⟩
end Go.Proofs.YtdjdhkbomhendaaGreatDoor
