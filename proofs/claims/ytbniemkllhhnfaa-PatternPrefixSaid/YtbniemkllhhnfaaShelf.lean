/-
  strings.IndexAny's contract at this program, as the shelf's tools write it (lay-shelf.mjs, lay-plain.mjs), the namespace turned.
-/
import Derived.Shelf.Strings.IndexAny
import Derived.Shelf.Strings.AsciiSet
import Derived.Shelf.Strings.IndexAnyAll
import Derived.Test.YtbniemkllhhnfaaProg
namespace Go.Proofs.Ytbniemkllhhnfaa
open Go.Shelf
def Try.lays153_ren : Go.Shelf.Ren := ⟨fun | 153 => 45 | 152 => 57 | 226 => 58 | 227 => 59 | 228 => 60 | 137 => 62 | 119 => 63 | 224 => 64 | 225 => 65 | 217 => 66 | 266 => 68 | n => n, fun | 9 => 9 | 3 => 3 | 4 => 4 | 5 => 5 | 21 => 21 | 117 => 98 | 116 => 97 | 0 => 0 | 46 => 101 | 124 => 104 | n => n, fun | n => n⟩
theorem Try.lays153 : Go.Proofs.Lays.n153 Try.prog Try.lays153_ren := {
  mixed := by kernel_rfl
  f119 := Try.func63.trans (congrArg some (by kernel_rfl))
  f137 := Try.func62.trans (congrArg some (by kernel_rfl))
  f152 := Try.func57.trans (congrArg some (by kernel_rfl))
  f153 := Try.func45.trans (congrArg some (by kernel_rfl))
  f217 := Try.func66.trans (congrArg some (by kernel_rfl))
  f224 := Try.func64.trans (congrArg some (by kernel_rfl))
  f225 := Try.func65.trans (congrArg some (by kernel_rfl))
  f226 := Try.func58.trans (congrArg some (by kernel_rfl))
  f227 := Try.func59.trans (congrArg some (by kernel_rfl))
  f228 := Try.func60.trans (congrArg some (by kernel_rfl))
  f266 := Try.func68.trans (congrArg some (by kernel_rfl))
  t0 := Try.underlying0
  a0 := Try.isAgg0
  z0 := Try.sizeOf0
  v0 := Try.zeroValue0
  t3 := Try.underlying3
  a3 := Try.isAgg3
  z3 := Try.sizeOf3
  v3 := Try.zeroValue3
  t4 := Try.underlying4
  a4 := Try.isAgg4
  z4 := Try.sizeOf4
  v4 := Try.zeroValue4
  t5 := Try.underlying5
  a5 := Try.isAgg5
  z5 := Try.sizeOf5
  v5 := Try.zeroValue5
  t9 := Try.underlying9
  a9 := Try.isAgg9
  z9 := Try.sizeOf9
  v9 := Try.zeroValue9
  t21 := Try.underlying21
  a21 := Try.isAgg21
  z21 := Try.sizeOf21
  v21 := Try.zeroValue21
  t46 := Try.underlying101
  a46 := Try.isAgg101
  z46 := Try.sizeOf101
  v46 := Try.zeroValue101
  t116 := Try.underlying97
  a116 := Try.isAgg97
  z116 := Try.sizeOf97
  t117 := Try.underlying98
  a117 := Try.isAgg98
  z117 := Try.sizeOf98
  v117 := Try.zeroValue98
  t124 := Try.underlying104
  a124 := Try.isAgg104
  z124 := Try.sizeOf104
  v124 := Try.zeroValue104 }
open Go.RowKit in
theorem Try.strings_IndexAny_laid (s chars : ByteArray) (w : World) (hs : s.size < 4294967281) (hcs : chars.size < 4294967281) (has : ∀ (j : Nat) b, s.data.toList[j]? = some b → b.toNat < 128) (hac : ∀ (j : Nat) b, chars.data.toList[j]? = some b → b.toNat < 128) :
    Calls Try.prog 45 #[.string s, .string chars] w fun e w' => e = .returned (.int .i64 (Lib.indexAny s.data.toList chars.data.toList)) ∧ Below w.heap.size w w' := Any.strings_IndexAny_laid Try.lays153 (by kernel_rfl) s chars w hs hcs has hac
end Go.Proofs.Ytbniemkllhhnfaa
