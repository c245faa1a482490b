/-
  The library's contract of the search in a sorted slice of strings, laid at this program.
-/
import Derived.Shelf.Spec.SearchS
import Derived.Test.YtmnjfhjhbjhmhaaDoorProg
namespace Go.Proofs.YtmnjfhjhbjhmhaaDoor
open Go.Shelf
def Tryd.lays26_ren : Go.Shelf.Ren := ⟨fun | 26 => 32 | 33 => 49 | 34 => 50 | 38 => 54 | n => n, fun | 24 => 53 | 40 => 59 | n => n, fun | n => n⟩
theorem Tryd.lays26 : Go.Proofs.Lays2.n26 Tryd.prog Tryd.lays26_ren := {
  mixed := by kernel_rfl
  f26 := Tryd.func32.trans (congrArg some (by kernel_rfl))
  f33 := Tryd.func49.trans (congrArg some (by kernel_rfl))
  f34 := Tryd.func50.trans (congrArg some (by kernel_rfl))
  f38 := Tryd.func54.trans (congrArg some (by kernel_rfl))
  t0 := Tryd.underlying0
  a0 := Tryd.isAgg0
  z0 := Tryd.sizeOf0
  v0 := Tryd.zeroValue0
  t3 := Tryd.underlying3
  a3 := Tryd.isAgg3
  z3 := Tryd.sizeOf3
  v3 := Tryd.zeroValue3
  t4 := Tryd.underlying4
  a4 := Tryd.isAgg4
  z4 := Tryd.sizeOf4
  v4 := Tryd.zeroValue4
  t9 := Tryd.underlying9
  a9 := Tryd.isAgg9
  z9 := Tryd.sizeOf9
  v9 := Tryd.zeroValue9
  t24 := Tryd.underlying53
  a24 := Tryd.isAgg53
  z24 := Tryd.sizeOf53
  v24 := Tryd.zeroValue53
  t40 := Tryd.underlying59
  a40 := Tryd.isAgg59
  z40 := Tryd.sizeOf59
  v40 := Tryd.zeroValue59 }
open Go.RowKit in
theorem Tryd.slices_BinarySearch (b off n c : Nat) (Sx : Nat → ByteArray) (x : ByteArray) (w : World) (hbig : n < 4611686018427387904) (hc : ∀ j, j < n → w.cell? ⟨b, off + j, none⟩ = some (.string (Sx j))) :
    Calls Tryd.prog 32 #[.slice (some ⟨b, off, none⟩) n c, .string x] w fun e w' =>
      e = .returned (.tuple #[.int .i64 (Lib.bsGo (fun t => Op.bytesLess (Sx t).toList x.toList) n 0 n : Nat), .bool (decide (Lib.bsGo (fun t => Op.bytesLess (Sx t).toList x.toList) n 0 n < n ∧ Sx (Lib.bsGo (fun t => Op.bytesLess (Sx t).toList x.toList) n 0 n) = x))]) ∧ ∃ q, w' = w.drewN q := Any2.slices_BinarySearch_string Tryd.lays26 b off n c Sx x w hbig hc
end Go.Proofs.YtmnjfhjhbjhmhaaDoor
