/-
  Walks over the value package's reference: Read.
-/
import Derived.Test.YtkldgehnioapcaaDoorW20
import Derived.Test.YtkldgehnioapcaaDoorW21
import Derived.Test.YtkldgehnioapcaaDoorW22
namespace Go.Proofs.YtkldgehnioapcaaDoor
open Go.RowKit
set_option linter.unusedVariables false
set_option maxHeartbeats 8000000
set_option maxRecDepth 100000

theorem read_any (s : ByteArray) (w : World) (hs : s.size ≤ 100) :
    Calls Tryd.prog 31 #[.string s] w fun e w' => e = .returned (.tuple #[.agg #[.int .i64 (prs s).1.k, .int .i64 (prs s).1.n, .string (prs s).1.t], .bool ((prs s).2 == 0)]) ∧ Ext w w' := by
  by_cases hnull : s = ⟨#[78, 85, 76, 76]⟩
  · exact read_null s w hs hnull
  · by_cases hq1 : s.data.toList.head? = some 39
    · exact read_text s w hs hnull hq1
    · by_cases hz : 0 < s.size
      · exact read_int1 s w hs hnull hq1 hz
      · exact read_int0 s w hs hnull hq1 hz

end Go.Proofs.YtkldgehnioapcaaDoor
