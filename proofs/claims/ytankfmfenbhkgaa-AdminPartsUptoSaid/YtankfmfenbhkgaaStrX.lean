/-
  Parts of a string of bytes.
-/
import Derived.Test.YtankfmfenbhkgaaStr
import Derived.Laws.Strings2
namespace Go.Proofs.Ytankfmfenbhkgaa
open Go.RowKit
theorem strOfNums_extract (l : List Int) (a b : Nat) : (strOfNums l).extract a b = strOfNums ((l.drop a).take (b - a)) := by
  unfold strOfNums
  rw [ByteArray.extract_mk]
  simp [List.map_drop, List.map_take]
end Go.Proofs.Ytankfmfenbhkgaa
