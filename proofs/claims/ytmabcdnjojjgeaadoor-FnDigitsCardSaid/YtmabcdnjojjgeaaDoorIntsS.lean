/- Slices of ints: what the laws' helpers toIntS, eqIntS, markIntS, heldIntS and the library's Equal and Clone do. Conditions: the slice reads as the ints; where it is copied its length is bounded. -/
import Derived.Test.YtmabcdnjojjgeaaDoorRows
import Derived.Test.YtmabcdnjojjgeaaDoorBase
import Derived.Test.YtmabcdnjojjgeaaDoorNum
import Derived.Test.YtmabcdnjojjgeaaDoorApp
import Derived.WalkSpells
import Derived.Deep.QuietTactic
import Derived.BigQuiet
namespace Go.Proofs.YtmabcdnjojjgeaaDoor
open Go.RowKit
theorem info_int : (Tryd.prog.info? 3).map (fun i => (i.zero, i.size, i.bytes)) = some (some (.int .i64 0), 1, 8) := by kernel_rfl






/-- The marks from k on. -/
def markInt (k : Int) : Value := .int .i64 (k)
def marksInt (k : Int) (n : Nat) : List Value := (List.range n).map fun (i : Nat) => markInt (k + (i : Int))
theorem marksInt_len (k : Int) (n : Nat) : (marksInt k n).length = n := by simp [marksInt]
theorem marksInt_at (k : Int) (n i : Nat) (h : i < n) : (marksInt k n)[i]? = some (markInt (k + (i : Int))) := by simp [marksInt, h]

end Go.Proofs.YtmabcdnjojjgeaaDoor
