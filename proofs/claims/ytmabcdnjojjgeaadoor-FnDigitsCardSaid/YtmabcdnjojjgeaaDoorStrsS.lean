/- Slices of strings: what the laws' helpers toStringS, eqStringS, markStringS, heldStringS and the library's Equal and Clone do. Conditions: the slice reads as the strings; where it is copied its length is bounded. -/
import Derived.Test.YtmabcdnjojjgeaaDoorRows
import Derived.Test.YtmabcdnjojjgeaaDoorBase
import Derived.Test.YtmabcdnjojjgeaaDoorApp
import Derived.WalkSpells
import Derived.Deep.QuietTactic
import Derived.BigQuiet
namespace Go.Proofs.YtmabcdnjojjgeaaDoor
open Go.RowKit
def sv (s : ByteArray) : Value := .string s
theorem info_string : (Tryd.prog.info? 9).map (fun i => (i.zero, i.size, i.bytes)) = some (some (.string ByteArray.empty), 1, 16) := by kernel_rfl
theorem sv_one (xs : List ByteArray) : ∀ u ∈ xs.map sv, u.oneCell' = true := by
  intro u hu; obtain ⟨_, _, rfl⟩ := List.mem_map.1 hu; rfl





end Go.Proofs.YtmabcdnjojjgeaaDoor
