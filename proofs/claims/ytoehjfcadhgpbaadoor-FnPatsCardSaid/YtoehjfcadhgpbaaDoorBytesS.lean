/- Slices of bytes: what the laws' helpers toByteS, eqByteS, markByteS, heldByteS and the library's Equal and Clone do. Conditions: the slice reads as the bytes; where it is copied its length is bounded. -/
import Derived.Test.YtoehjfcadhgpbaaDoorRows
import Derived.Test.YtoehjfcadhgpbaaDoorBase
import Derived.Test.YtoehjfcadhgpbaaDoorApp
import Derived.WalkSpells
import Derived.Deep.QuietTactic
import Derived.BigQuiet
namespace Go.Proofs.YtoehjfcadhgpbaaDoor
open Go.RowKit
def bv (b : UInt8) : Value := .int .u8 (b.toNat : Int)
theorem info_byte : (Tryd.prog.info? 5).map (fun i => (i.zero, i.size, i.bytes)) = some (some (.int .u8 0), 1, 1) := by kernel_rfl
theorem bv_one (xs : List UInt8) : ∀ u ∈ xs.map bv, u.oneCell' = true := by
  intro u hu; obtain ⟨_, _, rfl⟩ := List.mem_map.1 hu; rfl





/-- The marks from k on. -/
def markByte (k : Int) : Value := .int .u8 (IntKind.u8.wrap (k))
def marksByte (k : Int) (n : Nat) : List Value := (List.range n).map fun (i : Nat) => markByte (k + (i : Int))
theorem marksByte_len (k : Int) (n : Nat) : (marksByte k n).length = n := by simp [marksByte]
theorem marksByte_at (k : Int) (n i : Nat) (h : i < n) : (marksByte k n)[i]? = some (markByte (k + (i : Int))) := by simp [marksByte, h]

end Go.Proofs.YtoehjfcadhgpbaaDoor
