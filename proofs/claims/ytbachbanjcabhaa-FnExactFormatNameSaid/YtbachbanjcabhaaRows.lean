/-
  No cell of these rows narrows 'for every input' (looked for: loops, veiled, ifaces, maps, wideKeys, modest, calm, conditions, laid).
  DERIVED. THE GIVEN ROWS OF THIS SEAT. 15 by the template 'for every input the law returns true; each argument reads behind the call as it read before'; 0 by the template 'total and deterministic' (their statements: YtbachbanjcabhaaTotals.lean).
  GIVEN WITH THE SEED: the statements are not yours to turn. If you find one false, say at which input.
  Laid BY PROGRAM, IN A SANDBOX (cutbox-rows.mjs): the forced cells as the released guide's own fill.sh prints them over the translation 2aee5855d0635227… (all of the seat's roots in one cut). By AI agents, Wed Nov 11 2026. No macro, syntax, notation, axiom, sorry.
-/
import Derived.Test.YtbachbanjcabhaaChecked
import GoSem.Claim
import GoSem.ClaimJoined
import GoSem.ClaimMapViews
import Derived.JoinedTies
import Derived.KernelRfl
namespace Go.Proofs.Ytbachbanjcabhaa
/- THE CELL 'sum', in the pinned program and in every row, IS THE sha256 OF THE DUMP (.gsa) THAT YtbachbanjcabhaaProg.lean LOADS. Nothing in Lean hashes anything: it is a label: what it is worth is what the hold of that sum in a sandbox is worth. -/
noncomputable def Try.pinned : Pinned := { name := "ytbachbanjcabhaa", sum := "2aee5855d06352279e1673b3f82eb1cfc5d4dacc92755d74069ec4523bb70128", checked := Try.checked }
namespace Rows
def none {H : Type} : Left H := { results := [], args := [] }

/-- 'laws.FnExactBindingValue': WHATEVER THE INPUT: true; the input reads as it did. -/
def fnExactBindingValueSpec : ChangeSpec := { name := "fnExactBindingValue", fn := fun _ => fun
  | [d1, d2] => { results := [.lit (.bool true)], args := [d1, d2] }
  | _ => none }
def fnExactBindingValueRow : OpenClaim := { program := "ytbachbanjcabhaa", sum := "2aee5855d06352279e1673b3f82eb1cfc5d4dacc92755d74069ec4523bb70128", func := "loop.example/g00507/laws.FnExactBindingValue", spec := "fnExactBindingValue", apart := false }
def FnExactBindingValueSaid : Prop := fnExactBindingValueRow.holds Try.pinned (OpenSpec.ofChange fnExactBindingValueSpec)

/-- ITS FALSE NEIGHBOUR: 'it returns false'. Refute it at one input. -/
def fnExactBindingValueWrong : ChangeSpec := { name := "fnExactBindingValue", fn := fun _ => fun
  | [d1, d2] => { results := [.lit (.bool false)], args := [d1, d2] }
  | _ => none }
def FnExactBindingValueWrongFalsely : Prop := fnExactBindingValueRow.holds Try.pinned (OpenSpec.ofChange fnExactBindingValueWrong)

/-- 'laws.FnExactEqualNames': WHATEVER THE INPUT: true; the input reads as it did. -/
def fnExactEqualNamesSpec : ChangeSpec := { name := "fnExactEqualNames", fn := fun _ => fun
  | [d1, d2] => { results := [.lit (.bool true)], args := [d1, d2] }
  | _ => none }
def fnExactEqualNamesRow : OpenClaim := { program := "ytbachbanjcabhaa", sum := "2aee5855d06352279e1673b3f82eb1cfc5d4dacc92755d74069ec4523bb70128", func := "loop.example/g00507/laws.FnExactEqualNames", spec := "fnExactEqualNames", apart := false }
def FnExactEqualNamesSaid : Prop := fnExactEqualNamesRow.holds Try.pinned (OpenSpec.ofChange fnExactEqualNamesSpec)

/-- ITS FALSE NEIGHBOUR: 'it returns false'. Refute it at one input. -/
def fnExactEqualNamesWrong : ChangeSpec := { name := "fnExactEqualNames", fn := fun _ => fun
  | [d1, d2] => { results := [.lit (.bool false)], args := [d1, d2] }
  | _ => none }
def FnExactEqualNamesWrongFalsely : Prop := fnExactEqualNamesRow.holds Try.pinned (OpenSpec.ofChange fnExactEqualNamesWrong)

/-- 'laws.FnExactValidPattern': WHATEVER THE INPUT: true; the input reads as it did. -/
def fnExactValidPatternSpec : ChangeSpec := { name := "fnExactValidPattern", fn := fun _ => fun
  | [d] => { results := [.lit (.bool true)], args := [d] }
  | _ => none }
def fnExactValidPatternRow : OpenClaim := { program := "ytbachbanjcabhaa", sum := "2aee5855d06352279e1673b3f82eb1cfc5d4dacc92755d74069ec4523bb70128", func := "loop.example/g00507/laws.FnExactValidPattern", spec := "fnExactValidPattern", apart := false }
def FnExactValidPatternSaid : Prop := fnExactValidPatternRow.holds Try.pinned (OpenSpec.ofChange fnExactValidPatternSpec)

/-- ITS FALSE NEIGHBOUR: 'it returns false'. Refute it at one input. -/
def fnExactValidPatternWrong : ChangeSpec := { name := "fnExactValidPattern", fn := fun _ => fun
  | [d] => { results := [.lit (.bool false)], args := [d] }
  | _ => none }
def FnExactValidPatternWrongFalsely : Prop := fnExactValidPatternRow.holds Try.pinned (OpenSpec.ofChange fnExactValidPatternWrong)

/-- 'laws.FnExactValidName': WHATEVER THE INPUT: true; the input reads as it did. -/
def fnExactValidNameSpec : ChangeSpec := { name := "fnExactValidName", fn := fun _ => fun
  | [d] => { results := [.lit (.bool true)], args := [d] }
  | _ => none }
def fnExactValidNameRow : OpenClaim := { program := "ytbachbanjcabhaa", sum := "2aee5855d06352279e1673b3f82eb1cfc5d4dacc92755d74069ec4523bb70128", func := "loop.example/g00507/laws.FnExactValidName", spec := "fnExactValidName", unfollowed := true, recurses := true, apart := false }
def FnExactValidNameSaid : Prop := fnExactValidNameRow.holds Try.pinned (OpenSpec.ofChange fnExactValidNameSpec)

/-- ITS FALSE NEIGHBOUR: 'it returns false'. Refute it at one input. -/
def fnExactValidNameWrong : ChangeSpec := { name := "fnExactValidName", fn := fun _ => fun
  | [d] => { results := [.lit (.bool false)], args := [d] }
  | _ => none }
def FnExactValidNameWrongFalsely : Prop := fnExactValidNameRow.holds Try.pinned (OpenSpec.ofChange fnExactValidNameWrong)

/-- 'laws.FnExactHasPrefix': WHATEVER THE INPUT: true; the input reads as it did. -/
def fnExactHasPrefixSpec : ChangeSpec := { name := "fnExactHasPrefix", fn := fun _ => fun
  | [d1, d2] => { results := [.lit (.bool true)], args := [d1, d2] }
  | _ => none }
def fnExactHasPrefixRow : OpenClaim := { program := "ytbachbanjcabhaa", sum := "2aee5855d06352279e1673b3f82eb1cfc5d4dacc92755d74069ec4523bb70128", func := "loop.example/g00507/laws.FnExactHasPrefix", spec := "fnExactHasPrefix", apart := false }
def FnExactHasPrefixSaid : Prop := fnExactHasPrefixRow.holds Try.pinned (OpenSpec.ofChange fnExactHasPrefixSpec)

/-- ITS FALSE NEIGHBOUR: 'it returns false'. Refute it at one input. -/
def fnExactHasPrefixWrong : ChangeSpec := { name := "fnExactHasPrefix", fn := fun _ => fun
  | [d1, d2] => { results := [.lit (.bool false)], args := [d1, d2] }
  | _ => none }
def FnExactHasPrefixWrongFalsely : Prop := fnExactHasPrefixRow.holds Try.pinned (OpenSpec.ofChange fnExactHasPrefixWrong)

/-- 'laws.FnExactCompareNames': WHATEVER THE INPUT: true; the input reads as it did. -/
def fnExactCompareNamesSpec : ChangeSpec := { name := "fnExactCompareNames", fn := fun _ => fun
  | [d1, d2] => { results := [.lit (.bool true)], args := [d1, d2] }
  | _ => none }
def fnExactCompareNamesRow : OpenClaim := { program := "ytbachbanjcabhaa", sum := "2aee5855d06352279e1673b3f82eb1cfc5d4dacc92755d74069ec4523bb70128", func := "loop.example/g00507/laws.FnExactCompareNames", spec := "fnExactCompareNames", apart := false }
def FnExactCompareNamesSaid : Prop := fnExactCompareNamesRow.holds Try.pinned (OpenSpec.ofChange fnExactCompareNamesSpec)

/-- ITS FALSE NEIGHBOUR: 'it returns false'. Refute it at one input. -/
def fnExactCompareNamesWrong : ChangeSpec := { name := "fnExactCompareNames", fn := fun _ => fun
  | [d1, d2] => { results := [.lit (.bool false)], args := [d1, d2] }
  | _ => none }
def FnExactCompareNamesWrongFalsely : Prop := fnExactCompareNamesRow.holds Try.pinned (OpenSpec.ofChange fnExactCompareNamesWrong)

/-- 'laws.FnExactTruncate': WHATEVER THE INPUT: true; the input reads as it did. -/
def fnExactTruncateSpec : ChangeSpec := { name := "fnExactTruncate", fn := fun _ => fun
  | [d1, d2] => { results := [.lit (.bool true)], args := [d1, d2] }
  | _ => none }
def fnExactTruncateRow : OpenClaim := { program := "ytbachbanjcabhaa", sum := "2aee5855d06352279e1673b3f82eb1cfc5d4dacc92755d74069ec4523bb70128", func := "loop.example/g00507/laws.FnExactTruncate", spec := "fnExactTruncate", apart := false }
def FnExactTruncateSaid : Prop := fnExactTruncateRow.holds Try.pinned (OpenSpec.ofChange fnExactTruncateSpec)

/-- ITS FALSE NEIGHBOUR: 'it returns false'. Refute it at one input. -/
def fnExactTruncateWrong : ChangeSpec := { name := "fnExactTruncate", fn := fun _ => fun
  | [d1, d2] => { results := [.lit (.bool false)], args := [d1, d2] }
  | _ => none }
def FnExactTruncateWrongFalsely : Prop := fnExactTruncateRow.holds Try.pinned (OpenSpec.ofChange fnExactTruncateWrong)

/-- 'laws.FnExactFormatName': WHATEVER THE INPUT: true; the input reads as it did. -/
def fnExactFormatNameSpec : ChangeSpec := { name := "fnExactFormatName", fn := fun _ => fun
  | [d] => { results := [.lit (.bool true)], args := [d] }
  | _ => none }
def fnExactFormatNameRow : OpenClaim := { program := "ytbachbanjcabhaa", sum := "2aee5855d06352279e1673b3f82eb1cfc5d4dacc92755d74069ec4523bb70128", func := "loop.example/g00507/laws.FnExactFormatName", spec := "fnExactFormatName", inPlace := ["internal/abi.NoEscape", "internal/bytealg.MakeNoZero"], apart := false }
def FnExactFormatNameSaid : Prop := fnExactFormatNameRow.holds Try.pinned (OpenSpec.ofChange fnExactFormatNameSpec)

/-- ITS FALSE NEIGHBOUR: 'it returns false'. Refute it at one input. -/
def fnExactFormatNameWrong : ChangeSpec := { name := "fnExactFormatName", fn := fun _ => fun
  | [d] => { results := [.lit (.bool false)], args := [d] }
  | _ => none }
def FnExactFormatNameWrongFalsely : Prop := fnExactFormatNameRow.holds Try.pinned (OpenSpec.ofChange fnExactFormatNameWrong)

/-- 'laws.FnExactFormatPattern': WHATEVER THE INPUT: true; the input reads as it did. -/
def fnExactFormatPatternSpec : ChangeSpec := { name := "fnExactFormatPattern", fn := fun _ => fun
  | [d] => { results := [.lit (.bool true)], args := [d] }
  | _ => none }
def fnExactFormatPatternRow : OpenClaim := { program := "ytbachbanjcabhaa", sum := "2aee5855d06352279e1673b3f82eb1cfc5d4dacc92755d74069ec4523bb70128", func := "loop.example/g00507/laws.FnExactFormatPattern", spec := "fnExactFormatPattern", inPlace := ["internal/abi.NoEscape", "internal/bytealg.MakeNoZero"], apart := false }
def FnExactFormatPatternSaid : Prop := fnExactFormatPatternRow.holds Try.pinned (OpenSpec.ofChange fnExactFormatPatternSpec)

/-- ITS FALSE NEIGHBOUR: 'it returns false'. Refute it at one input. -/
def fnExactFormatPatternWrong : ChangeSpec := { name := "fnExactFormatPattern", fn := fun _ => fun
  | [d] => { results := [.lit (.bool false)], args := [d] }
  | _ => none }
def FnExactFormatPatternWrongFalsely : Prop := fnExactFormatPatternRow.holds Try.pinned (OpenSpec.ofChange fnExactFormatPatternWrong)

/-- 'laws.FnExactAppendPart': WHATEVER THE INPUT: true; the input reads as it did. -/
def fnExactAppendPartSpec : ChangeSpec := { name := "fnExactAppendPart", fn := fun _ => fun
  | [d1, d2] => { results := [.lit (.bool true)], args := [d1, d2] }
  | _ => none }
def fnExactAppendPartRow : OpenClaim := { program := "ytbachbanjcabhaa", sum := "2aee5855d06352279e1673b3f82eb1cfc5d4dacc92755d74069ec4523bb70128", func := "loop.example/g00507/laws.FnExactAppendPart", spec := "fnExactAppendPart", unfollowed := true, recurses := true, apart := false }
def FnExactAppendPartSaid : Prop := fnExactAppendPartRow.holds Try.pinned (OpenSpec.ofChange fnExactAppendPartSpec)

/-- ITS FALSE NEIGHBOUR: 'it returns false'. Refute it at one input. -/
def fnExactAppendPartWrong : ChangeSpec := { name := "fnExactAppendPart", fn := fun _ => fun
  | [d1, d2] => { results := [.lit (.bool false)], args := [d1, d2] }
  | _ => none }
def FnExactAppendPartWrongFalsely : Prop := fnExactAppendPartRow.holds Try.pinned (OpenSpec.ofChange fnExactAppendPartWrong)

/-- 'laws.FnExactEqualInterests': WHATEVER THE INPUT: true; the input reads as it did. -/
def fnExactEqualInterestsSpec : ChangeSpec := { name := "fnExactEqualInterests", fn := fun _ => fun
  | [d1, d2] => { results := [.lit (.bool true)], args := [d1, d2] }
  | _ => none }
def fnExactEqualInterestsRow : OpenClaim := { program := "ytbachbanjcabhaa", sum := "2aee5855d06352279e1673b3f82eb1cfc5d4dacc92755d74069ec4523bb70128", func := "loop.example/g00507/laws.FnExactEqualInterests", spec := "fnExactEqualInterests", apart := false }
def FnExactEqualInterestsSaid : Prop := fnExactEqualInterestsRow.holds Try.pinned (OpenSpec.ofChange fnExactEqualInterestsSpec)

/-- ITS FALSE NEIGHBOUR: 'it returns false'. Refute it at one input. -/
def fnExactEqualInterestsWrong : ChangeSpec := { name := "fnExactEqualInterests", fn := fun _ => fun
  | [d1, d2] => { results := [.lit (.bool false)], args := [d1, d2] }
  | _ => none }
def FnExactEqualInterestsWrongFalsely : Prop := fnExactEqualInterestsRow.holds Try.pinned (OpenSpec.ofChange fnExactEqualInterestsWrong)

/-- 'laws.FnExactValidInterest': WHATEVER THE INPUT: true; the input reads as it did. -/
def fnExactValidInterestSpec : ChangeSpec := { name := "fnExactValidInterest", fn := fun _ => fun
  | [d] => { results := [.lit (.bool true)], args := [d] }
  | _ => none }
def fnExactValidInterestRow : OpenClaim := { program := "ytbachbanjcabhaa", sum := "2aee5855d06352279e1673b3f82eb1cfc5d4dacc92755d74069ec4523bb70128", func := "loop.example/g00507/laws.FnExactValidInterest", spec := "fnExactValidInterest", unfollowed := true, recurses := true, apart := false }
def FnExactValidInterestSaid : Prop := fnExactValidInterestRow.holds Try.pinned (OpenSpec.ofChange fnExactValidInterestSpec)

/-- ITS FALSE NEIGHBOUR: 'it returns false'. Refute it at one input. -/
def fnExactValidInterestWrong : ChangeSpec := { name := "fnExactValidInterest", fn := fun _ => fun
  | [d] => { results := [.lit (.bool false)], args := [d] }
  | _ => none }
def FnExactValidInterestWrongFalsely : Prop := fnExactValidInterestRow.holds Try.pinned (OpenSpec.ofChange fnExactValidInterestWrong)

/-- 'laws.FnExactDecrementHops': WHATEVER THE INPUT: true; the input reads as it did. -/
def fnExactDecrementHopsSpec : ChangeSpec := { name := "fnExactDecrementHops", fn := fun _ => fun
  | [d] => { results := [.lit (.bool true)], args := [d] }
  | _ => none }
def fnExactDecrementHopsRow : OpenClaim := { program := "ytbachbanjcabhaa", sum := "2aee5855d06352279e1673b3f82eb1cfc5d4dacc92755d74069ec4523bb70128", func := "loop.example/g00507/laws.FnExactDecrementHops", spec := "fnExactDecrementHops", apart := false }
def FnExactDecrementHopsSaid : Prop := fnExactDecrementHopsRow.holds Try.pinned (OpenSpec.ofChange fnExactDecrementHopsSpec)

/-- ITS FALSE NEIGHBOUR: 'it returns false'. Refute it at one input. -/
def fnExactDecrementHopsWrong : ChangeSpec := { name := "fnExactDecrementHops", fn := fun _ => fun
  | [d] => { results := [.lit (.bool false)], args := [d] }
  | _ => none }
def FnExactDecrementHopsWrongFalsely : Prop := fnExactDecrementHopsRow.holds Try.pinned (OpenSpec.ofChange fnExactDecrementHopsWrong)

/-- 'laws.FnExactAppendName': WHATEVER THE INPUT: true; the input reads as it did. -/
def fnExactAppendNameSpec : ChangeSpec := { name := "fnExactAppendName", fn := fun _ => fun
  | [d1, d2] => { results := [.lit (.bool true)], args := [d1, d2] }
  | _ => none }
def fnExactAppendNameRow : OpenClaim := { program := "ytbachbanjcabhaa", sum := "2aee5855d06352279e1673b3f82eb1cfc5d4dacc92755d74069ec4523bb70128", func := "loop.example/g00507/laws.FnExactAppendName", spec := "fnExactAppendName", unfollowed := true, recurses := true, apart := false }
def FnExactAppendNameSaid : Prop := fnExactAppendNameRow.holds Try.pinned (OpenSpec.ofChange fnExactAppendNameSpec)

/-- ITS FALSE NEIGHBOUR: 'it returns false'. Refute it at one input. -/
def fnExactAppendNameWrong : ChangeSpec := { name := "fnExactAppendName", fn := fun _ => fun
  | [d1, d2] => { results := [.lit (.bool false)], args := [d1, d2] }
  | _ => none }
def FnExactAppendNameWrongFalsely : Prop := fnExactAppendNameRow.holds Try.pinned (OpenSpec.ofChange fnExactAppendNameWrong)

/-- 'laws.FnWiths': WHATEVER THE INPUT: true; the input reads as it did. -/
def fnWithsSpec : ChangeSpec := { name := "fnWiths", fn := fun _ => fun
  | [d] => { results := [.lit (.bool true)], args := [d] }
  | _ => none }
def fnWithsRow : OpenClaim := { program := "ytbachbanjcabhaa", sum := "2aee5855d06352279e1673b3f82eb1cfc5d4dacc92755d74069ec4523bb70128", func := "loop.example/g00507/laws.FnWiths", spec := "fnWiths", unfollowed := true, recurses := true, apart := false }
def FnWithsSaid : Prop := fnWithsRow.holds Try.pinned (OpenSpec.ofChange fnWithsSpec)

/-- ITS FALSE NEIGHBOUR: 'it returns false'. Refute it at one input. -/
def fnWithsWrong : ChangeSpec := { name := "fnWiths", fn := fun _ => fun
  | [d] => { results := [.lit (.bool false)], args := [d] }
  | _ => none }
def FnWithsWrongFalsely : Prop := fnWithsRow.holds Try.pinned (OpenSpec.ofChange fnWithsWrong)

/- THE SECOND FORM. 'bulk': how many values and letters a reading holds, each counted each time it is reached (what is shared counts as often as it is met; a slice's spare places count too). A statement '..UptoSaid' is the law's where the arguments, and the package variables that the reading takes, are together of bulk at most 1048576: NARROWER than '..Said'. Prove '..Said' where nothing that the law and all that it calls make is longer than what came in: it says more and counts as full. Else prove '..UptoSaid'. A law counts once. -/
mutual
def uptoBulk {H : Type} : DataW H → Nat
  | .lit (.string bytes) => bytes.length + 1
  | .lit _ => 1
  | .nil => 1
  | .ptr d => uptoBulk d + 1
  | .slice elems spare => uptoBulkAll elems + uptoBulkAll spare + 1
  | .agg parts => uptoBulkAll parts + 1
  | .iface _ d => uptoBulk d + 1
  | .map entries => uptoBulkEntries entries + 1
  | .held _ => 1
def uptoBulkAll {H : Type} : List (DataW H) → Nat
  | [] => 0
  | d :: r => uptoBulk d + uptoBulkAll r
def uptoBulkEntries {H : Type} : List (Lit × DataW H) → Nat
  | [] => 0
  | x :: r => uptoBulkEntry x + uptoBulkEntries r
def uptoBulkEntry {H : Type} : Lit × DataW H → Nat
  | (.string bytes, d) => bytes.length + uptoBulk d + 1
  | (_, d) => uptoBulk d + 1
 end
def uptoSmall : (H : Type) → List (DataW H) → Bool := fun _ ds => decide (uptoBulkAll ds ≤ 1048576)
def OpenSpec.upto (s : _root_.Go.ChangeSpec) : _root_.Go.OpenSpec := { _root_.Go.OpenSpec.ofChange s with cond := some uptoSmall }

/-- 'laws.FnExactBindingValue', WHERE WHAT IT READS IS OF BULK AT MOST 1048576: true; the input reads as it did. -/
def fnExactBindingValueUptoRow : OpenClaim := { program := "ytbachbanjcabhaa", sum := "2aee5855d06352279e1673b3f82eb1cfc5d4dacc92755d74069ec4523bb70128", func := "loop.example/g00507/laws.FnExactBindingValue", spec := "fnExactBindingValue", apart := false, narrowed := true }
def FnExactBindingValueUptoSaid : Prop := fnExactBindingValueUptoRow.holds Try.pinned (OpenSpec.upto fnExactBindingValueSpec)

/-- 'laws.FnExactEqualNames', WHERE WHAT IT READS IS OF BULK AT MOST 1048576: true; the input reads as it did. -/
def fnExactEqualNamesUptoRow : OpenClaim := { program := "ytbachbanjcabhaa", sum := "2aee5855d06352279e1673b3f82eb1cfc5d4dacc92755d74069ec4523bb70128", func := "loop.example/g00507/laws.FnExactEqualNames", spec := "fnExactEqualNames", apart := false, narrowed := true }
def FnExactEqualNamesUptoSaid : Prop := fnExactEqualNamesUptoRow.holds Try.pinned (OpenSpec.upto fnExactEqualNamesSpec)

/-- 'laws.FnExactValidPattern', WHERE WHAT IT READS IS OF BULK AT MOST 1048576: true; the input reads as it did. -/
def fnExactValidPatternUptoRow : OpenClaim := { program := "ytbachbanjcabhaa", sum := "2aee5855d06352279e1673b3f82eb1cfc5d4dacc92755d74069ec4523bb70128", func := "loop.example/g00507/laws.FnExactValidPattern", spec := "fnExactValidPattern", apart := false, narrowed := true }
def FnExactValidPatternUptoSaid : Prop := fnExactValidPatternUptoRow.holds Try.pinned (OpenSpec.upto fnExactValidPatternSpec)

/-- 'laws.FnExactValidName', WHERE WHAT IT READS IS OF BULK AT MOST 1048576: true; the input reads as it did. -/
def fnExactValidNameUptoRow : OpenClaim := { program := "ytbachbanjcabhaa", sum := "2aee5855d06352279e1673b3f82eb1cfc5d4dacc92755d74069ec4523bb70128", func := "loop.example/g00507/laws.FnExactValidName", spec := "fnExactValidName", unfollowed := true, recurses := true, apart := false, narrowed := true }
def FnExactValidNameUptoSaid : Prop := fnExactValidNameUptoRow.holds Try.pinned (OpenSpec.upto fnExactValidNameSpec)

/-- 'laws.FnExactHasPrefix', WHERE WHAT IT READS IS OF BULK AT MOST 1048576: true; the input reads as it did. -/
def fnExactHasPrefixUptoRow : OpenClaim := { program := "ytbachbanjcabhaa", sum := "2aee5855d06352279e1673b3f82eb1cfc5d4dacc92755d74069ec4523bb70128", func := "loop.example/g00507/laws.FnExactHasPrefix", spec := "fnExactHasPrefix", apart := false, narrowed := true }
def FnExactHasPrefixUptoSaid : Prop := fnExactHasPrefixUptoRow.holds Try.pinned (OpenSpec.upto fnExactHasPrefixSpec)

/-- 'laws.FnExactCompareNames', WHERE WHAT IT READS IS OF BULK AT MOST 1048576: true; the input reads as it did. -/
def fnExactCompareNamesUptoRow : OpenClaim := { program := "ytbachbanjcabhaa", sum := "2aee5855d06352279e1673b3f82eb1cfc5d4dacc92755d74069ec4523bb70128", func := "loop.example/g00507/laws.FnExactCompareNames", spec := "fnExactCompareNames", apart := false, narrowed := true }
def FnExactCompareNamesUptoSaid : Prop := fnExactCompareNamesUptoRow.holds Try.pinned (OpenSpec.upto fnExactCompareNamesSpec)

/-- 'laws.FnExactTruncate', WHERE WHAT IT READS IS OF BULK AT MOST 1048576: true; the input reads as it did. -/
def fnExactTruncateUptoRow : OpenClaim := { program := "ytbachbanjcabhaa", sum := "2aee5855d06352279e1673b3f82eb1cfc5d4dacc92755d74069ec4523bb70128", func := "loop.example/g00507/laws.FnExactTruncate", spec := "fnExactTruncate", apart := false, narrowed := true }
def FnExactTruncateUptoSaid : Prop := fnExactTruncateUptoRow.holds Try.pinned (OpenSpec.upto fnExactTruncateSpec)

/-- 'laws.FnExactFormatName', WHERE WHAT IT READS IS OF BULK AT MOST 1048576: true; the input reads as it did. -/
def fnExactFormatNameUptoRow : OpenClaim := { program := "ytbachbanjcabhaa", sum := "2aee5855d06352279e1673b3f82eb1cfc5d4dacc92755d74069ec4523bb70128", func := "loop.example/g00507/laws.FnExactFormatName", spec := "fnExactFormatName", inPlace := ["internal/abi.NoEscape", "internal/bytealg.MakeNoZero"], apart := false, narrowed := true }
def FnExactFormatNameUptoSaid : Prop := fnExactFormatNameUptoRow.holds Try.pinned (OpenSpec.upto fnExactFormatNameSpec)

/-- 'laws.FnExactFormatPattern', WHERE WHAT IT READS IS OF BULK AT MOST 1048576: true; the input reads as it did. -/
def fnExactFormatPatternUptoRow : OpenClaim := { program := "ytbachbanjcabhaa", sum := "2aee5855d06352279e1673b3f82eb1cfc5d4dacc92755d74069ec4523bb70128", func := "loop.example/g00507/laws.FnExactFormatPattern", spec := "fnExactFormatPattern", inPlace := ["internal/abi.NoEscape", "internal/bytealg.MakeNoZero"], apart := false, narrowed := true }
def FnExactFormatPatternUptoSaid : Prop := fnExactFormatPatternUptoRow.holds Try.pinned (OpenSpec.upto fnExactFormatPatternSpec)

/-- 'laws.FnExactAppendPart', WHERE WHAT IT READS IS OF BULK AT MOST 1048576: true; the input reads as it did. -/
def fnExactAppendPartUptoRow : OpenClaim := { program := "ytbachbanjcabhaa", sum := "2aee5855d06352279e1673b3f82eb1cfc5d4dacc92755d74069ec4523bb70128", func := "loop.example/g00507/laws.FnExactAppendPart", spec := "fnExactAppendPart", unfollowed := true, recurses := true, apart := false, narrowed := true }
def FnExactAppendPartUptoSaid : Prop := fnExactAppendPartUptoRow.holds Try.pinned (OpenSpec.upto fnExactAppendPartSpec)

/-- 'laws.FnExactEqualInterests', WHERE WHAT IT READS IS OF BULK AT MOST 1048576: true; the input reads as it did. -/
def fnExactEqualInterestsUptoRow : OpenClaim := { program := "ytbachbanjcabhaa", sum := "2aee5855d06352279e1673b3f82eb1cfc5d4dacc92755d74069ec4523bb70128", func := "loop.example/g00507/laws.FnExactEqualInterests", spec := "fnExactEqualInterests", apart := false, narrowed := true }
def FnExactEqualInterestsUptoSaid : Prop := fnExactEqualInterestsUptoRow.holds Try.pinned (OpenSpec.upto fnExactEqualInterestsSpec)

/-- 'laws.FnExactValidInterest', WHERE WHAT IT READS IS OF BULK AT MOST 1048576: true; the input reads as it did. -/
def fnExactValidInterestUptoRow : OpenClaim := { program := "ytbachbanjcabhaa", sum := "2aee5855d06352279e1673b3f82eb1cfc5d4dacc92755d74069ec4523bb70128", func := "loop.example/g00507/laws.FnExactValidInterest", spec := "fnExactValidInterest", unfollowed := true, recurses := true, apart := false, narrowed := true }
def FnExactValidInterestUptoSaid : Prop := fnExactValidInterestUptoRow.holds Try.pinned (OpenSpec.upto fnExactValidInterestSpec)

/-- 'laws.FnExactDecrementHops', WHERE WHAT IT READS IS OF BULK AT MOST 1048576: true; the input reads as it did. -/
def fnExactDecrementHopsUptoRow : OpenClaim := { program := "ytbachbanjcabhaa", sum := "2aee5855d06352279e1673b3f82eb1cfc5d4dacc92755d74069ec4523bb70128", func := "loop.example/g00507/laws.FnExactDecrementHops", spec := "fnExactDecrementHops", apart := false, narrowed := true }
def FnExactDecrementHopsUptoSaid : Prop := fnExactDecrementHopsUptoRow.holds Try.pinned (OpenSpec.upto fnExactDecrementHopsSpec)

/-- 'laws.FnExactAppendName', WHERE WHAT IT READS IS OF BULK AT MOST 1048576: true; the input reads as it did. -/
def fnExactAppendNameUptoRow : OpenClaim := { program := "ytbachbanjcabhaa", sum := "2aee5855d06352279e1673b3f82eb1cfc5d4dacc92755d74069ec4523bb70128", func := "loop.example/g00507/laws.FnExactAppendName", spec := "fnExactAppendName", unfollowed := true, recurses := true, apart := false, narrowed := true }
def FnExactAppendNameUptoSaid : Prop := fnExactAppendNameUptoRow.holds Try.pinned (OpenSpec.upto fnExactAppendNameSpec)

/-- 'laws.FnWiths', WHERE WHAT IT READS IS OF BULK AT MOST 1048576: true; the input reads as it did. -/
def fnWithsUptoRow : OpenClaim := { program := "ytbachbanjcabhaa", sum := "2aee5855d06352279e1673b3f82eb1cfc5d4dacc92755d74069ec4523bb70128", func := "loop.example/g00507/laws.FnWiths", spec := "fnWiths", unfollowed := true, recurses := true, apart := false, narrowed := true }
def FnWithsUptoSaid : Prop := fnWithsUptoRow.holds Try.pinned (OpenSpec.upto fnWithsSpec)

end Rows
end Go.Proofs.Ytbachbanjcabhaa
