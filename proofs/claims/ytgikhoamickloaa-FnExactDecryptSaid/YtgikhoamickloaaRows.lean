/-
  No cell of these rows narrows 'for every input' (looked for: loops, veiled, ifaces, maps, wideKeys, modest, calm, conditions, laid).
  DERIVED. THE GIVEN ROWS OF THIS SEAT. 13 by the template 'for every input the law returns true; each argument reads behind the call as it read before'; 0 by the template 'total and deterministic' (their statements: YtgikhoamickloaaTotals.lean).
  GIVEN WITH THE SEED: the statements are not yours to turn. If you find one false, say at which input.
  Laid BY PROGRAM, IN A SANDBOX (cutbox-rows.mjs): the forced cells as the released guide's own fill.sh prints them over the translation 827caf1ac178def4… (all of the seat's roots in one cut). By AI agents, Wed Nov 11 2026. No macro, syntax, notation, axiom, sorry.
-/
import Derived.Test.YtgikhoamickloaaChecked
import GoSem.Claim
import GoSem.ClaimJoined
import GoSem.ClaimMapViews
import Derived.JoinedTies
import Derived.KernelRfl
namespace Go.Proofs.Ytgikhoamickloaa
/- THE CELL 'sum', in the pinned program and in every row, IS THE sha256 OF THE DUMP (.gsa) THAT YtgikhoamickloaaProg.lean LOADS. Nothing in Lean hashes anything: it is a label: what it is worth is what the hold of that sum in a sandbox is worth. -/
noncomputable def Try.pinned : Pinned := { name := "ytgikhoamickloaa", sum := "827caf1ac178def482c5ab9ed3d89f4e4f1f8105e35e3256d22f135f62f823e9", checked := Try.checked }
namespace Rows
def none {H : Type} : Left H := { results := [], args := [] }

/-- 'laws.FnExactBytesToInts': WHATEVER THE INPUT: true; the input reads as it did. -/
def fnExactBytesToIntsSpec : ChangeSpec := { name := "fnExactBytesToInts", fn := fun _ => fun
  | [d] => { results := [.lit (.bool true)], args := [d] }
  | _ => none }
def fnExactBytesToIntsRow : OpenClaim := { program := "ytgikhoamickloaa", sum := "827caf1ac178def482c5ab9ed3d89f4e4f1f8105e35e3256d22f135f62f823e9", func := "loop.example/g00507/laws.FnExactBytesToInts", spec := "fnExactBytesToInts", apart := false }
def FnExactBytesToIntsSaid : Prop := fnExactBytesToIntsRow.holds Try.pinned (OpenSpec.ofChange fnExactBytesToIntsSpec)

/-- ITS FALSE NEIGHBOUR: 'it returns false'. Refute it at one input. -/
def fnExactBytesToIntsWrong : ChangeSpec := { name := "fnExactBytesToInts", fn := fun _ => fun
  | [d] => { results := [.lit (.bool false)], args := [d] }
  | _ => none }
def FnExactBytesToIntsWrongFalsely : Prop := fnExactBytesToIntsRow.holds Try.pinned (OpenSpec.ofChange fnExactBytesToIntsWrong)

/-- 'laws.FnExactAppendVarint': WHATEVER THE INPUT: true; the input reads as it did. -/
def fnExactAppendVarintSpec : ChangeSpec := { name := "fnExactAppendVarint", fn := fun _ => fun
  | [d1, d2] => { results := [.lit (.bool true)], args := [d1, d2] }
  | _ => none }
def fnExactAppendVarintRow : OpenClaim := { program := "ytgikhoamickloaa", sum := "827caf1ac178def482c5ab9ed3d89f4e4f1f8105e35e3256d22f135f62f823e9", func := "loop.example/g00507/laws.FnExactAppendVarint", spec := "fnExactAppendVarint", apart := false }
def FnExactAppendVarintSaid : Prop := fnExactAppendVarintRow.holds Try.pinned (OpenSpec.ofChange fnExactAppendVarintSpec)

/-- ITS FALSE NEIGHBOUR: 'it returns false'. Refute it at one input. -/
def fnExactAppendVarintWrong : ChangeSpec := { name := "fnExactAppendVarint", fn := fun _ => fun
  | [d1, d2] => { results := [.lit (.bool false)], args := [d1, d2] }
  | _ => none }
def FnExactAppendVarintWrongFalsely : Prop := fnExactAppendVarintRow.holds Try.pinned (OpenSpec.ofChange fnExactAppendVarintWrong)

/-- 'laws.FnExactAppendBytes': WHATEVER THE INPUT: true; the input reads as it did. -/
def fnExactAppendBytesSpec : ChangeSpec := { name := "fnExactAppendBytes", fn := fun _ => fun
  | [d1, d2] => { results := [.lit (.bool true)], args := [d1, d2] }
  | _ => none }
def fnExactAppendBytesRow : OpenClaim := { program := "ytgikhoamickloaa", sum := "827caf1ac178def482c5ab9ed3d89f4e4f1f8105e35e3256d22f135f62f823e9", func := "loop.example/g00507/laws.FnExactAppendBytes", spec := "fnExactAppendBytes", apart := false }
def FnExactAppendBytesSaid : Prop := fnExactAppendBytesRow.holds Try.pinned (OpenSpec.ofChange fnExactAppendBytesSpec)

/-- ITS FALSE NEIGHBOUR: 'it returns false'. Refute it at one input. -/
def fnExactAppendBytesWrong : ChangeSpec := { name := "fnExactAppendBytes", fn := fun _ => fun
  | [d1, d2] => { results := [.lit (.bool false)], args := [d1, d2] }
  | _ => none }
def FnExactAppendBytesWrongFalsely : Prop := fnExactAppendBytesRow.holds Try.pinned (OpenSpec.ofChange fnExactAppendBytesWrong)

/-- 'laws.FnExactComputeMAC': WHATEVER THE INPUT: true; the input reads as it did. -/
def fnExactComputeMACSpec : ChangeSpec := { name := "fnExactComputeMAC", fn := fun _ => fun
  | [d1, d2] => { results := [.lit (.bool true)], args := [d1, d2] }
  | _ => none }
def fnExactComputeMACRow : OpenClaim := { program := "ytgikhoamickloaa", sum := "827caf1ac178def482c5ab9ed3d89f4e4f1f8105e35e3256d22f135f62f823e9", func := "loop.example/g00507/laws.FnExactComputeMAC", spec := "fnExactComputeMAC", apart := false }
def FnExactComputeMACSaid : Prop := fnExactComputeMACRow.holds Try.pinned (OpenSpec.ofChange fnExactComputeMACSpec)

/-- ITS FALSE NEIGHBOUR: 'it returns false'. Refute it at one input. -/
def fnExactComputeMACWrong : ChangeSpec := { name := "fnExactComputeMAC", fn := fun _ => fun
  | [d1, d2] => { results := [.lit (.bool false)], args := [d1, d2] }
  | _ => none }
def FnExactComputeMACWrongFalsely : Prop := fnExactComputeMACRow.holds Try.pinned (OpenSpec.ofChange fnExactComputeMACWrong)

/-- 'laws.FnExactDeriveSecret': WHATEVER THE INPUT: true; the input reads as it did. -/
def fnExactDeriveSecretSpec : ChangeSpec := { name := "fnExactDeriveSecret", fn := fun _ => fun
  | [d1, d2] => { results := [.lit (.bool true)], args := [d1, d2] }
  | _ => none }
def fnExactDeriveSecretRow : OpenClaim := { program := "ytgikhoamickloaa", sum := "827caf1ac178def482c5ab9ed3d89f4e4f1f8105e35e3256d22f135f62f823e9", func := "loop.example/g00507/laws.FnExactDeriveSecret", spec := "fnExactDeriveSecret", apart := false }
def FnExactDeriveSecretSaid : Prop := fnExactDeriveSecretRow.holds Try.pinned (OpenSpec.ofChange fnExactDeriveSecretSpec)

/-- ITS FALSE NEIGHBOUR: 'it returns false'. Refute it at one input. -/
def fnExactDeriveSecretWrong : ChangeSpec := { name := "fnExactDeriveSecret", fn := fun _ => fun
  | [d1, d2] => { results := [.lit (.bool false)], args := [d1, d2] }
  | _ => none }
def FnExactDeriveSecretWrongFalsely : Prop := fnExactDeriveSecretRow.holds Try.pinned (OpenSpec.ofChange fnExactDeriveSecretWrong)

/-- 'laws.FnExactReadBytes': WHATEVER THE INPUT: true; the input reads as it did. -/
def fnExactReadBytesSpec : ChangeSpec := { name := "fnExactReadBytes", fn := fun _ => fun
  | [d1, d2, d3] => { results := [.lit (.bool true)], args := [d1, d2, d3] }
  | _ => none }
def fnExactReadBytesRow : OpenClaim := { program := "ytgikhoamickloaa", sum := "827caf1ac178def482c5ab9ed3d89f4e4f1f8105e35e3256d22f135f62f823e9", func := "loop.example/g00507/laws.FnExactReadBytes", spec := "fnExactReadBytes", apart := false }
def FnExactReadBytesSaid : Prop := fnExactReadBytesRow.holds Try.pinned (OpenSpec.ofChange fnExactReadBytesSpec)

/-- ITS FALSE NEIGHBOUR: 'it returns false'. Refute it at one input. -/
def fnExactReadBytesWrong : ChangeSpec := { name := "fnExactReadBytes", fn := fun _ => fun
  | [d1, d2, d3] => { results := [.lit (.bool false)], args := [d1, d2, d3] }
  | _ => none }
def FnExactReadBytesWrongFalsely : Prop := fnExactReadBytesRow.holds Try.pinned (OpenSpec.ofChange fnExactReadBytesWrong)

/-- 'laws.FnExactEncodeInts': WHATEVER THE INPUT: true; the input reads as it did. -/
def fnExactEncodeIntsSpec : ChangeSpec := { name := "fnExactEncodeInts", fn := fun _ => fun
  | [d] => { results := [.lit (.bool true)], args := [d] }
  | _ => none }
def fnExactEncodeIntsRow : OpenClaim := { program := "ytgikhoamickloaa", sum := "827caf1ac178def482c5ab9ed3d89f4e4f1f8105e35e3256d22f135f62f823e9", func := "loop.example/g00507/laws.FnExactEncodeInts", spec := "fnExactEncodeInts", apart := false }
def FnExactEncodeIntsSaid : Prop := fnExactEncodeIntsRow.holds Try.pinned (OpenSpec.ofChange fnExactEncodeIntsSpec)

/-- ITS FALSE NEIGHBOUR: 'it returns false'. Refute it at one input. -/
def fnExactEncodeIntsWrong : ChangeSpec := { name := "fnExactEncodeInts", fn := fun _ => fun
  | [d] => { results := [.lit (.bool false)], args := [d] }
  | _ => none }
def FnExactEncodeIntsWrongFalsely : Prop := fnExactEncodeIntsRow.holds Try.pinned (OpenSpec.ofChange fnExactEncodeIntsWrong)

/-- 'laws.FnExactDecodeInts': WHATEVER THE INPUT: true; the input reads as it did. -/
def fnExactDecodeIntsSpec : ChangeSpec := { name := "fnExactDecodeInts", fn := fun _ => fun
  | [d1, d2, d3] => { results := [.lit (.bool true)], args := [d1, d2, d3] }
  | _ => none }
def fnExactDecodeIntsRow : OpenClaim := { program := "ytgikhoamickloaa", sum := "827caf1ac178def482c5ab9ed3d89f4e4f1f8105e35e3256d22f135f62f823e9", func := "loop.example/g00507/laws.FnExactDecodeInts", spec := "fnExactDecodeInts", apart := false }
def FnExactDecodeIntsSaid : Prop := fnExactDecodeIntsRow.holds Try.pinned (OpenSpec.ofChange fnExactDecodeIntsSpec)

/-- ITS FALSE NEIGHBOUR: 'it returns false'. Refute it at one input. -/
def fnExactDecodeIntsWrong : ChangeSpec := { name := "fnExactDecodeInts", fn := fun _ => fun
  | [d1, d2, d3] => { results := [.lit (.bool false)], args := [d1, d2, d3] }
  | _ => none }
def FnExactDecodeIntsWrongFalsely : Prop := fnExactDecodeIntsRow.holds Try.pinned (OpenSpec.ofChange fnExactDecodeIntsWrong)

/-- 'laws.FnExactEncrypt': WHATEVER THE INPUT: true; the input reads as it did. -/
def fnExactEncryptSpec : ChangeSpec := { name := "fnExactEncrypt", fn := fun _ => fun
  | [d1, d2] => { results := [.lit (.bool true)], args := [d1, d2] }
  | _ => none }
def fnExactEncryptRow : OpenClaim := { program := "ytgikhoamickloaa", sum := "827caf1ac178def482c5ab9ed3d89f4e4f1f8105e35e3256d22f135f62f823e9", func := "loop.example/g00507/laws.FnExactEncrypt", spec := "fnExactEncrypt", apart := false }
def FnExactEncryptSaid : Prop := fnExactEncryptRow.holds Try.pinned (OpenSpec.ofChange fnExactEncryptSpec)

/-- ITS FALSE NEIGHBOUR: 'it returns false'. Refute it at one input. -/
def fnExactEncryptWrong : ChangeSpec := { name := "fnExactEncrypt", fn := fun _ => fun
  | [d1, d2] => { results := [.lit (.bool false)], args := [d1, d2] }
  | _ => none }
def FnExactEncryptWrongFalsely : Prop := fnExactEncryptRow.holds Try.pinned (OpenSpec.ofChange fnExactEncryptWrong)

/-- 'laws.FnExactDecrypt': WHATEVER THE INPUT: true; the input reads as it did. -/
def fnExactDecryptSpec : ChangeSpec := { name := "fnExactDecrypt", fn := fun _ => fun
  | [d1, d2] => { results := [.lit (.bool true)], args := [d1, d2] }
  | _ => none }
def fnExactDecryptRow : OpenClaim := { program := "ytgikhoamickloaa", sum := "827caf1ac178def482c5ab9ed3d89f4e4f1f8105e35e3256d22f135f62f823e9", func := "loop.example/g00507/laws.FnExactDecrypt", spec := "fnExactDecrypt", apart := false }
def FnExactDecryptSaid : Prop := fnExactDecryptRow.holds Try.pinned (OpenSpec.ofChange fnExactDecryptSpec)

/-- ITS FALSE NEIGHBOUR: 'it returns false'. Refute it at one input. -/
def fnExactDecryptWrong : ChangeSpec := { name := "fnExactDecrypt", fn := fun _ => fun
  | [d1, d2] => { results := [.lit (.bool false)], args := [d1, d2] }
  | _ => none }
def FnExactDecryptWrongFalsely : Prop := fnExactDecryptRow.holds Try.pinned (OpenSpec.ofChange fnExactDecryptWrong)

/-- 'laws.FnVars': WHATEVER THE INPUT: true; the input reads as it did. -/
def fnVarsSpec : ChangeSpec := { name := "fnVars", fn := fun _ => fun
  | [d] => { results := [.lit (.bool true)], args := [d] }
  | _ => none }
def fnVarsRow : OpenClaim := { program := "ytgikhoamickloaa", sum := "827caf1ac178def482c5ab9ed3d89f4e4f1f8105e35e3256d22f135f62f823e9", func := "loop.example/g00507/laws.FnVars", spec := "fnVars", apart := false }
def FnVarsSaid : Prop := fnVarsRow.holds Try.pinned (OpenSpec.ofChange fnVarsSpec)

/-- ITS FALSE NEIGHBOUR: 'it returns false'. Refute it at one input. -/
def fnVarsWrong : ChangeSpec := { name := "fnVars", fn := fun _ => fun
  | [d] => { results := [.lit (.bool false)], args := [d] }
  | _ => none }
def FnVarsWrongFalsely : Prop := fnVarsRow.holds Try.pinned (OpenSpec.ofChange fnVarsWrong)

/-- 'laws.FnAlls': WHATEVER THE INPUT: true; the input reads as it did. -/
def fnAllsSpec : ChangeSpec := { name := "fnAlls", fn := fun _ => fun
  | [d] => { results := [.lit (.bool true)], args := [d] }
  | _ => none }
def fnAllsRow : OpenClaim := { program := "ytgikhoamickloaa", sum := "827caf1ac178def482c5ab9ed3d89f4e4f1f8105e35e3256d22f135f62f823e9", func := "loop.example/g00507/laws.FnAlls", spec := "fnAlls", apart := false }
def FnAllsSaid : Prop := fnAllsRow.holds Try.pinned (OpenSpec.ofChange fnAllsSpec)

/-- ITS FALSE NEIGHBOUR: 'it returns false'. Refute it at one input. -/
def fnAllsWrong : ChangeSpec := { name := "fnAlls", fn := fun _ => fun
  | [d] => { results := [.lit (.bool false)], args := [d] }
  | _ => none }
def FnAllsWrongFalsely : Prop := fnAllsRow.holds Try.pinned (OpenSpec.ofChange fnAllsWrong)

/-- 'laws.FnSeals': WHATEVER THE INPUT: true; the input reads as it did. -/
def fnSealsSpec : ChangeSpec := { name := "fnSeals", fn := fun _ => fun
  | [d] => { results := [.lit (.bool true)], args := [d] }
  | _ => none }
def fnSealsRow : OpenClaim := { program := "ytgikhoamickloaa", sum := "827caf1ac178def482c5ab9ed3d89f4e4f1f8105e35e3256d22f135f62f823e9", func := "loop.example/g00507/laws.FnSeals", spec := "fnSeals", apart := false }
def FnSealsSaid : Prop := fnSealsRow.holds Try.pinned (OpenSpec.ofChange fnSealsSpec)

/-- ITS FALSE NEIGHBOUR: 'it returns false'. Refute it at one input. -/
def fnSealsWrong : ChangeSpec := { name := "fnSeals", fn := fun _ => fun
  | [d] => { results := [.lit (.bool false)], args := [d] }
  | _ => none }
def FnSealsWrongFalsely : Prop := fnSealsRow.holds Try.pinned (OpenSpec.ofChange fnSealsWrong)

/- THE SECOND FORM. 'bulk': how many values and letters a reading holds, each counted each time it is reached (what is shared counts as often as it is met; a slice's spare places count too). A statement '..UptoSaid' is the law's where the arguments, and the package variables that the reading takes, are together of bulk at most 1048576: NARROWER than '..Said'. Prove '..Said' where nothing that the law and all that it calls make is longer than what came in: it says more and counts as full. Else prove '..UptoSaid'. A law counts once. -/
mutual
def uptoBulk {H : Type} : DataW H → Nat
  | .lit (.string bytes) => bytes.length + 1
  | .lit _ => 1
  | .nil => 1
  | .ptr d => uptoBulk d + 1
  | .slice elems spare => uptoBulkAll elems + uptoBulkAll spare + 1
  | .agg parts => uptoBulkAll parts + 1
  | .iface _ d => uptoBulk d + 1
  | .map entries => uptoBulkEntries entries + 1
  | .held _ => 1
def uptoBulkAll {H : Type} : List (DataW H) → Nat
  | [] => 0
  | d :: r => uptoBulk d + uptoBulkAll r
def uptoBulkEntries {H : Type} : List (Lit × DataW H) → Nat
  | [] => 0
  | x :: r => uptoBulkEntry x + uptoBulkEntries r
def uptoBulkEntry {H : Type} : Lit × DataW H → Nat
  | (.string bytes, d) => bytes.length + uptoBulk d + 1
  | (_, d) => uptoBulk d + 1
 end
def uptoSmall : (H : Type) → List (DataW H) → Bool := fun _ ds => decide (uptoBulkAll ds ≤ 1048576)
def OpenSpec.upto (s : _root_.Go.ChangeSpec) : _root_.Go.OpenSpec := { _root_.Go.OpenSpec.ofChange s with cond := some uptoSmall }

/-- 'laws.FnExactBytesToInts', WHERE WHAT IT READS IS OF BULK AT MOST 1048576: true; the input reads as it did. -/
def fnExactBytesToIntsUptoRow : OpenClaim := { program := "ytgikhoamickloaa", sum := "827caf1ac178def482c5ab9ed3d89f4e4f1f8105e35e3256d22f135f62f823e9", func := "loop.example/g00507/laws.FnExactBytesToInts", spec := "fnExactBytesToInts", apart := false, narrowed := true }
def FnExactBytesToIntsUptoSaid : Prop := fnExactBytesToIntsUptoRow.holds Try.pinned (OpenSpec.upto fnExactBytesToIntsSpec)

/-- 'laws.FnExactAppendVarint', WHERE WHAT IT READS IS OF BULK AT MOST 1048576: true; the input reads as it did. -/
def fnExactAppendVarintUptoRow : OpenClaim := { program := "ytgikhoamickloaa", sum := "827caf1ac178def482c5ab9ed3d89f4e4f1f8105e35e3256d22f135f62f823e9", func := "loop.example/g00507/laws.FnExactAppendVarint", spec := "fnExactAppendVarint", apart := false, narrowed := true }
def FnExactAppendVarintUptoSaid : Prop := fnExactAppendVarintUptoRow.holds Try.pinned (OpenSpec.upto fnExactAppendVarintSpec)

/-- 'laws.FnExactAppendBytes', WHERE WHAT IT READS IS OF BULK AT MOST 1048576: true; the input reads as it did. -/
def fnExactAppendBytesUptoRow : OpenClaim := { program := "ytgikhoamickloaa", sum := "827caf1ac178def482c5ab9ed3d89f4e4f1f8105e35e3256d22f135f62f823e9", func := "loop.example/g00507/laws.FnExactAppendBytes", spec := "fnExactAppendBytes", apart := false, narrowed := true }
def FnExactAppendBytesUptoSaid : Prop := fnExactAppendBytesUptoRow.holds Try.pinned (OpenSpec.upto fnExactAppendBytesSpec)

/-- 'laws.FnExactComputeMAC', WHERE WHAT IT READS IS OF BULK AT MOST 1048576: true; the input reads as it did. -/
def fnExactComputeMACUptoRow : OpenClaim := { program := "ytgikhoamickloaa", sum := "827caf1ac178def482c5ab9ed3d89f4e4f1f8105e35e3256d22f135f62f823e9", func := "loop.example/g00507/laws.FnExactComputeMAC", spec := "fnExactComputeMAC", apart := false, narrowed := true }
def FnExactComputeMACUptoSaid : Prop := fnExactComputeMACUptoRow.holds Try.pinned (OpenSpec.upto fnExactComputeMACSpec)

/-- 'laws.FnExactDeriveSecret', WHERE WHAT IT READS IS OF BULK AT MOST 1048576: true; the input reads as it did. -/
def fnExactDeriveSecretUptoRow : OpenClaim := { program := "ytgikhoamickloaa", sum := "827caf1ac178def482c5ab9ed3d89f4e4f1f8105e35e3256d22f135f62f823e9", func := "loop.example/g00507/laws.FnExactDeriveSecret", spec := "fnExactDeriveSecret", apart := false, narrowed := true }
def FnExactDeriveSecretUptoSaid : Prop := fnExactDeriveSecretUptoRow.holds Try.pinned (OpenSpec.upto fnExactDeriveSecretSpec)

/-- 'laws.FnExactReadBytes', WHERE WHAT IT READS IS OF BULK AT MOST 1048576: true; the input reads as it did. -/
def fnExactReadBytesUptoRow : OpenClaim := { program := "ytgikhoamickloaa", sum := "827caf1ac178def482c5ab9ed3d89f4e4f1f8105e35e3256d22f135f62f823e9", func := "loop.example/g00507/laws.FnExactReadBytes", spec := "fnExactReadBytes", apart := false, narrowed := true }
def FnExactReadBytesUptoSaid : Prop := fnExactReadBytesUptoRow.holds Try.pinned (OpenSpec.upto fnExactReadBytesSpec)

/-- 'laws.FnExactEncodeInts', WHERE WHAT IT READS IS OF BULK AT MOST 1048576: true; the input reads as it did. -/
def fnExactEncodeIntsUptoRow : OpenClaim := { program := "ytgikhoamickloaa", sum := "827caf1ac178def482c5ab9ed3d89f4e4f1f8105e35e3256d22f135f62f823e9", func := "loop.example/g00507/laws.FnExactEncodeInts", spec := "fnExactEncodeInts", apart := false, narrowed := true }
def FnExactEncodeIntsUptoSaid : Prop := fnExactEncodeIntsUptoRow.holds Try.pinned (OpenSpec.upto fnExactEncodeIntsSpec)

/-- 'laws.FnExactDecodeInts', WHERE WHAT IT READS IS OF BULK AT MOST 1048576: true; the input reads as it did. -/
def fnExactDecodeIntsUptoRow : OpenClaim := { program := "ytgikhoamickloaa", sum := "827caf1ac178def482c5ab9ed3d89f4e4f1f8105e35e3256d22f135f62f823e9", func := "loop.example/g00507/laws.FnExactDecodeInts", spec := "fnExactDecodeInts", apart := false, narrowed := true }
def FnExactDecodeIntsUptoSaid : Prop := fnExactDecodeIntsUptoRow.holds Try.pinned (OpenSpec.upto fnExactDecodeIntsSpec)

/-- 'laws.FnExactEncrypt', WHERE WHAT IT READS IS OF BULK AT MOST 1048576: true; the input reads as it did. -/
def fnExactEncryptUptoRow : OpenClaim := { program := "ytgikhoamickloaa", sum := "827caf1ac178def482c5ab9ed3d89f4e4f1f8105e35e3256d22f135f62f823e9", func := "loop.example/g00507/laws.FnExactEncrypt", spec := "fnExactEncrypt", apart := false, narrowed := true }
def FnExactEncryptUptoSaid : Prop := fnExactEncryptUptoRow.holds Try.pinned (OpenSpec.upto fnExactEncryptSpec)

/-- 'laws.FnExactDecrypt', WHERE WHAT IT READS IS OF BULK AT MOST 1048576: true; the input reads as it did. -/
def fnExactDecryptUptoRow : OpenClaim := { program := "ytgikhoamickloaa", sum := "827caf1ac178def482c5ab9ed3d89f4e4f1f8105e35e3256d22f135f62f823e9", func := "loop.example/g00507/laws.FnExactDecrypt", spec := "fnExactDecrypt", apart := false, narrowed := true }
def FnExactDecryptUptoSaid : Prop := fnExactDecryptUptoRow.holds Try.pinned (OpenSpec.upto fnExactDecryptSpec)

/-- 'laws.FnVars', WHERE WHAT IT READS IS OF BULK AT MOST 1048576: true; the input reads as it did. -/
def fnVarsUptoRow : OpenClaim := { program := "ytgikhoamickloaa", sum := "827caf1ac178def482c5ab9ed3d89f4e4f1f8105e35e3256d22f135f62f823e9", func := "loop.example/g00507/laws.FnVars", spec := "fnVars", apart := false, narrowed := true }
def FnVarsUptoSaid : Prop := fnVarsUptoRow.holds Try.pinned (OpenSpec.upto fnVarsSpec)

/-- 'laws.FnAlls', WHERE WHAT IT READS IS OF BULK AT MOST 1048576: true; the input reads as it did. -/
def fnAllsUptoRow : OpenClaim := { program := "ytgikhoamickloaa", sum := "827caf1ac178def482c5ab9ed3d89f4e4f1f8105e35e3256d22f135f62f823e9", func := "loop.example/g00507/laws.FnAlls", spec := "fnAlls", apart := false, narrowed := true }
def FnAllsUptoSaid : Prop := fnAllsUptoRow.holds Try.pinned (OpenSpec.upto fnAllsSpec)

/-- 'laws.FnSeals', WHERE WHAT IT READS IS OF BULK AT MOST 1048576: true; the input reads as it did. -/
def fnSealsUptoRow : OpenClaim := { program := "ytgikhoamickloaa", sum := "827caf1ac178def482c5ab9ed3d89f4e4f1f8105e35e3256d22f135f62f823e9", func := "loop.example/g00507/laws.FnSeals", spec := "fnSeals", apart := false, narrowed := true }
def FnSealsUptoSaid : Prop := fnSealsUptoRow.holds Try.pinned (OpenSpec.upto fnSealsSpec)

end Rows
end Go.Proofs.Ytgikhoamickloaa
