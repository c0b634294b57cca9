/-
  No cell of these rows narrows 'for every input' (looked for: loops, veiled, ifaces, maps, wideKeys, modest, calm, conditions, laid).
  DERIVED. THE GIVEN ROWS OF THIS SEAT. 6 by the template 'for every input the law returns true; each argument reads behind the call as it read before'; 0 by the template 'total and deterministic' (their statements: YtcagbdidjakcpaaTotals.lean).
  GIVEN WITH THE SEED: the statements are not yours to turn. If you find one false, say at which input.
  Laid BY PROGRAM, IN A SANDBOX (cutbox-rows.mjs): the forced cells as the released guide's own fill.sh prints them over the translation aa90317fd00bc0d3… (all of the seat's roots in one cut). By AI agents, Wed Nov 11 2026. No macro, syntax, notation, axiom, sorry.
-/
import Derived.Test.YtcagbdidjakcpaaChecked
import GoSem.Claim
import GoSem.ClaimJoined
import GoSem.ClaimMapViews
import Derived.JoinedTies
import Derived.KernelRfl
namespace Go.Proofs.Ytcagbdidjakcpaa
/- THE CELL 'sum', in the pinned program and in every row, IS THE sha256 OF THE DUMP (.gsa) THAT YtcagbdidjakcpaaProg.lean LOADS. Nothing in Lean hashes anything: it is a label: what it is worth is what the hold of that sum in a sandbox is worth. -/
noncomputable def Try.pinned : Pinned := { name := "ytcagbdidjakcpaa", sum := "aa90317fd00bc0d35ca688dee3e3917ae1b306e807e30bce0a4e079fee28f704", checked := Try.checked }
namespace Rows
def none {H : Type} : Left H := { results := [], args := [] }

/-- 'laws.FnWiths': WHATEVER THE INPUT: true; the input reads as it did. -/
def fnWithsSpec : ChangeSpec := { name := "fnWiths", fn := fun _ => fun
  | [d] => { results := [.lit (.bool true)], args := [d] }
  | _ => none }
def fnWithsRow : OpenClaim := { program := "ytcagbdidjakcpaa", sum := "aa90317fd00bc0d35ca688dee3e3917ae1b306e807e30bce0a4e079fee28f704", func := "loop.example/g00507/laws.FnWiths", spec := "fnWiths", unfollowed := true, recurses := true, apart := false }
def FnWithsSaid : Prop := fnWithsRow.holds Try.pinned (OpenSpec.ofChange fnWithsSpec)

/-- ITS FALSE NEIGHBOUR: 'it returns false'. Refute it at one input. -/
def fnWithsWrong : ChangeSpec := { name := "fnWiths", fn := fun _ => fun
  | [d] => { results := [.lit (.bool false)], args := [d] }
  | _ => none }
def FnWithsWrongFalsely : Prop := fnWithsRow.holds Try.pinned (OpenSpec.ofChange fnWithsWrong)

/-- 'laws.FnExactMatches': WHATEVER THE INPUT: true; the input reads as it did. -/
def fnExactMatchesSpec : ChangeSpec := { name := "fnExactMatches", fn := fun _ => fun
  | [d1, d2] => { results := [.lit (.bool true)], args := [d1, d2] }
  | _ => none }
def fnExactMatchesRow : OpenClaim := { program := "ytcagbdidjakcpaa", sum := "aa90317fd00bc0d35ca688dee3e3917ae1b306e807e30bce0a4e079fee28f704", func := "loop.example/g00507/laws.FnExactMatches", spec := "fnExactMatches", unfollowed := true, recurses := true, apart := false }
def FnExactMatchesSaid : Prop := fnExactMatchesRow.holds Try.pinned (OpenSpec.ofChange fnExactMatchesSpec)

/-- ITS FALSE NEIGHBOUR: 'it returns false'. Refute it at one input. -/
def fnExactMatchesWrong : ChangeSpec := { name := "fnExactMatches", fn := fun _ => fun
  | [d1, d2] => { results := [.lit (.bool false)], args := [d1, d2] }
  | _ => none }
def FnExactMatchesWrongFalsely : Prop := fnExactMatchesRow.holds Try.pinned (OpenSpec.ofChange fnExactMatchesWrong)

/-- 'laws.FnExactInstantiate': WHATEVER THE INPUT: true; the input reads as it did. -/
def fnExactInstantiateSpec : ChangeSpec := { name := "fnExactInstantiate", fn := fun _ => fun
  | [d1, d2] => { results := [.lit (.bool true)], args := [d1, d2] }
  | _ => none }
def fnExactInstantiateRow : OpenClaim := { program := "ytcagbdidjakcpaa", sum := "aa90317fd00bc0d35ca688dee3e3917ae1b306e807e30bce0a4e079fee28f704", func := "loop.example/g00507/laws.FnExactInstantiate", spec := "fnExactInstantiate", unfollowed := true, recurses := true, apart := false }
def FnExactInstantiateSaid : Prop := fnExactInstantiateRow.holds Try.pinned (OpenSpec.ofChange fnExactInstantiateSpec)

/-- ITS FALSE NEIGHBOUR: 'it returns false'. Refute it at one input. -/
def fnExactInstantiateWrong : ChangeSpec := { name := "fnExactInstantiate", fn := fun _ => fun
  | [d1, d2] => { results := [.lit (.bool false)], args := [d1, d2] }
  | _ => none }
def FnExactInstantiateWrongFalsely : Prop := fnExactInstantiateRow.holds Try.pinned (OpenSpec.ofChange fnExactInstantiateWrong)

/-- 'laws.FnExactMatch': WHATEVER THE INPUT: true; the input reads as it did. -/
def fnExactMatchSpec : ChangeSpec := { name := "fnExactMatch", fn := fun _ => fun
  | [d1, d2, d3] => { results := [.lit (.bool true)], args := [d1, d2, d3] }
  | _ => none }
def fnExactMatchRow : OpenClaim := { program := "ytcagbdidjakcpaa", sum := "aa90317fd00bc0d35ca688dee3e3917ae1b306e807e30bce0a4e079fee28f704", func := "loop.example/g00507/laws.FnExactMatch", spec := "fnExactMatch", unfollowed := true, recurses := true, apart := false }
def FnExactMatchSaid : Prop := fnExactMatchRow.holds Try.pinned (OpenSpec.ofChange fnExactMatchSpec)

/-- ITS FALSE NEIGHBOUR: 'it returns false'. Refute it at one input. -/
def fnExactMatchWrong : ChangeSpec := { name := "fnExactMatch", fn := fun _ => fun
  | [d1, d2, d3] => { results := [.lit (.bool false)], args := [d1, d2, d3] }
  | _ => none }
def FnExactMatchWrongFalsely : Prop := fnExactMatchRow.holds Try.pinned (OpenSpec.ofChange fnExactMatchWrong)

/-- 'laws.FnExactPutEntry': WHATEVER THE INPUT: true; the input reads as it did. -/
def fnExactPutEntrySpec : ChangeSpec := { name := "fnExactPutEntry", fn := fun _ => fun
  | [d1, d2, d3] => { results := [.lit (.bool true)], args := [d1, d2, d3] }
  | _ => none }
def fnExactPutEntryRow : OpenClaim := { program := "ytcagbdidjakcpaa", sum := "aa90317fd00bc0d35ca688dee3e3917ae1b306e807e30bce0a4e079fee28f704", func := "loop.example/g00507/laws.FnExactPutEntry", spec := "fnExactPutEntry", inPlace := ["slices.overlaps[loop.example/g00507/impl.TableEntry]"], unfollowed := true, recurses := true, apart := false }
def FnExactPutEntrySaid : Prop := fnExactPutEntryRow.holds Try.pinned (OpenSpec.ofChange fnExactPutEntrySpec)

/-- ITS FALSE NEIGHBOUR: 'it returns false'. Refute it at one input. -/
def fnExactPutEntryWrong : ChangeSpec := { name := "fnExactPutEntry", fn := fun _ => fun
  | [d1, d2, d3] => { results := [.lit (.bool false)], args := [d1, d2, d3] }
  | _ => none }
def FnExactPutEntryWrongFalsely : Prop := fnExactPutEntryRow.holds Try.pinned (OpenSpec.ofChange fnExactPutEntryWrong)

/-- 'laws.FnTables': WHATEVER THE INPUT: true; the input reads as it did. -/
def fnTablesSpec : ChangeSpec := { name := "fnTables", fn := fun _ => fun
  | [d] => { results := [.lit (.bool true)], args := [d] }
  | _ => none }
def fnTablesRow : OpenClaim := { program := "ytcagbdidjakcpaa", sum := "aa90317fd00bc0d35ca688dee3e3917ae1b306e807e30bce0a4e079fee28f704", func := "loop.example/g00507/laws.FnTables", spec := "fnTables", inPlace := ["slices.overlaps[loop.example/g00507/impl.TableEntry]"], unfollowed := true, recurses := true, apart := false }
def FnTablesSaid : Prop := fnTablesRow.holds Try.pinned (OpenSpec.ofChange fnTablesSpec)

/-- ITS FALSE NEIGHBOUR: 'it returns false'. Refute it at one input. -/
def fnTablesWrong : ChangeSpec := { name := "fnTables", fn := fun _ => fun
  | [d] => { results := [.lit (.bool false)], args := [d] }
  | _ => none }
def FnTablesWrongFalsely : Prop := fnTablesRow.holds Try.pinned (OpenSpec.ofChange fnTablesWrong)

/- THE SECOND FORM. 'bulk': how many values and letters a reading holds, each counted each time it is reached (what is shared counts as often as it is met; a slice's spare places count too). A statement '..UptoSaid' is the law's where the arguments, and the package variables that the reading takes, are together of bulk at most 1048576: NARROWER than '..Said'. Prove '..Said' where nothing that the law and all that it calls make is longer than what came in: it says more and counts as full. Else prove '..UptoSaid'. A law counts once. -/
mutual
def uptoBulk {H : Type} : DataW H → Nat
  | .lit (.string bytes) => bytes.length + 1
  | .lit _ => 1
  | .nil => 1
  | .ptr d => uptoBulk d + 1
  | .slice elems spare => uptoBulkAll elems + uptoBulkAll spare + 1
  | .agg parts => uptoBulkAll parts + 1
  | .iface _ d => uptoBulk d + 1
  | .map entries => uptoBulkEntries entries + 1
  | .held _ => 1
def uptoBulkAll {H : Type} : List (DataW H) → Nat
  | [] => 0
  | d :: r => uptoBulk d + uptoBulkAll r
def uptoBulkEntries {H : Type} : List (Lit × DataW H) → Nat
  | [] => 0
  | x :: r => uptoBulkEntry x + uptoBulkEntries r
def uptoBulkEntry {H : Type} : Lit × DataW H → Nat
  | (.string bytes, d) => bytes.length + uptoBulk d + 1
  | (_, d) => uptoBulk d + 1
 end
def uptoSmall : (H : Type) → List (DataW H) → Bool := fun _ ds => decide (uptoBulkAll ds ≤ 1048576)
def OpenSpec.upto (s : _root_.Go.ChangeSpec) : _root_.Go.OpenSpec := { _root_.Go.OpenSpec.ofChange s with cond := some uptoSmall }

/-- 'laws.FnWiths', WHERE WHAT IT READS IS OF BULK AT MOST 1048576: true; the input reads as it did. -/
def fnWithsUptoRow : OpenClaim := { program := "ytcagbdidjakcpaa", sum := "aa90317fd00bc0d35ca688dee3e3917ae1b306e807e30bce0a4e079fee28f704", func := "loop.example/g00507/laws.FnWiths", spec := "fnWiths", unfollowed := true, recurses := true, apart := false, narrowed := true }
def FnWithsUptoSaid : Prop := fnWithsUptoRow.holds Try.pinned (OpenSpec.upto fnWithsSpec)

/-- 'laws.FnExactMatches', WHERE WHAT IT READS IS OF BULK AT MOST 1048576: true; the input reads as it did. -/
def fnExactMatchesUptoRow : OpenClaim := { program := "ytcagbdidjakcpaa", sum := "aa90317fd00bc0d35ca688dee3e3917ae1b306e807e30bce0a4e079fee28f704", func := "loop.example/g00507/laws.FnExactMatches", spec := "fnExactMatches", unfollowed := true, recurses := true, apart := false, narrowed := true }
def FnExactMatchesUptoSaid : Prop := fnExactMatchesUptoRow.holds Try.pinned (OpenSpec.upto fnExactMatchesSpec)

/-- 'laws.FnExactInstantiate', WHERE WHAT IT READS IS OF BULK AT MOST 1048576: true; the input reads as it did. -/
def fnExactInstantiateUptoRow : OpenClaim := { program := "ytcagbdidjakcpaa", sum := "aa90317fd00bc0d35ca688dee3e3917ae1b306e807e30bce0a4e079fee28f704", func := "loop.example/g00507/laws.FnExactInstantiate", spec := "fnExactInstantiate", unfollowed := true, recurses := true, apart := false, narrowed := true }
def FnExactInstantiateUptoSaid : Prop := fnExactInstantiateUptoRow.holds Try.pinned (OpenSpec.upto fnExactInstantiateSpec)

/-- 'laws.FnExactMatch', WHERE WHAT IT READS IS OF BULK AT MOST 1048576: true; the input reads as it did. -/
def fnExactMatchUptoRow : OpenClaim := { program := "ytcagbdidjakcpaa", sum := "aa90317fd00bc0d35ca688dee3e3917ae1b306e807e30bce0a4e079fee28f704", func := "loop.example/g00507/laws.FnExactMatch", spec := "fnExactMatch", unfollowed := true, recurses := true, apart := false, narrowed := true }
def FnExactMatchUptoSaid : Prop := fnExactMatchUptoRow.holds Try.pinned (OpenSpec.upto fnExactMatchSpec)

/-- 'laws.FnExactPutEntry', WHERE WHAT IT READS IS OF BULK AT MOST 1048576: true; the input reads as it did. -/
def fnExactPutEntryUptoRow : OpenClaim := { program := "ytcagbdidjakcpaa", sum := "aa90317fd00bc0d35ca688dee3e3917ae1b306e807e30bce0a4e079fee28f704", func := "loop.example/g00507/laws.FnExactPutEntry", spec := "fnExactPutEntry", inPlace := ["slices.overlaps[loop.example/g00507/impl.TableEntry]"], unfollowed := true, recurses := true, apart := false, narrowed := true }
def FnExactPutEntryUptoSaid : Prop := fnExactPutEntryUptoRow.holds Try.pinned (OpenSpec.upto fnExactPutEntrySpec)

/-- 'laws.FnTables', WHERE WHAT IT READS IS OF BULK AT MOST 1048576: true; the input reads as it did. -/
def fnTablesUptoRow : OpenClaim := { program := "ytcagbdidjakcpaa", sum := "aa90317fd00bc0d35ca688dee3e3917ae1b306e807e30bce0a4e079fee28f704", func := "loop.example/g00507/laws.FnTables", spec := "fnTables", inPlace := ["slices.overlaps[loop.example/g00507/impl.TableEntry]"], unfollowed := true, recurses := true, apart := false, narrowed := true }
def FnTablesUptoSaid : Prop := fnTablesUptoRow.holds Try.pinned (OpenSpec.upto fnTablesSpec)

end Rows
end Go.Proofs.Ytcagbdidjakcpaa
