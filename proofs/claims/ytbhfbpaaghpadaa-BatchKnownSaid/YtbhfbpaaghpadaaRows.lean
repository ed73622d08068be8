/-
  No cell of these rows narrows 'for every input' (looked for: loops, veiled, ifaces, maps, wideKeys, modest, calm, conditions, laid).
  DERIVED. THE GIVEN ROWS OF THIS SEAT. 3 by the template 'for every input the law returns true; each argument reads behind the call as it read before'; 0 by the template 'total and deterministic' (their statements: YtbhfbpaaghpadaaTotals.lean).
  GIVEN WITH THE SEED: the statements are not yours to turn. If you find one false, say at which input.
  Laid BY PROGRAM, IN A SANDBOX (cutbox-rows.mjs): the forced cells as the released guide's own fill.sh prints them over the translation af84600296b997ed… (all of the seat's roots in one cut). By AI agents, Wed Nov 11 2026. No macro, syntax, notation, axiom, sorry.
-/
import Derived.Test.YtbhfbpaaghpadaaChecked
import GoSem.Claim
import GoSem.ClaimJoined
import GoSem.ClaimMapViews
import Derived.JoinedTies
import Derived.KernelRfl
namespace Go.Proofs.Ytbhfbpaaghpadaa
/- THE CELL 'sum', in the pinned program and in every row, IS THE sha256 OF THE DUMP (.gsa) THAT YtbhfbpaaghpadaaProg.lean LOADS. Nothing in Lean hashes anything: it is a label: what it is worth is what the hold of that sum in a sandbox is worth. -/
noncomputable def Try.pinned : Pinned := { name := "ytbhfbpaaghpadaa", sum := "af84600296b997ede488752df9c5f45871204e74ca57144d5decf0ca899fc69a", checked := Try.checked }
namespace Rows
def none {H : Type} : Left H := { results := [], args := [] }

/-- 'muslinlaw09.BatchLess': WHATEVER THE INPUT: true; the input reads as it did. -/
def batchLessSpec : ChangeSpec := { name := "batchLess", fn := fun _ => fun
  | [d1, d2, d3] => { results := [.lit (.bool true)], args := [d1, d2, d3] }
  | _ => none }
def batchLessRow : OpenClaim := { program := "ytbhfbpaaghpadaa", sum := "af84600296b997ede488752df9c5f45871204e74ca57144d5decf0ca899fc69a", func := "muslin/muslinlaw09.BatchLess", spec := "batchLess", unfollowed := true, recurses := true, apart := false }
def BatchLessSaid : Prop := batchLessRow.holds Try.pinned (OpenSpec.ofChange batchLessSpec)

/-- ITS FALSE NEIGHBOUR: 'it returns false'. Refute it at one input. -/
def batchLessWrong : ChangeSpec := { name := "batchLess", fn := fun _ => fun
  | [d1, d2, d3] => { results := [.lit (.bool false)], args := [d1, d2, d3] }
  | _ => none }
def BatchLessWrongFalsely : Prop := batchLessRow.holds Try.pinned (OpenSpec.ofChange batchLessWrong)

/-- 'muslinlaw09.BatchSize': WHATEVER THE INPUT: true; the input reads as it did. -/
def batchSizeSpec : ChangeSpec := { name := "batchSize", fn := fun _ => fun
  | [d1, d2] => { results := [.lit (.bool true)], args := [d1, d2] }
  | _ => none }
def batchSizeRow : OpenClaim := { program := "ytbhfbpaaghpadaa", sum := "af84600296b997ede488752df9c5f45871204e74ca57144d5decf0ca899fc69a", func := "muslin/muslinlaw09.BatchSize", spec := "batchSize", inPlace := ["internal/abi.NoEscape", "internal/bytealg.MakeNoZero"], unfollowed := true, recurses := true, apart := false }
def BatchSizeSaid : Prop := batchSizeRow.holds Try.pinned (OpenSpec.ofChange batchSizeSpec)

/-- ITS FALSE NEIGHBOUR: 'it returns false'. Refute it at one input. -/
def batchSizeWrong : ChangeSpec := { name := "batchSize", fn := fun _ => fun
  | [d1, d2] => { results := [.lit (.bool false)], args := [d1, d2] }
  | _ => none }
def BatchSizeWrongFalsely : Prop := batchSizeRow.holds Try.pinned (OpenSpec.ofChange batchSizeWrong)

/-- 'muslinlaw09.BatchKnown': WHATEVER THE INPUT: true; the input reads as it did. -/
def batchKnownSpec : ChangeSpec := { name := "batchKnown", fn := fun _ => fun
  | [] => { results := [.lit (.bool true)], args := [] }
  | _ => none }
def batchKnownRow : OpenClaim := { program := "ytbhfbpaaghpadaa", sum := "af84600296b997ede488752df9c5f45871204e74ca57144d5decf0ca899fc69a", func := "muslin/muslinlaw09.BatchKnown", spec := "batchKnown", inPlace := ["internal/abi.NoEscape", "internal/bytealg.MakeNoZero"], unfollowed := true, recurses := true, apart := false }
def BatchKnownSaid : Prop := batchKnownRow.holds Try.pinned (OpenSpec.ofChange batchKnownSpec)

/-- ITS FALSE NEIGHBOUR: 'it returns false'. Refute it at one input. -/
def batchKnownWrong : ChangeSpec := { name := "batchKnown", fn := fun _ => fun
  | [] => { results := [.lit (.bool false)], args := [] }
  | _ => none }
def BatchKnownWrongFalsely : Prop := batchKnownRow.holds Try.pinned (OpenSpec.ofChange batchKnownWrong)

/- THE SECOND FORM. 'bulk': how many values and letters a reading holds, each counted each time it is reached (what is shared counts as often as it is met; a slice's spare places count too). A statement '..UptoSaid' is the law's where the arguments, and the package variables that the reading takes, are together of bulk at most 1048576: NARROWER than '..Said'. Prove '..Said' where nothing that the law and all that it calls make is longer than what came in: it says more and counts as full. Else prove '..UptoSaid'. A law counts once. -/
mutual
def uptoBulk {H : Type} : DataW H → Nat
  | .lit (.string bytes) => bytes.length + 1
  | .lit _ => 1
  | .nil => 1
  | .ptr d => uptoBulk d + 1
  | .slice elems spare => uptoBulkAll elems + uptoBulkAll spare + 1
  | .agg parts => uptoBulkAll parts + 1
  | .iface _ d => uptoBulk d + 1
  | .map entries => uptoBulkEntries entries + 1
  | .held _ => 1
def uptoBulkAll {H : Type} : List (DataW H) → Nat
  | [] => 0
  | d :: r => uptoBulk d + uptoBulkAll r
def uptoBulkEntries {H : Type} : List (Lit × DataW H) → Nat
  | [] => 0
  | x :: r => uptoBulkEntry x + uptoBulkEntries r
def uptoBulkEntry {H : Type} : Lit × DataW H → Nat
  | (.string bytes, d) => bytes.length + uptoBulk d + 1
  | (_, d) => uptoBulk d + 1
 end
def uptoSmall : (H : Type) → List (DataW H) → Bool := fun _ ds => decide (uptoBulkAll ds ≤ 1048576)
def OpenSpec.upto (s : _root_.Go.ChangeSpec) : _root_.Go.OpenSpec := { _root_.Go.OpenSpec.ofChange s with cond := some uptoSmall }

/-- 'muslinlaw09.BatchLess', WHERE WHAT IT READS IS OF BULK AT MOST 1048576: true; the input reads as it did. -/
def batchLessUptoRow : OpenClaim := { program := "ytbhfbpaaghpadaa", sum := "af84600296b997ede488752df9c5f45871204e74ca57144d5decf0ca899fc69a", func := "muslin/muslinlaw09.BatchLess", spec := "batchLess", unfollowed := true, recurses := true, apart := false, narrowed := true }
def BatchLessUptoSaid : Prop := batchLessUptoRow.holds Try.pinned (OpenSpec.upto batchLessSpec)

/-- 'muslinlaw09.BatchSize', WHERE WHAT IT READS IS OF BULK AT MOST 1048576: true; the input reads as it did. -/
def batchSizeUptoRow : OpenClaim := { program := "ytbhfbpaaghpadaa", sum := "af84600296b997ede488752df9c5f45871204e74ca57144d5decf0ca899fc69a", func := "muslin/muslinlaw09.BatchSize", spec := "batchSize", inPlace := ["internal/abi.NoEscape", "internal/bytealg.MakeNoZero"], unfollowed := true, recurses := true, apart := false, narrowed := true }
def BatchSizeUptoSaid : Prop := batchSizeUptoRow.holds Try.pinned (OpenSpec.upto batchSizeSpec)

/-- 'muslinlaw09.BatchKnown', WHERE WHAT IT READS IS OF BULK AT MOST 1048576: true; the input reads as it did. -/
def batchKnownUptoRow : OpenClaim := { program := "ytbhfbpaaghpadaa", sum := "af84600296b997ede488752df9c5f45871204e74ca57144d5decf0ca899fc69a", func := "muslin/muslinlaw09.BatchKnown", spec := "batchKnown", inPlace := ["internal/abi.NoEscape", "internal/bytealg.MakeNoZero"], unfollowed := true, recurses := true, apart := false, narrowed := true }
def BatchKnownUptoSaid : Prop := batchKnownUptoRow.holds Try.pinned (OpenSpec.upto batchKnownSpec)

end Rows
end Go.Proofs.Ytbhfbpaaghpadaa
