/-
  No cell of these rows narrows 'for every input' (looked for: loops, veiled, ifaces, maps, wideKeys, modest, calm, conditions, laid).
  DERIVED. THE GIVEN ROWS OF THIS SEAT. 15 by the template 'for every input the law returns true; each argument reads behind the call as it read before'; 0 by the template 'total and deterministic' (their statements: YtbbejajnfajpoaaTotals.lean).
  GIVEN WITH THE SEED: the statements are not yours to turn. If you find one false, say at which input.
  Laid BY PROGRAM, IN A SANDBOX (cutbox-rows.mjs): the forced cells as the released guide's own fill.sh prints them over the translation 9539480b32e70a2c… (all of the seat's roots in one cut). By AI agents, Wed Nov 11 2026. No macro, syntax, notation, axiom, sorry.
-/
import Derived.Test.YtbbejajnfajpoaaChecked
import GoSem.Claim
import GoSem.ClaimJoined
import GoSem.ClaimMapViews
import Derived.JoinedTies
import Derived.KernelRfl
namespace Go.Proofs.Ytbbejajnfajpoaa
/- THE CELL 'sum', in the pinned program and in every row, IS THE sha256 OF THE DUMP (.gsa) THAT YtbbejajnfajpoaaProg.lean LOADS. Nothing in Lean hashes anything: it is a label: what it is worth is what the hold of that sum in a sandbox is worth. -/
noncomputable def Try.pinned : Pinned := { name := "ytbbejajnfajpoaa", sum := "9539480b32e70a2ce387b5d4de440570a0d4bd02c1443c83ee7308da766cfdb0", checked := Try.checked }
namespace Rows
def none {H : Type} : Left H := { results := [], args := [] }

/-- 'muslinlaw01.DigitsBack': WHATEVER THE INPUT: true; the input reads as it did. -/
def digitsBackSpec : ChangeSpec := { name := "digitsBack", fn := fun _ => fun
  | [d1, d2, d3] => { results := [.lit (.bool true)], args := [d1, d2, d3] }
  | _ => none }
def digitsBackRow : OpenClaim := { program := "ytbbejajnfajpoaa", sum := "9539480b32e70a2ce387b5d4de440570a0d4bd02c1443c83ee7308da766cfdb0", func := "muslin/muslinlaw01.DigitsBack", spec := "digitsBack", inPlace := ["internal/bytealg.MakeNoZero"], unfollowed := true, recurses := true, apart := false }
def DigitsBackSaid : Prop := digitsBackRow.holds Try.pinned (OpenSpec.ofChange digitsBackSpec)

/-- ITS FALSE NEIGHBOUR: 'it returns false'. Refute it at one input. -/
def digitsBackWrong : ChangeSpec := { name := "digitsBack", fn := fun _ => fun
  | [d1, d2, d3] => { results := [.lit (.bool false)], args := [d1, d2, d3] }
  | _ => none }
def DigitsBackWrongFalsely : Prop := digitsBackRow.holds Try.pinned (OpenSpec.ofChange digitsBackWrong)

/-- 'muslinlaw03.ParcelPacks': WHATEVER THE INPUT: true; the input reads as it did. -/
def parcelPacksSpec : ChangeSpec := { name := "parcelPacks", fn := fun _ => fun
  | [d1, d2] => { results := [.lit (.bool true)], args := [d1, d2] }
  | _ => none }
def parcelPacksRow : OpenClaim := { program := "ytbbejajnfajpoaa", sum := "9539480b32e70a2ce387b5d4de440570a0d4bd02c1443c83ee7308da766cfdb0", func := "muslin/muslinlaw03.ParcelPacks", spec := "parcelPacks", apart := false }
def ParcelPacksSaid : Prop := parcelPacksRow.holds Try.pinned (OpenSpec.ofChange parcelPacksSpec)

/-- ITS FALSE NEIGHBOUR: 'it returns false'. Refute it at one input. -/
def parcelPacksWrong : ChangeSpec := { name := "parcelPacks", fn := fun _ => fun
  | [d1, d2] => { results := [.lit (.bool false)], args := [d1, d2] }
  | _ => none }
def ParcelPacksWrongFalsely : Prop := parcelPacksRow.holds Try.pinned (OpenSpec.ofChange parcelPacksWrong)

/-- 'muslinlaw03.ParcelAgain': WHATEVER THE INPUT: true; the input reads as it did. -/
def parcelAgainSpec : ChangeSpec := { name := "parcelAgain", fn := fun _ => fun
  | [d] => { results := [.lit (.bool true)], args := [d] }
  | _ => none }
def parcelAgainRow : OpenClaim := { program := "ytbbejajnfajpoaa", sum := "9539480b32e70a2ce387b5d4de440570a0d4bd02c1443c83ee7308da766cfdb0", func := "muslin/muslinlaw03.ParcelAgain", spec := "parcelAgain", apart := false }
def ParcelAgainSaid : Prop := parcelAgainRow.holds Try.pinned (OpenSpec.ofChange parcelAgainSpec)

/-- ITS FALSE NEIGHBOUR: 'it returns false'. Refute it at one input. -/
def parcelAgainWrong : ChangeSpec := { name := "parcelAgain", fn := fun _ => fun
  | [d] => { results := [.lit (.bool false)], args := [d] }
  | _ => none }
def ParcelAgainWrongFalsely : Prop := parcelAgainRow.holds Try.pinned (OpenSpec.ofChange parcelAgainWrong)

/-- 'muslinlaw03.ParcelTurned': WHATEVER THE INPUT: true; the input reads as it did. -/
def parcelTurnedSpec : ChangeSpec := { name := "parcelTurned", fn := fun _ => fun
  | [d1, d2, d3] => { results := [.lit (.bool true)], args := [d1, d2, d3] }
  | _ => none }
def parcelTurnedRow : OpenClaim := { program := "ytbbejajnfajpoaa", sum := "9539480b32e70a2ce387b5d4de440570a0d4bd02c1443c83ee7308da766cfdb0", func := "muslin/muslinlaw03.ParcelTurned", spec := "parcelTurned", apart := false }
def ParcelTurnedSaid : Prop := parcelTurnedRow.holds Try.pinned (OpenSpec.ofChange parcelTurnedSpec)

/-- ITS FALSE NEIGHBOUR: 'it returns false'. Refute it at one input. -/
def parcelTurnedWrong : ChangeSpec := { name := "parcelTurned", fn := fun _ => fun
  | [d1, d2, d3] => { results := [.lit (.bool false)], args := [d1, d2, d3] }
  | _ => none }
def ParcelTurnedWrongFalsely : Prop := parcelTurnedRow.holds Try.pinned (OpenSpec.ofChange parcelTurnedWrong)

/-- 'muslinlaw03.ParcelApart': WHATEVER THE INPUT: true; the input reads as it did. -/
def parcelApartSpec : ChangeSpec := { name := "parcelApart", fn := fun _ => fun
  | [d1, d2, d3] => { results := [.lit (.bool true)], args := [d1, d2, d3] }
  | _ => none }
def parcelApartRow : OpenClaim := { program := "ytbbejajnfajpoaa", sum := "9539480b32e70a2ce387b5d4de440570a0d4bd02c1443c83ee7308da766cfdb0", func := "muslin/muslinlaw03.ParcelApart", spec := "parcelApart", apart := false }
def ParcelApartSaid : Prop := parcelApartRow.holds Try.pinned (OpenSpec.ofChange parcelApartSpec)

/-- ITS FALSE NEIGHBOUR: 'it returns false'. Refute it at one input. -/
def parcelApartWrong : ChangeSpec := { name := "parcelApart", fn := fun _ => fun
  | [d1, d2, d3] => { results := [.lit (.bool false)], args := [d1, d2, d3] }
  | _ => none }
def ParcelApartWrongFalsely : Prop := parcelApartRow.holds Try.pinned (OpenSpec.ofChange parcelApartWrong)

/-- 'muslinlaw03.ParcelTakes': WHATEVER THE INPUT: true; the input reads as it did. -/
def parcelTakesSpec : ChangeSpec := { name := "parcelTakes", fn := fun _ => fun
  | [d] => { results := [.lit (.bool true)], args := [d] }
  | _ => none }
def parcelTakesRow : OpenClaim := { program := "ytbbejajnfajpoaa", sum := "9539480b32e70a2ce387b5d4de440570a0d4bd02c1443c83ee7308da766cfdb0", func := "muslin/muslinlaw03.ParcelTakes", spec := "parcelTakes", unfollowed := true, recurses := true, apart := false }
def ParcelTakesSaid : Prop := parcelTakesRow.holds Try.pinned (OpenSpec.ofChange parcelTakesSpec)

/-- ITS FALSE NEIGHBOUR: 'it returns false'. Refute it at one input. -/
def parcelTakesWrong : ChangeSpec := { name := "parcelTakes", fn := fun _ => fun
  | [d] => { results := [.lit (.bool false)], args := [d] }
  | _ => none }
def ParcelTakesWrongFalsely : Prop := parcelTakesRow.holds Try.pinned (OpenSpec.ofChange parcelTakesWrong)

/-- 'muslinlaw03.ParcelBack': WHATEVER THE INPUT: true; the input reads as it did. -/
def parcelBackSpec : ChangeSpec := { name := "parcelBack", fn := fun _ => fun
  | [d1, d2, d3] => { results := [.lit (.bool true)], args := [d1, d2, d3] }
  | _ => none }
def parcelBackRow : OpenClaim := { program := "ytbbejajnfajpoaa", sum := "9539480b32e70a2ce387b5d4de440570a0d4bd02c1443c83ee7308da766cfdb0", func := "muslin/muslinlaw03.ParcelBack", spec := "parcelBack", unfollowed := true, recurses := true, apart := false }
def ParcelBackSaid : Prop := parcelBackRow.holds Try.pinned (OpenSpec.ofChange parcelBackSpec)

/-- ITS FALSE NEIGHBOUR: 'it returns false'. Refute it at one input. -/
def parcelBackWrong : ChangeSpec := { name := "parcelBack", fn := fun _ => fun
  | [d1, d2, d3] => { results := [.lit (.bool false)], args := [d1, d2, d3] }
  | _ => none }
def ParcelBackWrongFalsely : Prop := parcelBackRow.holds Try.pinned (OpenSpec.ofChange parcelBackWrong)

/-- 'muslinlaw03.ParcelKnown': WHATEVER THE INPUT: true; the input reads as it did. -/
def parcelKnownSpec : ChangeSpec := { name := "parcelKnown", fn := fun _ => fun
  | [] => { results := [.lit (.bool true)], args := [] }
  | _ => none }
def parcelKnownRow : OpenClaim := { program := "ytbbejajnfajpoaa", sum := "9539480b32e70a2ce387b5d4de440570a0d4bd02c1443c83ee7308da766cfdb0", func := "muslin/muslinlaw03.ParcelKnown", spec := "parcelKnown", unfollowed := true, recurses := true, apart := false }
def ParcelKnownSaid : Prop := parcelKnownRow.holds Try.pinned (OpenSpec.ofChange parcelKnownSpec)

/-- ITS FALSE NEIGHBOUR: 'it returns false'. Refute it at one input. -/
def parcelKnownWrong : ChangeSpec := { name := "parcelKnown", fn := fun _ => fun
  | [] => { results := [.lit (.bool false)], args := [] }
  | _ => none }
def ParcelKnownWrongFalsely : Prop := parcelKnownRow.holds Try.pinned (OpenSpec.ofChange parcelKnownWrong)

/-- 'muslinlaw08.ValueReads': WHATEVER THE INPUT: true; the input reads as it did. -/
def valueReadsSpec : ChangeSpec := { name := "valueReads", fn := fun _ => fun
  | [d] => { results := [.lit (.bool true)], args := [d] }
  | _ => none }
def valueReadsRow : OpenClaim := { program := "ytbbejajnfajpoaa", sum := "9539480b32e70a2ce387b5d4de440570a0d4bd02c1443c83ee7308da766cfdb0", func := "muslin/muslinlaw08.ValueReads", spec := "valueReads", unfollowed := true, recurses := true, apart := false }
def ValueReadsSaid : Prop := valueReadsRow.holds Try.pinned (OpenSpec.ofChange valueReadsSpec)

/-- ITS FALSE NEIGHBOUR: 'it returns false'. Refute it at one input. -/
def valueReadsWrong : ChangeSpec := { name := "valueReads", fn := fun _ => fun
  | [d] => { results := [.lit (.bool false)], args := [d] }
  | _ => none }
def ValueReadsWrongFalsely : Prop := valueReadsRow.holds Try.pinned (OpenSpec.ofChange valueReadsWrong)

/-- 'muslinlaw08.ValueBack': WHATEVER THE INPUT: true; the input reads as it did. -/
def valueBackSpec : ChangeSpec := { name := "valueBack", fn := fun _ => fun
  | [d1, d2, d3] => { results := [.lit (.bool true)], args := [d1, d2, d3] }
  | _ => none }
def valueBackRow : OpenClaim := { program := "ytbbejajnfajpoaa", sum := "9539480b32e70a2ce387b5d4de440570a0d4bd02c1443c83ee7308da766cfdb0", func := "muslin/muslinlaw08.ValueBack", spec := "valueBack", unfollowed := true, recurses := true, apart := false }
def ValueBackSaid : Prop := valueBackRow.holds Try.pinned (OpenSpec.ofChange valueBackSpec)

/-- ITS FALSE NEIGHBOUR: 'it returns false'. Refute it at one input. -/
def valueBackWrong : ChangeSpec := { name := "valueBack", fn := fun _ => fun
  | [d1, d2, d3] => { results := [.lit (.bool false)], args := [d1, d2, d3] }
  | _ => none }
def ValueBackWrongFalsely : Prop := valueBackRow.holds Try.pinned (OpenSpec.ofChange valueBackWrong)

/-- 'muslinlaw08.ValueAgain': WHATEVER THE INPUT: true; the input reads as it did. -/
def valueAgainSpec : ChangeSpec := { name := "valueAgain", fn := fun _ => fun
  | [d] => { results := [.lit (.bool true)], args := [d] }
  | _ => none }
def valueAgainRow : OpenClaim := { program := "ytbbejajnfajpoaa", sum := "9539480b32e70a2ce387b5d4de440570a0d4bd02c1443c83ee7308da766cfdb0", func := "muslin/muslinlaw08.ValueAgain", spec := "valueAgain", unfollowed := true, recurses := true, apart := false }
def ValueAgainSaid : Prop := valueAgainRow.holds Try.pinned (OpenSpec.ofChange valueAgainSpec)

/-- ITS FALSE NEIGHBOUR: 'it returns false'. Refute it at one input. -/
def valueAgainWrong : ChangeSpec := { name := "valueAgain", fn := fun _ => fun
  | [d] => { results := [.lit (.bool false)], args := [d] }
  | _ => none }
def ValueAgainWrongFalsely : Prop := valueAgainRow.holds Try.pinned (OpenSpec.ofChange valueAgainWrong)

/-- 'muslinlaw08.ValueWrites': WHATEVER THE INPUT: true; the input reads as it did. -/
def valueWritesSpec : ChangeSpec := { name := "valueWrites", fn := fun _ => fun
  | [d1, d2, d3] => { results := [.lit (.bool true)], args := [d1, d2, d3] }
  | _ => none }
def valueWritesRow : OpenClaim := { program := "ytbbejajnfajpoaa", sum := "9539480b32e70a2ce387b5d4de440570a0d4bd02c1443c83ee7308da766cfdb0", func := "muslin/muslinlaw08.ValueWrites", spec := "valueWrites", inPlace := ["internal/bytealg.abigen_runtime_cmpstring"], unfollowed := true, recurses := true, apart := false }
def ValueWritesSaid : Prop := valueWritesRow.holds Try.pinned (OpenSpec.ofChange valueWritesSpec)

/-- ITS FALSE NEIGHBOUR: 'it returns false'. Refute it at one input. -/
def valueWritesWrong : ChangeSpec := { name := "valueWrites", fn := fun _ => fun
  | [d1, d2, d3] => { results := [.lit (.bool false)], args := [d1, d2, d3] }
  | _ => none }
def ValueWritesWrongFalsely : Prop := valueWritesRow.holds Try.pinned (OpenSpec.ofChange valueWritesWrong)

/-- 'muslinlaw08.ValueOrder': WHATEVER THE INPUT: true; the input reads as it did. -/
def valueOrderSpec : ChangeSpec := { name := "valueOrder", fn := fun _ => fun
  | [d1, d2, d3] => { results := [.lit (.bool true)], args := [d1, d2, d3] }
  | _ => none }
def valueOrderRow : OpenClaim := { program := "ytbbejajnfajpoaa", sum := "9539480b32e70a2ce387b5d4de440570a0d4bd02c1443c83ee7308da766cfdb0", func := "muslin/muslinlaw08.ValueOrder", spec := "valueOrder", inPlace := ["internal/bytealg.abigen_runtime_cmpstring"], unfollowed := true, recurses := true, apart := false }
def ValueOrderSaid : Prop := valueOrderRow.holds Try.pinned (OpenSpec.ofChange valueOrderSpec)

/-- ITS FALSE NEIGHBOUR: 'it returns false'. Refute it at one input. -/
def valueOrderWrong : ChangeSpec := { name := "valueOrder", fn := fun _ => fun
  | [d1, d2, d3] => { results := [.lit (.bool false)], args := [d1, d2, d3] }
  | _ => none }
def ValueOrderWrongFalsely : Prop := valueOrderRow.holds Try.pinned (OpenSpec.ofChange valueOrderWrong)

/-- 'muslinlaw08.ValueKnown': WHATEVER THE INPUT: true; the input reads as it did. -/
def valueKnownSpec : ChangeSpec := { name := "valueKnown", fn := fun _ => fun
  | [] => { results := [.lit (.bool true)], args := [] }
  | _ => none }
def valueKnownRow : OpenClaim := { program := "ytbbejajnfajpoaa", sum := "9539480b32e70a2ce387b5d4de440570a0d4bd02c1443c83ee7308da766cfdb0", func := "muslin/muslinlaw08.ValueKnown", spec := "valueKnown", inPlace := ["internal/abi.NoEscape", "internal/bytealg.MakeNoZero"], unfollowed := true, recurses := true, apart := false }
def ValueKnownSaid : Prop := valueKnownRow.holds Try.pinned (OpenSpec.ofChange valueKnownSpec)

/-- ITS FALSE NEIGHBOUR: 'it returns false'. Refute it at one input. -/
def valueKnownWrong : ChangeSpec := { name := "valueKnown", fn := fun _ => fun
  | [] => { results := [.lit (.bool false)], args := [] }
  | _ => none }
def ValueKnownWrongFalsely : Prop := valueKnownRow.holds Try.pinned (OpenSpec.ofChange valueKnownWrong)

/-- 'muslinlaw08.ValueSize': WHATEVER THE INPUT: true; the input reads as it did. -/
def valueSizeSpec : ChangeSpec := { name := "valueSize", fn := fun _ => fun
  | [d1, d2] => { results := [.lit (.bool true)], args := [d1, d2] }
  | _ => none }
def valueSizeRow : OpenClaim := { program := "ytbbejajnfajpoaa", sum := "9539480b32e70a2ce387b5d4de440570a0d4bd02c1443c83ee7308da766cfdb0", func := "muslin/muslinlaw08.ValueSize", spec := "valueSize", inPlace := ["internal/abi.NoEscape", "internal/bytealg.MakeNoZero"], unfollowed := true, recurses := true, apart := false }
def ValueSizeSaid : Prop := valueSizeRow.holds Try.pinned (OpenSpec.ofChange valueSizeSpec)

/-- ITS FALSE NEIGHBOUR: 'it returns false'. Refute it at one input. -/
def valueSizeWrong : ChangeSpec := { name := "valueSize", fn := fun _ => fun
  | [d1, d2] => { results := [.lit (.bool false)], args := [d1, d2] }
  | _ => none }
def ValueSizeWrongFalsely : Prop := valueSizeRow.holds Try.pinned (OpenSpec.ofChange valueSizeWrong)

/- THE SECOND FORM. 'bulk': how many values and letters a reading holds, each counted each time it is reached (what is shared counts as often as it is met; a slice's spare places count too). A statement '..UptoSaid' is the law's where the arguments, and the package variables that the reading takes, are together of bulk at most 1048576: NARROWER than '..Said'. Prove '..Said' where nothing that the law and all that it calls make is longer than what came in: it says more and counts as full. Else prove '..UptoSaid'. A law counts once. -/
mutual
def uptoBulk {H : Type} : DataW H → Nat
  | .lit (.string bytes) => bytes.length + 1
  | .lit _ => 1
  | .nil => 1
  | .ptr d => uptoBulk d + 1
  | .slice elems spare => uptoBulkAll elems + uptoBulkAll spare + 1
  | .agg parts => uptoBulkAll parts + 1
  | .iface _ d => uptoBulk d + 1
  | .map entries => uptoBulkEntries entries + 1
  | .held _ => 1
def uptoBulkAll {H : Type} : List (DataW H) → Nat
  | [] => 0
  | d :: r => uptoBulk d + uptoBulkAll r
def uptoBulkEntries {H : Type} : List (Lit × DataW H) → Nat
  | [] => 0
  | x :: r => uptoBulkEntry x + uptoBulkEntries r
def uptoBulkEntry {H : Type} : Lit × DataW H → Nat
  | (.string bytes, d) => bytes.length + uptoBulk d + 1
  | (_, d) => uptoBulk d + 1
 end
def uptoSmall : (H : Type) → List (DataW H) → Bool := fun _ ds => decide (uptoBulkAll ds ≤ 1048576)
def OpenSpec.upto (s : _root_.Go.ChangeSpec) : _root_.Go.OpenSpec := { _root_.Go.OpenSpec.ofChange s with cond := some uptoSmall }

/-- 'muslinlaw01.DigitsBack', WHERE WHAT IT READS IS OF BULK AT MOST 1048576: true; the input reads as it did. -/
def digitsBackUptoRow : OpenClaim := { program := "ytbbejajnfajpoaa", sum := "9539480b32e70a2ce387b5d4de440570a0d4bd02c1443c83ee7308da766cfdb0", func := "muslin/muslinlaw01.DigitsBack", spec := "digitsBack", inPlace := ["internal/bytealg.MakeNoZero"], unfollowed := true, recurses := true, apart := false, narrowed := true }
def DigitsBackUptoSaid : Prop := digitsBackUptoRow.holds Try.pinned (OpenSpec.upto digitsBackSpec)

/-- 'muslinlaw03.ParcelPacks', WHERE WHAT IT READS IS OF BULK AT MOST 1048576: true; the input reads as it did. -/
def parcelPacksUptoRow : OpenClaim := { program := "ytbbejajnfajpoaa", sum := "9539480b32e70a2ce387b5d4de440570a0d4bd02c1443c83ee7308da766cfdb0", func := "muslin/muslinlaw03.ParcelPacks", spec := "parcelPacks", apart := false, narrowed := true }
def ParcelPacksUptoSaid : Prop := parcelPacksUptoRow.holds Try.pinned (OpenSpec.upto parcelPacksSpec)

/-- 'muslinlaw03.ParcelAgain', WHERE WHAT IT READS IS OF BULK AT MOST 1048576: true; the input reads as it did. -/
def parcelAgainUptoRow : OpenClaim := { program := "ytbbejajnfajpoaa", sum := "9539480b32e70a2ce387b5d4de440570a0d4bd02c1443c83ee7308da766cfdb0", func := "muslin/muslinlaw03.ParcelAgain", spec := "parcelAgain", apart := false, narrowed := true }
def ParcelAgainUptoSaid : Prop := parcelAgainUptoRow.holds Try.pinned (OpenSpec.upto parcelAgainSpec)

/-- 'muslinlaw03.ParcelTurned', WHERE WHAT IT READS IS OF BULK AT MOST 1048576: true; the input reads as it did. -/
def parcelTurnedUptoRow : OpenClaim := { program := "ytbbejajnfajpoaa", sum := "9539480b32e70a2ce387b5d4de440570a0d4bd02c1443c83ee7308da766cfdb0", func := "muslin/muslinlaw03.ParcelTurned", spec := "parcelTurned", apart := false, narrowed := true }
def ParcelTurnedUptoSaid : Prop := parcelTurnedUptoRow.holds Try.pinned (OpenSpec.upto parcelTurnedSpec)

/-- 'muslinlaw03.ParcelApart', WHERE WHAT IT READS IS OF BULK AT MOST 1048576: true; the input reads as it did. -/
def parcelApartUptoRow : OpenClaim := { program := "ytbbejajnfajpoaa", sum := "9539480b32e70a2ce387b5d4de440570a0d4bd02c1443c83ee7308da766cfdb0", func := "muslin/muslinlaw03.ParcelApart", spec := "parcelApart", apart := false, narrowed := true }
def ParcelApartUptoSaid : Prop := parcelApartUptoRow.holds Try.pinned (OpenSpec.upto parcelApartSpec)

/-- 'muslinlaw03.ParcelTakes', WHERE WHAT IT READS IS OF BULK AT MOST 1048576: true; the input reads as it did. -/
def parcelTakesUptoRow : OpenClaim := { program := "ytbbejajnfajpoaa", sum := "9539480b32e70a2ce387b5d4de440570a0d4bd02c1443c83ee7308da766cfdb0", func := "muslin/muslinlaw03.ParcelTakes", spec := "parcelTakes", unfollowed := true, recurses := true, apart := false, narrowed := true }
def ParcelTakesUptoSaid : Prop := parcelTakesUptoRow.holds Try.pinned (OpenSpec.upto parcelTakesSpec)

/-- 'muslinlaw03.ParcelBack', WHERE WHAT IT READS IS OF BULK AT MOST 1048576: true; the input reads as it did. -/
def parcelBackUptoRow : OpenClaim := { program := "ytbbejajnfajpoaa", sum := "9539480b32e70a2ce387b5d4de440570a0d4bd02c1443c83ee7308da766cfdb0", func := "muslin/muslinlaw03.ParcelBack", spec := "parcelBack", unfollowed := true, recurses := true, apart := false, narrowed := true }
def ParcelBackUptoSaid : Prop := parcelBackUptoRow.holds Try.pinned (OpenSpec.upto parcelBackSpec)

/-- 'muslinlaw03.ParcelKnown', WHERE WHAT IT READS IS OF BULK AT MOST 1048576: true; the input reads as it did. -/
def parcelKnownUptoRow : OpenClaim := { program := "ytbbejajnfajpoaa", sum := "9539480b32e70a2ce387b5d4de440570a0d4bd02c1443c83ee7308da766cfdb0", func := "muslin/muslinlaw03.ParcelKnown", spec := "parcelKnown", unfollowed := true, recurses := true, apart := false, narrowed := true }
def ParcelKnownUptoSaid : Prop := parcelKnownUptoRow.holds Try.pinned (OpenSpec.upto parcelKnownSpec)

/-- 'muslinlaw08.ValueReads', WHERE WHAT IT READS IS OF BULK AT MOST 1048576: true; the input reads as it did. -/
def valueReadsUptoRow : OpenClaim := { program := "ytbbejajnfajpoaa", sum := "9539480b32e70a2ce387b5d4de440570a0d4bd02c1443c83ee7308da766cfdb0", func := "muslin/muslinlaw08.ValueReads", spec := "valueReads", unfollowed := true, recurses := true, apart := false, narrowed := true }
def ValueReadsUptoSaid : Prop := valueReadsUptoRow.holds Try.pinned (OpenSpec.upto valueReadsSpec)

/-- 'muslinlaw08.ValueBack', WHERE WHAT IT READS IS OF BULK AT MOST 1048576: true; the input reads as it did. -/
def valueBackUptoRow : OpenClaim := { program := "ytbbejajnfajpoaa", sum := "9539480b32e70a2ce387b5d4de440570a0d4bd02c1443c83ee7308da766cfdb0", func := "muslin/muslinlaw08.ValueBack", spec := "valueBack", unfollowed := true, recurses := true, apart := false, narrowed := true }
def ValueBackUptoSaid : Prop := valueBackUptoRow.holds Try.pinned (OpenSpec.upto valueBackSpec)

/-- 'muslinlaw08.ValueAgain', WHERE WHAT IT READS IS OF BULK AT MOST 1048576: true; the input reads as it did. -/
def valueAgainUptoRow : OpenClaim := { program := "ytbbejajnfajpoaa", sum := "9539480b32e70a2ce387b5d4de440570a0d4bd02c1443c83ee7308da766cfdb0", func := "muslin/muslinlaw08.ValueAgain", spec := "valueAgain", unfollowed := true, recurses := true, apart := false, narrowed := true }
def ValueAgainUptoSaid : Prop := valueAgainUptoRow.holds Try.pinned (OpenSpec.upto valueAgainSpec)

/-- 'muslinlaw08.ValueWrites', WHERE WHAT IT READS IS OF BULK AT MOST 1048576: true; the input reads as it did. -/
def valueWritesUptoRow : OpenClaim := { program := "ytbbejajnfajpoaa", sum := "9539480b32e70a2ce387b5d4de440570a0d4bd02c1443c83ee7308da766cfdb0", func := "muslin/muslinlaw08.ValueWrites", spec := "valueWrites", inPlace := ["internal/bytealg.abigen_runtime_cmpstring"], unfollowed := true, recurses := true, apart := false, narrowed := true }
def ValueWritesUptoSaid : Prop := valueWritesUptoRow.holds Try.pinned (OpenSpec.upto valueWritesSpec)

/-- 'muslinlaw08.ValueOrder', WHERE WHAT IT READS IS OF BULK AT MOST 1048576: true; the input reads as it did. -/
def valueOrderUptoRow : OpenClaim := { program := "ytbbejajnfajpoaa", sum := "9539480b32e70a2ce387b5d4de440570a0d4bd02c1443c83ee7308da766cfdb0", func := "muslin/muslinlaw08.ValueOrder", spec := "valueOrder", inPlace := ["internal/bytealg.abigen_runtime_cmpstring"], unfollowed := true, recurses := true, apart := false, narrowed := true }
def ValueOrderUptoSaid : Prop := valueOrderUptoRow.holds Try.pinned (OpenSpec.upto valueOrderSpec)

/-- 'muslinlaw08.ValueKnown', WHERE WHAT IT READS IS OF BULK AT MOST 1048576: true; the input reads as it did. -/
def valueKnownUptoRow : OpenClaim := { program := "ytbbejajnfajpoaa", sum := "9539480b32e70a2ce387b5d4de440570a0d4bd02c1443c83ee7308da766cfdb0", func := "muslin/muslinlaw08.ValueKnown", spec := "valueKnown", inPlace := ["internal/abi.NoEscape", "internal/bytealg.MakeNoZero"], unfollowed := true, recurses := true, apart := false, narrowed := true }
def ValueKnownUptoSaid : Prop := valueKnownUptoRow.holds Try.pinned (OpenSpec.upto valueKnownSpec)

/-- 'muslinlaw08.ValueSize', WHERE WHAT IT READS IS OF BULK AT MOST 1048576: true; the input reads as it did. -/
def valueSizeUptoRow : OpenClaim := { program := "ytbbejajnfajpoaa", sum := "9539480b32e70a2ce387b5d4de440570a0d4bd02c1443c83ee7308da766cfdb0", func := "muslin/muslinlaw08.ValueSize", spec := "valueSize", inPlace := ["internal/abi.NoEscape", "internal/bytealg.MakeNoZero"], unfollowed := true, recurses := true, apart := false, narrowed := true }
def ValueSizeUptoSaid : Prop := valueSizeUptoRow.holds Try.pinned (OpenSpec.upto valueSizeSpec)

end Rows
end Go.Proofs.Ytbbejajnfajpoaa
