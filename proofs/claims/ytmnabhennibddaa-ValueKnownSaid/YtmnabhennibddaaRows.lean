/-
  No cell of these rows narrows 'for every input' (looked for: loops, veiled, ifaces, maps, wideKeys, modest, calm, conditions, laid).
  DERIVED. THE GIVEN ROWS OF THIS SEAT. 4 by the template 'for every input the law returns true; each argument reads behind the call as it read before'; 0 by the template 'total and deterministic' (their statements: YtmnabhennibddaaTotals.lean).
  GIVEN WITH THE SEED: the statements are not yours to turn. If you find one false, say at which input.
  Laid BY PROGRAM, IN A SANDBOX (cutbox-rows.mjs): the forced cells as the released guide's own fill.sh prints them over the translation 96e9cd57a196853b… (all of the seat's roots in one cut). By AI agents, Wed Nov 11 2026. No macro, syntax, notation, axiom, sorry.
-/
import Derived.Test.YtmnabhennibddaaChecked
import GoSem.Claim
import GoSem.ClaimJoined
import GoSem.ClaimMapViews
import Derived.JoinedTies
import Derived.KernelRfl
namespace Go.Proofs.Ytmnabhennibddaa
/- THE CELL 'sum', in the pinned program and in every row, IS THE sha256 OF THE DUMP (.gsa) THAT YtmnabhennibddaaProg.lean LOADS. Nothing in Lean hashes anything: it is a label: what it is worth is what the hold of that sum in a sandbox is worth. -/
noncomputable def Try.pinned : Pinned := { name := "ytmnabhennibddaa", sum := "96e9cd57a196853b10dae2e8807a5a233addc5f50befa2a3158d0a5393c44d98", checked := Try.checked }
namespace Rows
def none {H : Type} : Left H := { results := [], args := [] }

/-- 'muslinlaw03.ParcelTakes': WHATEVER THE INPUT: true; the input reads as it did. -/
def parcelTakesSpec : ChangeSpec := { name := "parcelTakes", fn := fun _ => fun
  | [d] => { results := [.lit (.bool true)], args := [d] }
  | _ => none }
def parcelTakesRow : OpenClaim := { program := "ytmnabhennibddaa", sum := "96e9cd57a196853b10dae2e8807a5a233addc5f50befa2a3158d0a5393c44d98", func := "muslin/muslinlaw03.ParcelTakes", spec := "parcelTakes", unfollowed := true, recurses := true, apart := false }
def ParcelTakesSaid : Prop := parcelTakesRow.holds Try.pinned (OpenSpec.ofChange parcelTakesSpec)

/-- ITS FALSE NEIGHBOUR: 'it returns false'. Refute it at one input. -/
def parcelTakesWrong : ChangeSpec := { name := "parcelTakes", fn := fun _ => fun
  | [d] => { results := [.lit (.bool false)], args := [d] }
  | _ => none }
def ParcelTakesWrongFalsely : Prop := parcelTakesRow.holds Try.pinned (OpenSpec.ofChange parcelTakesWrong)

/-- 'muslinlaw03.ParcelBack': WHATEVER THE INPUT: true; the input reads as it did. -/
def parcelBackSpec : ChangeSpec := { name := "parcelBack", fn := fun _ => fun
  | [d1, d2, d3] => { results := [.lit (.bool true)], args := [d1, d2, d3] }
  | _ => none }
def parcelBackRow : OpenClaim := { program := "ytmnabhennibddaa", sum := "96e9cd57a196853b10dae2e8807a5a233addc5f50befa2a3158d0a5393c44d98", func := "muslin/muslinlaw03.ParcelBack", spec := "parcelBack", unfollowed := true, recurses := true, apart := false }
def ParcelBackSaid : Prop := parcelBackRow.holds Try.pinned (OpenSpec.ofChange parcelBackSpec)

/-- ITS FALSE NEIGHBOUR: 'it returns false'. Refute it at one input. -/
def parcelBackWrong : ChangeSpec := { name := "parcelBack", fn := fun _ => fun
  | [d1, d2, d3] => { results := [.lit (.bool false)], args := [d1, d2, d3] }
  | _ => none }
def ParcelBackWrongFalsely : Prop := parcelBackRow.holds Try.pinned (OpenSpec.ofChange parcelBackWrong)

/-- 'muslinlaw03.ParcelKnown': WHATEVER THE INPUT: true; the input reads as it did. -/
def parcelKnownSpec : ChangeSpec := { name := "parcelKnown", fn := fun _ => fun
  | [] => { results := [.lit (.bool true)], args := [] }
  | _ => none }
def parcelKnownRow : OpenClaim := { program := "ytmnabhennibddaa", sum := "96e9cd57a196853b10dae2e8807a5a233addc5f50befa2a3158d0a5393c44d98", func := "muslin/muslinlaw03.ParcelKnown", spec := "parcelKnown", unfollowed := true, recurses := true, apart := false }
def ParcelKnownSaid : Prop := parcelKnownRow.holds Try.pinned (OpenSpec.ofChange parcelKnownSpec)

/-- ITS FALSE NEIGHBOUR: 'it returns false'. Refute it at one input. -/
def parcelKnownWrong : ChangeSpec := { name := "parcelKnown", fn := fun _ => fun
  | [] => { results := [.lit (.bool false)], args := [] }
  | _ => none }
def ParcelKnownWrongFalsely : Prop := parcelKnownRow.holds Try.pinned (OpenSpec.ofChange parcelKnownWrong)

/-- 'muslinlaw08.ValueKnown': WHATEVER THE INPUT: true; the input reads as it did. -/
def valueKnownSpec : ChangeSpec := { name := "valueKnown", fn := fun _ => fun
  | [] => { results := [.lit (.bool true)], args := [] }
  | _ => none }
def valueKnownRow : OpenClaim := { program := "ytmnabhennibddaa", sum := "96e9cd57a196853b10dae2e8807a5a233addc5f50befa2a3158d0a5393c44d98", func := "muslin/muslinlaw08.ValueKnown", spec := "valueKnown", inPlace := ["internal/abi.NoEscape", "internal/bytealg.MakeNoZero"], unfollowed := true, recurses := true, apart := false }
def ValueKnownSaid : Prop := valueKnownRow.holds Try.pinned (OpenSpec.ofChange valueKnownSpec)

/-- ITS FALSE NEIGHBOUR: 'it returns false'. Refute it at one input. -/
def valueKnownWrong : ChangeSpec := { name := "valueKnown", fn := fun _ => fun
  | [] => { results := [.lit (.bool false)], args := [] }
  | _ => none }
def ValueKnownWrongFalsely : Prop := valueKnownRow.holds Try.pinned (OpenSpec.ofChange valueKnownWrong)

/- THE SECOND FORM. 'bulk': how many values and letters a reading holds, each counted each time it is reached (what is shared counts as often as it is met; a slice's spare places count too). A statement '..UptoSaid' is the law's where the arguments, and the package variables that the reading takes, are together of bulk at most 1048576: NARROWER than '..Said'. Prove '..Said' where nothing that the law and all that it calls make is longer than what came in: it says more and counts as full. Else prove '..UptoSaid'. A law counts once. -/
mutual
def uptoBulk {H : Type} : DataW H → Nat
  | .lit (.string bytes) => bytes.length + 1
  | .lit _ => 1
  | .nil => 1
  | .ptr d => uptoBulk d + 1
  | .slice elems spare => uptoBulkAll elems + uptoBulkAll spare + 1
  | .agg parts => uptoBulkAll parts + 1
  | .iface _ d => uptoBulk d + 1
  | .map entries => uptoBulkEntries entries + 1
  | .held _ => 1
def uptoBulkAll {H : Type} : List (DataW H) → Nat
  | [] => 0
  | d :: r => uptoBulk d + uptoBulkAll r
def uptoBulkEntries {H : Type} : List (Lit × DataW H) → Nat
  | [] => 0
  | x :: r => uptoBulkEntry x + uptoBulkEntries r
def uptoBulkEntry {H : Type} : Lit × DataW H → Nat
  | (.string bytes, d) => bytes.length + uptoBulk d + 1
  | (_, d) => uptoBulk d + 1
 end
def uptoSmall : (H : Type) → List (DataW H) → Bool := fun _ ds => decide (uptoBulkAll ds ≤ 1048576)
def OpenSpec.upto (s : _root_.Go.ChangeSpec) : _root_.Go.OpenSpec := { _root_.Go.OpenSpec.ofChange s with cond := some uptoSmall }

/-- 'muslinlaw03.ParcelTakes', WHERE WHAT IT READS IS OF BULK AT MOST 1048576: true; the input reads as it did. -/
def parcelTakesUptoRow : OpenClaim := { program := "ytmnabhennibddaa", sum := "96e9cd57a196853b10dae2e8807a5a233addc5f50befa2a3158d0a5393c44d98", func := "muslin/muslinlaw03.ParcelTakes", spec := "parcelTakes", unfollowed := true, recurses := true, apart := false, narrowed := true }
def ParcelTakesUptoSaid : Prop := parcelTakesUptoRow.holds Try.pinned (OpenSpec.upto parcelTakesSpec)

/-- 'muslinlaw03.ParcelBack', WHERE WHAT IT READS IS OF BULK AT MOST 1048576: true; the input reads as it did. -/
def parcelBackUptoRow : OpenClaim := { program := "ytmnabhennibddaa", sum := "96e9cd57a196853b10dae2e8807a5a233addc5f50befa2a3158d0a5393c44d98", func := "muslin/muslinlaw03.ParcelBack", spec := "parcelBack", unfollowed := true, recurses := true, apart := false, narrowed := true }
def ParcelBackUptoSaid : Prop := parcelBackUptoRow.holds Try.pinned (OpenSpec.upto parcelBackSpec)

/-- 'muslinlaw03.ParcelKnown', WHERE WHAT IT READS IS OF BULK AT MOST 1048576: true; the input reads as it did. -/
def parcelKnownUptoRow : OpenClaim := { program := "ytmnabhennibddaa", sum := "96e9cd57a196853b10dae2e8807a5a233addc5f50befa2a3158d0a5393c44d98", func := "muslin/muslinlaw03.ParcelKnown", spec := "parcelKnown", unfollowed := true, recurses := true, apart := false, narrowed := true }
def ParcelKnownUptoSaid : Prop := parcelKnownUptoRow.holds Try.pinned (OpenSpec.upto parcelKnownSpec)

/-- 'muslinlaw08.ValueKnown', WHERE WHAT IT READS IS OF BULK AT MOST 1048576: true; the input reads as it did. -/
def valueKnownUptoRow : OpenClaim := { program := "ytmnabhennibddaa", sum := "96e9cd57a196853b10dae2e8807a5a233addc5f50befa2a3158d0a5393c44d98", func := "muslin/muslinlaw08.ValueKnown", spec := "valueKnown", inPlace := ["internal/abi.NoEscape", "internal/bytealg.MakeNoZero"], unfollowed := true, recurses := true, apart := false, narrowed := true }
def ValueKnownUptoSaid : Prop := valueKnownUptoRow.holds Try.pinned (OpenSpec.upto valueKnownSpec)

end Rows
end Go.Proofs.Ytmnabhennibddaa
