/-
  No cell of these rows narrows 'for every input' (looked for: loops, veiled, ifaces, maps, wideKeys, modest, calm, conditions, laid).
  DERIVED. THE GIVEN ROWS OF THIS SEAT. 13 by the template 'for every input the law returns true; each argument reads behind the call as it read before'; 0 by the template 'total and deterministic' (their statements: YtpkpgmpnaomioaaTotals.lean).
  GIVEN WITH THE SEED: the statements are not yours to turn. If you find one false, say at which input.
  Laid BY PROGRAM, IN A SANDBOX (cutbox-rows.mjs): the forced cells as the released guide's own fill.sh prints them over the translation 8787e31643131151… (all of the seat's roots in one cut). By AI agents, Wed Nov 11 2026. No macro, syntax, notation, axiom, sorry.
-/
import Derived.Test.YtpkpgmpnaomioaaChecked
import GoSem.Claim
import GoSem.ClaimJoined
import GoSem.ClaimMapViews
import Derived.JoinedTies
import Derived.KernelRfl
namespace Go.Proofs.Ytpkpgmpnaomioaa
/- THE CELL 'sum', in the pinned program and in every row, IS THE sha256 OF THE DUMP (.gsa) THAT YtpkpgmpnaomioaaProg.lean LOADS. Nothing in Lean hashes anything: it is a label: what it is worth is what the hold of that sum in a sandbox is worth. -/
noncomputable def Try.pinned : Pinned := { name := "ytpkpgmpnaomioaa", sum := "8787e31643131151aa3e7aaaaf0286d189cb9ab3ac55a76719d0a3a9a6a7996f", checked := Try.checked }
namespace Rows
def none {H : Type} : Left H := { results := [], args := [] }

/-- 'muslinlaw02.TallySums': WHATEVER THE INPUT: true; the input reads as it did. -/
def tallySumsSpec : ChangeSpec := { name := "tallySums", fn := fun _ => fun
  | [d1, d2] => { results := [.lit (.bool true)], args := [d1, d2] }
  | _ => none }
def tallySumsRow : OpenClaim := { program := "ytpkpgmpnaomioaa", sum := "8787e31643131151aa3e7aaaaf0286d189cb9ab3ac55a76719d0a3a9a6a7996f", func := "muslin/muslinlaw02.TallySums", spec := "tallySums", apart := false }
def TallySumsSaid : Prop := tallySumsRow.holds Try.pinned (OpenSpec.ofChange tallySumsSpec)

/-- ITS FALSE NEIGHBOUR: 'it returns false'. Refute it at one input. -/
def tallySumsWrong : ChangeSpec := { name := "tallySums", fn := fun _ => fun
  | [d1, d2] => { results := [.lit (.bool false)], args := [d1, d2] }
  | _ => none }
def TallySumsWrongFalsely : Prop := tallySumsRow.holds Try.pinned (OpenSpec.ofChange tallySumsWrong)

/-- 'muslinlaw02.TallyPieces': WHATEVER THE INPUT: true; the input reads as it did. -/
def tallyPiecesSpec : ChangeSpec := { name := "tallyPieces", fn := fun _ => fun
  | [d1, d2, d3] => { results := [.lit (.bool true)], args := [d1, d2, d3] }
  | _ => none }
def tallyPiecesRow : OpenClaim := { program := "ytpkpgmpnaomioaa", sum := "8787e31643131151aa3e7aaaaf0286d189cb9ab3ac55a76719d0a3a9a6a7996f", func := "muslin/muslinlaw02.TallyPieces", spec := "tallyPieces", apart := false }
def TallyPiecesSaid : Prop := tallyPiecesRow.holds Try.pinned (OpenSpec.ofChange tallyPiecesSpec)

/-- ITS FALSE NEIGHBOUR: 'it returns false'. Refute it at one input. -/
def tallyPiecesWrong : ChangeSpec := { name := "tallyPieces", fn := fun _ => fun
  | [d1, d2, d3] => { results := [.lit (.bool false)], args := [d1, d2, d3] }
  | _ => none }
def TallyPiecesWrongFalsely : Prop := tallyPiecesRow.holds Try.pinned (OpenSpec.ofChange tallyPiecesWrong)

/-- 'muslinlaw02.TallyTurned': WHATEVER THE INPUT: true; the input reads as it did. -/
def tallyTurnedSpec : ChangeSpec := { name := "tallyTurned", fn := fun _ => fun
  | [d1, d2, d3] => { results := [.lit (.bool true)], args := [d1, d2, d3] }
  | _ => none }
def tallyTurnedRow : OpenClaim := { program := "ytpkpgmpnaomioaa", sum := "8787e31643131151aa3e7aaaaf0286d189cb9ab3ac55a76719d0a3a9a6a7996f", func := "muslin/muslinlaw02.TallyTurned", spec := "tallyTurned", apart := false }
def TallyTurnedSaid : Prop := tallyTurnedRow.holds Try.pinned (OpenSpec.ofChange tallyTurnedSpec)

/-- ITS FALSE NEIGHBOUR: 'it returns false'. Refute it at one input. -/
def tallyTurnedWrong : ChangeSpec := { name := "tallyTurned", fn := fun _ => fun
  | [d1, d2, d3] => { results := [.lit (.bool false)], args := [d1, d2, d3] }
  | _ => none }
def TallyTurnedWrongFalsely : Prop := tallyTurnedRow.holds Try.pinned (OpenSpec.ofChange tallyTurnedWrong)

/-- 'muslinlaw02.TallyFour': WHATEVER THE INPUT: true; the input reads as it did. -/
def tallyFourSpec : ChangeSpec := { name := "tallyFour", fn := fun _ => fun
  | [d1, d2, d3] => { results := [.lit (.bool true)], args := [d1, d2, d3] }
  | _ => none }
def tallyFourRow : OpenClaim := { program := "ytpkpgmpnaomioaa", sum := "8787e31643131151aa3e7aaaaf0286d189cb9ab3ac55a76719d0a3a9a6a7996f", func := "muslin/muslinlaw02.TallyFour", spec := "tallyFour", apart := false }
def TallyFourSaid : Prop := tallyFourRow.holds Try.pinned (OpenSpec.ofChange tallyFourSpec)

/-- ITS FALSE NEIGHBOUR: 'it returns false'. Refute it at one input. -/
def tallyFourWrong : ChangeSpec := { name := "tallyFour", fn := fun _ => fun
  | [d1, d2, d3] => { results := [.lit (.bool false)], args := [d1, d2, d3] }
  | _ => none }
def TallyFourWrongFalsely : Prop := tallyFourRow.holds Try.pinned (OpenSpec.ofChange tallyFourWrong)

/-- 'muslinlaw02.TallyAdd': WHATEVER THE INPUT: true; the input reads as it did. -/
def tallyAddSpec : ChangeSpec := { name := "tallyAdd", fn := fun _ => fun
  | [d1, d2, d3] => { results := [.lit (.bool true)], args := [d1, d2, d3] }
  | _ => none }
def tallyAddRow : OpenClaim := { program := "ytpkpgmpnaomioaa", sum := "8787e31643131151aa3e7aaaaf0286d189cb9ab3ac55a76719d0a3a9a6a7996f", func := "muslin/muslinlaw02.TallyAdd", spec := "tallyAdd", apart := false }
def TallyAddSaid : Prop := tallyAddRow.holds Try.pinned (OpenSpec.ofChange tallyAddSpec)

/-- ITS FALSE NEIGHBOUR: 'it returns false'. Refute it at one input. -/
def tallyAddWrong : ChangeSpec := { name := "tallyAdd", fn := fun _ => fun
  | [d1, d2, d3] => { results := [.lit (.bool false)], args := [d1, d2, d3] }
  | _ => none }
def TallyAddWrongFalsely : Prop := tallyAddRow.holds Try.pinned (OpenSpec.ofChange tallyAddWrong)

/-- 'muslinlaw02.TallyKnown': WHATEVER THE INPUT: true; the input reads as it did. -/
def tallyKnownSpec : ChangeSpec := { name := "tallyKnown", fn := fun _ => fun
  | [] => { results := [.lit (.bool true)], args := [] }
  | _ => none }
def tallyKnownRow : OpenClaim := { program := "ytpkpgmpnaomioaa", sum := "8787e31643131151aa3e7aaaaf0286d189cb9ab3ac55a76719d0a3a9a6a7996f", func := "muslin/muslinlaw02.TallyKnown", spec := "tallyKnown", apart := false }
def TallyKnownSaid : Prop := tallyKnownRow.holds Try.pinned (OpenSpec.ofChange tallyKnownSpec)

/-- ITS FALSE NEIGHBOUR: 'it returns false'. Refute it at one input. -/
def tallyKnownWrong : ChangeSpec := { name := "tallyKnown", fn := fun _ => fun
  | [] => { results := [.lit (.bool false)], args := [] }
  | _ => none }
def TallyKnownWrongFalsely : Prop := tallyKnownRow.holds Try.pinned (OpenSpec.ofChange tallyKnownWrong)

/-- 'muslinlaw01.DigitsWrite': WHATEVER THE INPUT: true; the input reads as it did. -/
def digitsWriteSpec : ChangeSpec := { name := "digitsWrite", fn := fun _ => fun
  | [d1, d2] => { results := [.lit (.bool true)], args := [d1, d2] }
  | _ => none }
def digitsWriteRow : OpenClaim := { program := "ytpkpgmpnaomioaa", sum := "8787e31643131151aa3e7aaaaf0286d189cb9ab3ac55a76719d0a3a9a6a7996f", func := "muslin/muslinlaw01.DigitsWrite", spec := "digitsWrite", unfollowed := true, recurses := true, apart := false }
def DigitsWriteSaid : Prop := digitsWriteRow.holds Try.pinned (OpenSpec.ofChange digitsWriteSpec)

/-- ITS FALSE NEIGHBOUR: 'it returns false'. Refute it at one input. -/
def digitsWriteWrong : ChangeSpec := { name := "digitsWrite", fn := fun _ => fun
  | [d1, d2] => { results := [.lit (.bool false)], args := [d1, d2] }
  | _ => none }
def DigitsWriteWrongFalsely : Prop := digitsWriteRow.holds Try.pinned (OpenSpec.ofChange digitsWriteWrong)

/-- 'muslinlaw01.DigitsShort': WHATEVER THE INPUT: true; the input reads as it did. -/
def digitsShortSpec : ChangeSpec := { name := "digitsShort", fn := fun _ => fun
  | [d] => { results := [.lit (.bool true)], args := [d] }
  | _ => none }
def digitsShortRow : OpenClaim := { program := "ytpkpgmpnaomioaa", sum := "8787e31643131151aa3e7aaaaf0286d189cb9ab3ac55a76719d0a3a9a6a7996f", func := "muslin/muslinlaw01.DigitsShort", spec := "digitsShort", unfollowed := true, recurses := true, apart := false }
def DigitsShortSaid : Prop := digitsShortRow.holds Try.pinned (OpenSpec.ofChange digitsShortSpec)

/-- ITS FALSE NEIGHBOUR: 'it returns false'. Refute it at one input. -/
def digitsShortWrong : ChangeSpec := { name := "digitsShort", fn := fun _ => fun
  | [d] => { results := [.lit (.bool false)], args := [d] }
  | _ => none }
def DigitsShortWrongFalsely : Prop := digitsShortRow.holds Try.pinned (OpenSpec.ofChange digitsShortWrong)

/-- 'muslinlaw01.DigitsRead': WHATEVER THE INPUT: true; the input reads as it did. -/
def digitsReadSpec : ChangeSpec := { name := "digitsRead", fn := fun _ => fun
  | [d1, d2] => { results := [.lit (.bool true)], args := [d1, d2] }
  | _ => none }
def digitsReadRow : OpenClaim := { program := "ytpkpgmpnaomioaa", sum := "8787e31643131151aa3e7aaaaf0286d189cb9ab3ac55a76719d0a3a9a6a7996f", func := "muslin/muslinlaw01.DigitsRead", spec := "digitsRead", unfollowed := true, recurses := true, apart := false }
def DigitsReadSaid : Prop := digitsReadRow.holds Try.pinned (OpenSpec.ofChange digitsReadSpec)

/-- ITS FALSE NEIGHBOUR: 'it returns false'. Refute it at one input. -/
def digitsReadWrong : ChangeSpec := { name := "digitsRead", fn := fun _ => fun
  | [d1, d2] => { results := [.lit (.bool false)], args := [d1, d2] }
  | _ => none }
def DigitsReadWrongFalsely : Prop := digitsReadRow.holds Try.pinned (OpenSpec.ofChange digitsReadWrong)

/-- 'muslinlaw01.DigitsAgain': WHATEVER THE INPUT: true; the input reads as it did. -/
def digitsAgainSpec : ChangeSpec := { name := "digitsAgain", fn := fun _ => fun
  | [d] => { results := [.lit (.bool true)], args := [d] }
  | _ => none }
def digitsAgainRow : OpenClaim := { program := "ytpkpgmpnaomioaa", sum := "8787e31643131151aa3e7aaaaf0286d189cb9ab3ac55a76719d0a3a9a6a7996f", func := "muslin/muslinlaw01.DigitsAgain", spec := "digitsAgain", unfollowed := true, recurses := true, apart := false }
def DigitsAgainSaid : Prop := digitsAgainRow.holds Try.pinned (OpenSpec.ofChange digitsAgainSpec)

/-- ITS FALSE NEIGHBOUR: 'it returns false'. Refute it at one input. -/
def digitsAgainWrong : ChangeSpec := { name := "digitsAgain", fn := fun _ => fun
  | [d] => { results := [.lit (.bool false)], args := [d] }
  | _ => none }
def DigitsAgainWrongFalsely : Prop := digitsAgainRow.holds Try.pinned (OpenSpec.ofChange digitsAgainWrong)

/-- 'muslinlaw01.DigitsCut': WHATEVER THE INPUT: true; the input reads as it did. -/
def digitsCutSpec : ChangeSpec := { name := "digitsCut", fn := fun _ => fun
  | [d1, d2, d3] => { results := [.lit (.bool true)], args := [d1, d2, d3] }
  | _ => none }
def digitsCutRow : OpenClaim := { program := "ytpkpgmpnaomioaa", sum := "8787e31643131151aa3e7aaaaf0286d189cb9ab3ac55a76719d0a3a9a6a7996f", func := "muslin/muslinlaw01.DigitsCut", spec := "digitsCut", unfollowed := true, recurses := true, apart := false }
def DigitsCutSaid : Prop := digitsCutRow.holds Try.pinned (OpenSpec.ofChange digitsCutSpec)

/-- ITS FALSE NEIGHBOUR: 'it returns false'. Refute it at one input. -/
def digitsCutWrong : ChangeSpec := { name := "digitsCut", fn := fun _ => fun
  | [d1, d2, d3] => { results := [.lit (.bool false)], args := [d1, d2, d3] }
  | _ => none }
def DigitsCutWrongFalsely : Prop := digitsCutRow.holds Try.pinned (OpenSpec.ofChange digitsCutWrong)

/-- 'muslinlaw01.DigitsOrder': WHATEVER THE INPUT: true; the input reads as it did. -/
def digitsOrderSpec : ChangeSpec := { name := "digitsOrder", fn := fun _ => fun
  | [d1, d2] => { results := [.lit (.bool true)], args := [d1, d2] }
  | _ => none }
def digitsOrderRow : OpenClaim := { program := "ytpkpgmpnaomioaa", sum := "8787e31643131151aa3e7aaaaf0286d189cb9ab3ac55a76719d0a3a9a6a7996f", func := "muslin/muslinlaw01.DigitsOrder", spec := "digitsOrder", inPlace := ["internal/bytealg.Compare"], unfollowed := true, recurses := true, apart := false }
def DigitsOrderSaid : Prop := digitsOrderRow.holds Try.pinned (OpenSpec.ofChange digitsOrderSpec)

/-- ITS FALSE NEIGHBOUR: 'it returns false'. Refute it at one input. -/
def digitsOrderWrong : ChangeSpec := { name := "digitsOrder", fn := fun _ => fun
  | [d1, d2] => { results := [.lit (.bool false)], args := [d1, d2] }
  | _ => none }
def DigitsOrderWrongFalsely : Prop := digitsOrderRow.holds Try.pinned (OpenSpec.ofChange digitsOrderWrong)

/-- 'muslinlaw01.DigitsBack': WHATEVER THE INPUT: true; the input reads as it did. -/
def digitsBackSpec : ChangeSpec := { name := "digitsBack", fn := fun _ => fun
  | [d1, d2, d3] => { results := [.lit (.bool true)], args := [d1, d2, d3] }
  | _ => none }
def digitsBackRow : OpenClaim := { program := "ytpkpgmpnaomioaa", sum := "8787e31643131151aa3e7aaaaf0286d189cb9ab3ac55a76719d0a3a9a6a7996f", func := "muslin/muslinlaw01.DigitsBack", spec := "digitsBack", inPlace := ["internal/bytealg.MakeNoZero"], unfollowed := true, recurses := true, apart := false }
def DigitsBackSaid : Prop := digitsBackRow.holds Try.pinned (OpenSpec.ofChange digitsBackSpec)

/-- ITS FALSE NEIGHBOUR: 'it returns false'. Refute it at one input. -/
def digitsBackWrong : ChangeSpec := { name := "digitsBack", fn := fun _ => fun
  | [d1, d2, d3] => { results := [.lit (.bool false)], args := [d1, d2, d3] }
  | _ => none }
def DigitsBackWrongFalsely : Prop := digitsBackRow.holds Try.pinned (OpenSpec.ofChange digitsBackWrong)

/- THE SECOND FORM. 'bulk': how many values and letters a reading holds, each counted each time it is reached (what is shared counts as often as it is met; a slice's spare places count too). A statement '..UptoSaid' is the law's where the arguments, and the package variables that the reading takes, are together of bulk at most 1048576: NARROWER than '..Said'. Prove '..Said' where nothing that the law and all that it calls make is longer than what came in: it says more and counts as full. Else prove '..UptoSaid'. A law counts once. -/
mutual
def uptoBulk {H : Type} : DataW H → Nat
  | .lit (.string bytes) => bytes.length + 1
  | .lit _ => 1
  | .nil => 1
  | .ptr d => uptoBulk d + 1
  | .slice elems spare => uptoBulkAll elems + uptoBulkAll spare + 1
  | .agg parts => uptoBulkAll parts + 1
  | .iface _ d => uptoBulk d + 1
  | .map entries => uptoBulkEntries entries + 1
  | .held _ => 1
def uptoBulkAll {H : Type} : List (DataW H) → Nat
  | [] => 0
  | d :: r => uptoBulk d + uptoBulkAll r
def uptoBulkEntries {H : Type} : List (Lit × DataW H) → Nat
  | [] => 0
  | x :: r => uptoBulkEntry x + uptoBulkEntries r
def uptoBulkEntry {H : Type} : Lit × DataW H → Nat
  | (.string bytes, d) => bytes.length + uptoBulk d + 1
  | (_, d) => uptoBulk d + 1
 end
def uptoSmall : (H : Type) → List (DataW H) → Bool := fun _ ds => decide (uptoBulkAll ds ≤ 1048576)
def OpenSpec.upto (s : _root_.Go.ChangeSpec) : _root_.Go.OpenSpec := { _root_.Go.OpenSpec.ofChange s with cond := some uptoSmall }

/-- 'muslinlaw02.TallySums', WHERE WHAT IT READS IS OF BULK AT MOST 1048576: true; the input reads as it did. -/
def tallySumsUptoRow : OpenClaim := { program := "ytpkpgmpnaomioaa", sum := "8787e31643131151aa3e7aaaaf0286d189cb9ab3ac55a76719d0a3a9a6a7996f", func := "muslin/muslinlaw02.TallySums", spec := "tallySums", apart := false, narrowed := true }
def TallySumsUptoSaid : Prop := tallySumsUptoRow.holds Try.pinned (OpenSpec.upto tallySumsSpec)

/-- 'muslinlaw02.TallyPieces', WHERE WHAT IT READS IS OF BULK AT MOST 1048576: true; the input reads as it did. -/
def tallyPiecesUptoRow : OpenClaim := { program := "ytpkpgmpnaomioaa", sum := "8787e31643131151aa3e7aaaaf0286d189cb9ab3ac55a76719d0a3a9a6a7996f", func := "muslin/muslinlaw02.TallyPieces", spec := "tallyPieces", apart := false, narrowed := true }
def TallyPiecesUptoSaid : Prop := tallyPiecesUptoRow.holds Try.pinned (OpenSpec.upto tallyPiecesSpec)

/-- 'muslinlaw02.TallyTurned', WHERE WHAT IT READS IS OF BULK AT MOST 1048576: true; the input reads as it did. -/
def tallyTurnedUptoRow : OpenClaim := { program := "ytpkpgmpnaomioaa", sum := "8787e31643131151aa3e7aaaaf0286d189cb9ab3ac55a76719d0a3a9a6a7996f", func := "muslin/muslinlaw02.TallyTurned", spec := "tallyTurned", apart := false, narrowed := true }
def TallyTurnedUptoSaid : Prop := tallyTurnedUptoRow.holds Try.pinned (OpenSpec.upto tallyTurnedSpec)

/-- 'muslinlaw02.TallyFour', WHERE WHAT IT READS IS OF BULK AT MOST 1048576: true; the input reads as it did. -/
def tallyFourUptoRow : OpenClaim := { program := "ytpkpgmpnaomioaa", sum := "8787e31643131151aa3e7aaaaf0286d189cb9ab3ac55a76719d0a3a9a6a7996f", func := "muslin/muslinlaw02.TallyFour", spec := "tallyFour", apart := false, narrowed := true }
def TallyFourUptoSaid : Prop := tallyFourUptoRow.holds Try.pinned (OpenSpec.upto tallyFourSpec)

/-- 'muslinlaw02.TallyAdd', WHERE WHAT IT READS IS OF BULK AT MOST 1048576: true; the input reads as it did. -/
def tallyAddUptoRow : OpenClaim := { program := "ytpkpgmpnaomioaa", sum := "8787e31643131151aa3e7aaaaf0286d189cb9ab3ac55a76719d0a3a9a6a7996f", func := "muslin/muslinlaw02.TallyAdd", spec := "tallyAdd", apart := false, narrowed := true }
def TallyAddUptoSaid : Prop := tallyAddUptoRow.holds Try.pinned (OpenSpec.upto tallyAddSpec)

/-- 'muslinlaw02.TallyKnown', WHERE WHAT IT READS IS OF BULK AT MOST 1048576: true; the input reads as it did. -/
def tallyKnownUptoRow : OpenClaim := { program := "ytpkpgmpnaomioaa", sum := "8787e31643131151aa3e7aaaaf0286d189cb9ab3ac55a76719d0a3a9a6a7996f", func := "muslin/muslinlaw02.TallyKnown", spec := "tallyKnown", apart := false, narrowed := true }
def TallyKnownUptoSaid : Prop := tallyKnownUptoRow.holds Try.pinned (OpenSpec.upto tallyKnownSpec)

/-- 'muslinlaw01.DigitsWrite', WHERE WHAT IT READS IS OF BULK AT MOST 1048576: true; the input reads as it did. -/
def digitsWriteUptoRow : OpenClaim := { program := "ytpkpgmpnaomioaa", sum := "8787e31643131151aa3e7aaaaf0286d189cb9ab3ac55a76719d0a3a9a6a7996f", func := "muslin/muslinlaw01.DigitsWrite", spec := "digitsWrite", unfollowed := true, recurses := true, apart := false, narrowed := true }
def DigitsWriteUptoSaid : Prop := digitsWriteUptoRow.holds Try.pinned (OpenSpec.upto digitsWriteSpec)

/-- 'muslinlaw01.DigitsShort', WHERE WHAT IT READS IS OF BULK AT MOST 1048576: true; the input reads as it did. -/
def digitsShortUptoRow : OpenClaim := { program := "ytpkpgmpnaomioaa", sum := "8787e31643131151aa3e7aaaaf0286d189cb9ab3ac55a76719d0a3a9a6a7996f", func := "muslin/muslinlaw01.DigitsShort", spec := "digitsShort", unfollowed := true, recurses := true, apart := false, narrowed := true }
def DigitsShortUptoSaid : Prop := digitsShortUptoRow.holds Try.pinned (OpenSpec.upto digitsShortSpec)

/-- 'muslinlaw01.DigitsRead', WHERE WHAT IT READS IS OF BULK AT MOST 1048576: true; the input reads as it did. -/
def digitsReadUptoRow : OpenClaim := { program := "ytpkpgmpnaomioaa", sum := "8787e31643131151aa3e7aaaaf0286d189cb9ab3ac55a76719d0a3a9a6a7996f", func := "muslin/muslinlaw01.DigitsRead", spec := "digitsRead", unfollowed := true, recurses := true, apart := false, narrowed := true }
def DigitsReadUptoSaid : Prop := digitsReadUptoRow.holds Try.pinned (OpenSpec.upto digitsReadSpec)

/-- 'muslinlaw01.DigitsAgain', WHERE WHAT IT READS IS OF BULK AT MOST 1048576: true; the input reads as it did. -/
def digitsAgainUptoRow : OpenClaim := { program := "ytpkpgmpnaomioaa", sum := "8787e31643131151aa3e7aaaaf0286d189cb9ab3ac55a76719d0a3a9a6a7996f", func := "muslin/muslinlaw01.DigitsAgain", spec := "digitsAgain", unfollowed := true, recurses := true, apart := false, narrowed := true }
def DigitsAgainUptoSaid : Prop := digitsAgainUptoRow.holds Try.pinned (OpenSpec.upto digitsAgainSpec)

/-- 'muslinlaw01.DigitsCut', WHERE WHAT IT READS IS OF BULK AT MOST 1048576: true; the input reads as it did. -/
def digitsCutUptoRow : OpenClaim := { program := "ytpkpgmpnaomioaa", sum := "8787e31643131151aa3e7aaaaf0286d189cb9ab3ac55a76719d0a3a9a6a7996f", func := "muslin/muslinlaw01.DigitsCut", spec := "digitsCut", unfollowed := true, recurses := true, apart := false, narrowed := true }
def DigitsCutUptoSaid : Prop := digitsCutUptoRow.holds Try.pinned (OpenSpec.upto digitsCutSpec)

/-- 'muslinlaw01.DigitsOrder', WHERE WHAT IT READS IS OF BULK AT MOST 1048576: true; the input reads as it did. -/
def digitsOrderUptoRow : OpenClaim := { program := "ytpkpgmpnaomioaa", sum := "8787e31643131151aa3e7aaaaf0286d189cb9ab3ac55a76719d0a3a9a6a7996f", func := "muslin/muslinlaw01.DigitsOrder", spec := "digitsOrder", inPlace := ["internal/bytealg.Compare"], unfollowed := true, recurses := true, apart := false, narrowed := true }
def DigitsOrderUptoSaid : Prop := digitsOrderUptoRow.holds Try.pinned (OpenSpec.upto digitsOrderSpec)

/-- 'muslinlaw01.DigitsBack', WHERE WHAT IT READS IS OF BULK AT MOST 1048576: true; the input reads as it did. -/
def digitsBackUptoRow : OpenClaim := { program := "ytpkpgmpnaomioaa", sum := "8787e31643131151aa3e7aaaaf0286d189cb9ab3ac55a76719d0a3a9a6a7996f", func := "muslin/muslinlaw01.DigitsBack", spec := "digitsBack", inPlace := ["internal/bytealg.MakeNoZero"], unfollowed := true, recurses := true, apart := false, narrowed := true }
def DigitsBackUptoSaid : Prop := digitsBackUptoRow.holds Try.pinned (OpenSpec.upto digitsBackSpec)

end Rows
end Go.Proofs.Ytpkpgmpnaomioaa
