/-
  No cell of these rows narrows 'for every input' (looked for: loops, veiled, ifaces, maps, wideKeys, modest, calm, conditions, laid).
  DERIVED. THE GIVEN ROWS OF THIS SEAT. 4 by the template 'for every input the law returns true; each argument reads behind the call as it read before'; 0 by the template 'total and deterministic' (their statements: YtfedgjahbmcpoaaTotals.lean).
  GIVEN WITH THE SEED: the statements are not yours to turn. If you find one false, say at which input.
  Laid BY PROGRAM, IN A SANDBOX (cutbox-rows.mjs): the forced cells as the released guide's own fill.sh prints them over the translation f4c70ee58e8bc4f8… (all of the seat's roots in one cut). By AI agents, Wed Nov 11 2026. No macro, syntax, notation, axiom, sorry.
-/
import Derived.Test.YtfedgjahbmcpoaaChecked
import GoSem.Claim
import GoSem.ClaimJoined
import GoSem.ClaimMapViews
import Derived.JoinedTies
import Derived.KernelRfl
namespace Go.Proofs.Ytfedgjahbmcpoaa
/- THE CELL 'sum', in the pinned program and in every row, IS THE sha256 OF THE DUMP (.gsa) THAT YtfedgjahbmcpoaaProg.lean LOADS. Nothing in Lean hashes anything: it is a label: what it is worth is what the hold of that sum in a sandbox is worth. -/
noncomputable def Try.pinned : Pinned := { name := "ytfedgjahbmcpoaa", sum := "f4c70ee58e8bc4f802d66ab56a2f394b50a09cd83b496f2e5deb38cf7bc452fd", checked := Try.checked }
namespace Rows
def none {H : Type} : Left H := { results := [], args := [] }

/-- 'muslinlaw27.ReplyAgain': WHATEVER THE INPUT: true; the input reads as it did. -/
def replyAgainSpec : ChangeSpec := { name := "replyAgain", fn := fun _ => fun
  | [d1, d2] => { results := [.lit (.bool true)], args := [d1, d2] }
  | _ => none }
def replyAgainRow : OpenClaim := { program := "ytfedgjahbmcpoaa", sum := "f4c70ee58e8bc4f802d66ab56a2f394b50a09cd83b496f2e5deb38cf7bc452fd", func := "muslin/muslinlaw27.ReplyAgain", spec := "replyAgain", unfollowed := true, recurses := true, apart := false }
def ReplyAgainSaid : Prop := replyAgainRow.holds Try.pinned (OpenSpec.ofChange replyAgainSpec)

/-- ITS FALSE NEIGHBOUR: 'it returns false'. Refute it at one input. -/
def replyAgainWrong : ChangeSpec := { name := "replyAgain", fn := fun _ => fun
  | [d1, d2] => { results := [.lit (.bool false)], args := [d1, d2] }
  | _ => none }
def ReplyAgainWrongFalsely : Prop := replyAgainRow.holds Try.pinned (OpenSpec.ofChange replyAgainWrong)

/-- 'muslinlaw27.ReplyBack': WHATEVER THE INPUT: true; the input reads as it did. -/
def replyBackSpec : ChangeSpec := { name := "replyBack", fn := fun _ => fun
  | [d] => { results := [.lit (.bool true)], args := [d] }
  | _ => none }
def replyBackRow : OpenClaim := { program := "ytfedgjahbmcpoaa", sum := "f4c70ee58e8bc4f802d66ab56a2f394b50a09cd83b496f2e5deb38cf7bc452fd", func := "muslin/muslinlaw27.ReplyBack", spec := "replyBack", unfollowed := true, recurses := true, apart := false }
def ReplyBackSaid : Prop := replyBackRow.holds Try.pinned (OpenSpec.ofChange replyBackSpec)

/-- ITS FALSE NEIGHBOUR: 'it returns false'. Refute it at one input. -/
def replyBackWrong : ChangeSpec := { name := "replyBack", fn := fun _ => fun
  | [d] => { results := [.lit (.bool false)], args := [d] }
  | _ => none }
def ReplyBackWrongFalsely : Prop := replyBackRow.holds Try.pinned (OpenSpec.ofChange replyBackWrong)

/-- 'muslinlaw27.ReplyApart': WHATEVER THE INPUT: true; the input reads as it did. -/
def replyApartSpec : ChangeSpec := { name := "replyApart", fn := fun _ => fun
  | [d1, d2] => { results := [.lit (.bool true)], args := [d1, d2] }
  | _ => none }
def replyApartRow : OpenClaim := { program := "ytfedgjahbmcpoaa", sum := "f4c70ee58e8bc4f802d66ab56a2f394b50a09cd83b496f2e5deb38cf7bc452fd", func := "muslin/muslinlaw27.ReplyApart", spec := "replyApart", unfollowed := true, recurses := true, apart := false }
def ReplyApartSaid : Prop := replyApartRow.holds Try.pinned (OpenSpec.ofChange replyApartSpec)

/-- ITS FALSE NEIGHBOUR: 'it returns false'. Refute it at one input. -/
def replyApartWrong : ChangeSpec := { name := "replyApart", fn := fun _ => fun
  | [d1, d2] => { results := [.lit (.bool false)], args := [d1, d2] }
  | _ => none }
def ReplyApartWrongFalsely : Prop := replyApartRow.holds Try.pinned (OpenSpec.ofChange replyApartWrong)

/-- 'muslinlaw27.ReplyKnown': WHATEVER THE INPUT: true; the input reads as it did. -/
def replyKnownSpec : ChangeSpec := { name := "replyKnown", fn := fun _ => fun
  | [] => { results := [.lit (.bool true)], args := [] }
  | _ => none }
def replyKnownRow : OpenClaim := { program := "ytfedgjahbmcpoaa", sum := "f4c70ee58e8bc4f802d66ab56a2f394b50a09cd83b496f2e5deb38cf7bc452fd", func := "muslin/muslinlaw27.ReplyKnown", spec := "replyKnown", inPlace := ["internal/abi.NoEscape", "internal/bytealg.MakeNoZero"], unfollowed := true, recurses := true, apart := false }
def ReplyKnownSaid : Prop := replyKnownRow.holds Try.pinned (OpenSpec.ofChange replyKnownSpec)

/-- ITS FALSE NEIGHBOUR: 'it returns false'. Refute it at one input. -/
def replyKnownWrong : ChangeSpec := { name := "replyKnown", fn := fun _ => fun
  | [] => { results := [.lit (.bool false)], args := [] }
  | _ => none }
def ReplyKnownWrongFalsely : Prop := replyKnownRow.holds Try.pinned (OpenSpec.ofChange replyKnownWrong)

/- THE SECOND FORM. 'bulk': how many values and letters a reading holds, each counted each time it is reached (what is shared counts as often as it is met; a slice's spare places count too). A statement '..UptoSaid' is the law's where the arguments, and the package variables that the reading takes, are together of bulk at most 1048576: NARROWER than '..Said'. Prove '..Said' where nothing that the law and all that it calls make is longer than what came in: it says more and counts as full. Else prove '..UptoSaid'. A law counts once. -/
mutual
def uptoBulk {H : Type} : DataW H → Nat
  | .lit (.string bytes) => bytes.length + 1
  | .lit _ => 1
  | .nil => 1
  | .ptr d => uptoBulk d + 1
  | .slice elems spare => uptoBulkAll elems + uptoBulkAll spare + 1
  | .agg parts => uptoBulkAll parts + 1
  | .iface _ d => uptoBulk d + 1
  | .map entries => uptoBulkEntries entries + 1
  | .held _ => 1
def uptoBulkAll {H : Type} : List (DataW H) → Nat
  | [] => 0
  | d :: r => uptoBulk d + uptoBulkAll r
def uptoBulkEntries {H : Type} : List (Lit × DataW H) → Nat
  | [] => 0
  | x :: r => uptoBulkEntry x + uptoBulkEntries r
def uptoBulkEntry {H : Type} : Lit × DataW H → Nat
  | (.string bytes, d) => bytes.length + uptoBulk d + 1
  | (_, d) => uptoBulk d + 1
 end
def uptoSmall : (H : Type) → List (DataW H) → Bool := fun _ ds => decide (uptoBulkAll ds ≤ 1048576)
def OpenSpec.upto (s : _root_.Go.ChangeSpec) : _root_.Go.OpenSpec := { _root_.Go.OpenSpec.ofChange s with cond := some uptoSmall }

/-- 'muslinlaw27.ReplyAgain', WHERE WHAT IT READS IS OF BULK AT MOST 1048576: true; the input reads as it did. -/
def replyAgainUptoRow : OpenClaim := { program := "ytfedgjahbmcpoaa", sum := "f4c70ee58e8bc4f802d66ab56a2f394b50a09cd83b496f2e5deb38cf7bc452fd", func := "muslin/muslinlaw27.ReplyAgain", spec := "replyAgain", unfollowed := true, recurses := true, apart := false, narrowed := true }
def ReplyAgainUptoSaid : Prop := replyAgainUptoRow.holds Try.pinned (OpenSpec.upto replyAgainSpec)

/-- 'muslinlaw27.ReplyBack', WHERE WHAT IT READS IS OF BULK AT MOST 1048576: true; the input reads as it did. -/
def replyBackUptoRow : OpenClaim := { program := "ytfedgjahbmcpoaa", sum := "f4c70ee58e8bc4f802d66ab56a2f394b50a09cd83b496f2e5deb38cf7bc452fd", func := "muslin/muslinlaw27.ReplyBack", spec := "replyBack", unfollowed := true, recurses := true, apart := false, narrowed := true }
def ReplyBackUptoSaid : Prop := replyBackUptoRow.holds Try.pinned (OpenSpec.upto replyBackSpec)

/-- 'muslinlaw27.ReplyApart', WHERE WHAT IT READS IS OF BULK AT MOST 1048576: true; the input reads as it did. -/
def replyApartUptoRow : OpenClaim := { program := "ytfedgjahbmcpoaa", sum := "f4c70ee58e8bc4f802d66ab56a2f394b50a09cd83b496f2e5deb38cf7bc452fd", func := "muslin/muslinlaw27.ReplyApart", spec := "replyApart", unfollowed := true, recurses := true, apart := false, narrowed := true }
def ReplyApartUptoSaid : Prop := replyApartUptoRow.holds Try.pinned (OpenSpec.upto replyApartSpec)

/-- 'muslinlaw27.ReplyKnown', WHERE WHAT IT READS IS OF BULK AT MOST 1048576: true; the input reads as it did. -/
def replyKnownUptoRow : OpenClaim := { program := "ytfedgjahbmcpoaa", sum := "f4c70ee58e8bc4f802d66ab56a2f394b50a09cd83b496f2e5deb38cf7bc452fd", func := "muslin/muslinlaw27.ReplyKnown", spec := "replyKnown", inPlace := ["internal/abi.NoEscape", "internal/bytealg.MakeNoZero"], unfollowed := true, recurses := true, apart := false, narrowed := true }
def ReplyKnownUptoSaid : Prop := replyKnownUptoRow.holds Try.pinned (OpenSpec.upto replyKnownSpec)

end Rows
end Go.Proofs.Ytfedgjahbmcpoaa
