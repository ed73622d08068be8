/-
  No cell of these rows narrows 'for every input' (looked for: loops, veiled, ifaces, maps, wideKeys, modest, calm, conditions, laid).
  DERIVED. THE GIVEN ROWS OF THIS SEAT. 7 by the template 'for every input the law returns true; each argument reads behind the call as it read before'; 0 by the template 'total and deterministic' (their statements: YthikhoamodcggaaTotals.lean).
  GIVEN WITH THE SEED: the statements are not yours to turn. If you find one false, say at which input.
  Laid BY PROGRAM, IN A SANDBOX (cutbox-rows.mjs): the forced cells as the released guide's own fill.sh prints them over the translation ffb61c9f31d9b94a… (all of the seat's roots in one cut). By AI agents, Wed Nov 11 2026. No macro, syntax, notation, axiom, sorry.
-/
import Derived.Test.YthikhoamodcggaaChecked
import GoSem.Claim
import GoSem.ClaimJoined
import GoSem.ClaimMapViews
import Derived.JoinedTies
import Derived.KernelRfl
namespace Go.Proofs.Ythikhoamodcggaa
/- THE CELL 'sum', in the pinned program and in every row, IS THE sha256 OF THE DUMP (.gsa) THAT YthikhoamodcggaaProg.lean LOADS. Nothing in Lean hashes anything: it is a label: what it is worth is what the hold of that sum in a sandbox is worth. -/
noncomputable def Try.pinned : Pinned := { name := "ythikhoamodcggaa", sum := "ffb61c9f31d9b94a91ccd3e73ea05ae00e9efcce4facaa94430fac9ba4600cfd", checked := Try.checked }
namespace Rows
def none {H : Type} : Left H := { results := [], args := [] }

/-- 'muslinlaw21.PostsMany': WHATEVER THE INPUT: true; the input reads as it did. -/
def postsManySpec : ChangeSpec := { name := "postsMany", fn := fun _ => fun
  | [d1, d2, d3] => { results := [.lit (.bool true)], args := [d1, d2, d3] }
  | _ => none }
def postsManyRow : OpenClaim := { program := "ythikhoamodcggaa", sum := "ffb61c9f31d9b94a91ccd3e73ea05ae00e9efcce4facaa94430fac9ba4600cfd", func := "muslin/muslinlaw21.PostsMany", spec := "postsMany", unfollowed := true, recurses := true, apart := false }
def PostsManySaid : Prop := postsManyRow.holds Try.pinned (OpenSpec.ofChange postsManySpec)

/-- ITS FALSE NEIGHBOUR: 'it returns false'. Refute it at one input. -/
def postsManyWrong : ChangeSpec := { name := "postsMany", fn := fun _ => fun
  | [d1, d2, d3] => { results := [.lit (.bool false)], args := [d1, d2, d3] }
  | _ => none }
def PostsManyWrongFalsely : Prop := postsManyRow.holds Try.pinned (OpenSpec.ofChange postsManyWrong)

/-- 'muslinlaw21.PostsLaws': WHATEVER THE INPUT: true; the input reads as it did. -/
def postsLawsSpec : ChangeSpec := { name := "postsLaws", fn := fun _ => fun
  | [d1, d2, d3] => { results := [.lit (.bool true)], args := [d1, d2, d3] }
  | _ => none }
def postsLawsRow : OpenClaim := { program := "ythikhoamodcggaa", sum := "ffb61c9f31d9b94a91ccd3e73ea05ae00e9efcce4facaa94430fac9ba4600cfd", func := "muslin/muslinlaw21.PostsLaws", spec := "postsLaws", unfollowed := true, recurses := true, apart := false }
def PostsLawsSaid : Prop := postsLawsRow.holds Try.pinned (OpenSpec.ofChange postsLawsSpec)

/-- ITS FALSE NEIGHBOUR: 'it returns false'. Refute it at one input. -/
def postsLawsWrong : ChangeSpec := { name := "postsLaws", fn := fun _ => fun
  | [d1, d2, d3] => { results := [.lit (.bool false)], args := [d1, d2, d3] }
  | _ => none }
def PostsLawsWrongFalsely : Prop := postsLawsRow.holds Try.pinned (OpenSpec.ofChange postsLawsWrong)

/-- 'muslinlaw21.PostsPages': WHATEVER THE INPUT: true; the input reads as it did. -/
def postsPagesSpec : ChangeSpec := { name := "postsPages", fn := fun _ => fun
  | [d1, d2] => { results := [.lit (.bool true)], args := [d1, d2] }
  | _ => none }
def postsPagesRow : OpenClaim := { program := "ythikhoamodcggaa", sum := "ffb61c9f31d9b94a91ccd3e73ea05ae00e9efcce4facaa94430fac9ba4600cfd", func := "muslin/muslinlaw21.PostsPages", spec := "postsPages", unfollowed := true, recurses := true, apart := false }
def PostsPagesSaid : Prop := postsPagesRow.holds Try.pinned (OpenSpec.ofChange postsPagesSpec)

/-- ITS FALSE NEIGHBOUR: 'it returns false'. Refute it at one input. -/
def postsPagesWrong : ChangeSpec := { name := "postsPages", fn := fun _ => fun
  | [d1, d2] => { results := [.lit (.bool false)], args := [d1, d2] }
  | _ => none }
def PostsPagesWrongFalsely : Prop := postsPagesRow.holds Try.pinned (OpenSpec.ofChange postsPagesWrong)

/-- 'muslinlaw21.PostsOne': WHATEVER THE INPUT: true; the input reads as it did. -/
def postsOneSpec : ChangeSpec := { name := "postsOne", fn := fun _ => fun
  | [d1, d2, d3] => { results := [.lit (.bool true)], args := [d1, d2, d3] }
  | _ => none }
def postsOneRow : OpenClaim := { program := "ythikhoamodcggaa", sum := "ffb61c9f31d9b94a91ccd3e73ea05ae00e9efcce4facaa94430fac9ba4600cfd", func := "muslin/muslinlaw21.PostsOne", spec := "postsOne", unfollowed := true, recurses := true, apart := false }
def PostsOneSaid : Prop := postsOneRow.holds Try.pinned (OpenSpec.ofChange postsOneSpec)

/-- ITS FALSE NEIGHBOUR: 'it returns false'. Refute it at one input. -/
def postsOneWrong : ChangeSpec := { name := "postsOne", fn := fun _ => fun
  | [d1, d2, d3] => { results := [.lit (.bool false)], args := [d1, d2, d3] }
  | _ => none }
def PostsOneWrongFalsely : Prop := postsOneRow.holds Try.pinned (OpenSpec.ofChange postsOneWrong)

/-- 'muslinlaw21.PostsSets': WHATEVER THE INPUT: true; the input reads as it did. -/
def postsSetsSpec : ChangeSpec := { name := "postsSets", fn := fun _ => fun
  | [d1, d2, d3] => { results := [.lit (.bool true)], args := [d1, d2, d3] }
  | _ => none }
def postsSetsRow : OpenClaim := { program := "ythikhoamodcggaa", sum := "ffb61c9f31d9b94a91ccd3e73ea05ae00e9efcce4facaa94430fac9ba4600cfd", func := "muslin/muslinlaw21.PostsSets", spec := "postsSets", unfollowed := true, recurses := true, apart := false }
def PostsSetsSaid : Prop := postsSetsRow.holds Try.pinned (OpenSpec.ofChange postsSetsSpec)

/-- ITS FALSE NEIGHBOUR: 'it returns false'. Refute it at one input. -/
def postsSetsWrong : ChangeSpec := { name := "postsSets", fn := fun _ => fun
  | [d1, d2, d3] => { results := [.lit (.bool false)], args := [d1, d2, d3] }
  | _ => none }
def PostsSetsWrongFalsely : Prop := postsSetsRow.holds Try.pinned (OpenSpec.ofChange postsSetsWrong)

/-- 'muslinlaw21.PostsPut': WHATEVER THE INPUT: true; the input reads as it did. -/
def postsPutSpec : ChangeSpec := { name := "postsPut", fn := fun _ => fun
  | [d1, d2] => { results := [.lit (.bool true)], args := [d1, d2] }
  | _ => none }
def postsPutRow : OpenClaim := { program := "ythikhoamodcggaa", sum := "ffb61c9f31d9b94a91ccd3e73ea05ae00e9efcce4facaa94430fac9ba4600cfd", func := "muslin/muslinlaw21.PostsPut", spec := "postsPut", unfollowed := true, recurses := true, apart := false }
def PostsPutSaid : Prop := postsPutRow.holds Try.pinned (OpenSpec.ofChange postsPutSpec)

/-- ITS FALSE NEIGHBOUR: 'it returns false'. Refute it at one input. -/
def postsPutWrong : ChangeSpec := { name := "postsPut", fn := fun _ => fun
  | [d1, d2] => { results := [.lit (.bool false)], args := [d1, d2] }
  | _ => none }
def PostsPutWrongFalsely : Prop := postsPutRow.holds Try.pinned (OpenSpec.ofChange postsPutWrong)

/-- 'muslinlaw21.PostsKnown': WHATEVER THE INPUT: true; the input reads as it did. -/
def postsKnownSpec : ChangeSpec := { name := "postsKnown", fn := fun _ => fun
  | [] => { results := [.lit (.bool true)], args := [] }
  | _ => none }
def postsKnownRow : OpenClaim := { program := "ythikhoamodcggaa", sum := "ffb61c9f31d9b94a91ccd3e73ea05ae00e9efcce4facaa94430fac9ba4600cfd", func := "muslin/muslinlaw21.PostsKnown", spec := "postsKnown", unfollowed := true, recurses := true, apart := false }
def PostsKnownSaid : Prop := postsKnownRow.holds Try.pinned (OpenSpec.ofChange postsKnownSpec)

/-- ITS FALSE NEIGHBOUR: 'it returns false'. Refute it at one input. -/
def postsKnownWrong : ChangeSpec := { name := "postsKnown", fn := fun _ => fun
  | [] => { results := [.lit (.bool false)], args := [] }
  | _ => none }
def PostsKnownWrongFalsely : Prop := postsKnownRow.holds Try.pinned (OpenSpec.ofChange postsKnownWrong)

/- THE SECOND FORM. 'bulk': how many values and letters a reading holds, each counted each time it is reached (what is shared counts as often as it is met; a slice's spare places count too). A statement '..UptoSaid' is the law's where the arguments, and the package variables that the reading takes, are together of bulk at most 1048576: NARROWER than '..Said'. Prove '..Said' where nothing that the law and all that it calls make is longer than what came in: it says more and counts as full. Else prove '..UptoSaid'. A law counts once. -/
mutual
def uptoBulk {H : Type} : DataW H → Nat
  | .lit (.string bytes) => bytes.length + 1
  | .lit _ => 1
  | .nil => 1
  | .ptr d => uptoBulk d + 1
  | .slice elems spare => uptoBulkAll elems + uptoBulkAll spare + 1
  | .agg parts => uptoBulkAll parts + 1
  | .iface _ d => uptoBulk d + 1
  | .map entries => uptoBulkEntries entries + 1
  | .held _ => 1
def uptoBulkAll {H : Type} : List (DataW H) → Nat
  | [] => 0
  | d :: r => uptoBulk d + uptoBulkAll r
def uptoBulkEntries {H : Type} : List (Lit × DataW H) → Nat
  | [] => 0
  | x :: r => uptoBulkEntry x + uptoBulkEntries r
def uptoBulkEntry {H : Type} : Lit × DataW H → Nat
  | (.string bytes, d) => bytes.length + uptoBulk d + 1
  | (_, d) => uptoBulk d + 1
 end
def uptoSmall : (H : Type) → List (DataW H) → Bool := fun _ ds => decide (uptoBulkAll ds ≤ 1048576)
def OpenSpec.upto (s : _root_.Go.ChangeSpec) : _root_.Go.OpenSpec := { _root_.Go.OpenSpec.ofChange s with cond := some uptoSmall }

/-- 'muslinlaw21.PostsMany', WHERE WHAT IT READS IS OF BULK AT MOST 1048576: true; the input reads as it did. -/
def postsManyUptoRow : OpenClaim := { program := "ythikhoamodcggaa", sum := "ffb61c9f31d9b94a91ccd3e73ea05ae00e9efcce4facaa94430fac9ba4600cfd", func := "muslin/muslinlaw21.PostsMany", spec := "postsMany", unfollowed := true, recurses := true, apart := false, narrowed := true }
def PostsManyUptoSaid : Prop := postsManyUptoRow.holds Try.pinned (OpenSpec.upto postsManySpec)

/-- 'muslinlaw21.PostsLaws', WHERE WHAT IT READS IS OF BULK AT MOST 1048576: true; the input reads as it did. -/
def postsLawsUptoRow : OpenClaim := { program := "ythikhoamodcggaa", sum := "ffb61c9f31d9b94a91ccd3e73ea05ae00e9efcce4facaa94430fac9ba4600cfd", func := "muslin/muslinlaw21.PostsLaws", spec := "postsLaws", unfollowed := true, recurses := true, apart := false, narrowed := true }
def PostsLawsUptoSaid : Prop := postsLawsUptoRow.holds Try.pinned (OpenSpec.upto postsLawsSpec)

/-- 'muslinlaw21.PostsPages', WHERE WHAT IT READS IS OF BULK AT MOST 1048576: true; the input reads as it did. -/
def postsPagesUptoRow : OpenClaim := { program := "ythikhoamodcggaa", sum := "ffb61c9f31d9b94a91ccd3e73ea05ae00e9efcce4facaa94430fac9ba4600cfd", func := "muslin/muslinlaw21.PostsPages", spec := "postsPages", unfollowed := true, recurses := true, apart := false, narrowed := true }
def PostsPagesUptoSaid : Prop := postsPagesUptoRow.holds Try.pinned (OpenSpec.upto postsPagesSpec)

/-- 'muslinlaw21.PostsOne', WHERE WHAT IT READS IS OF BULK AT MOST 1048576: true; the input reads as it did. -/
def postsOneUptoRow : OpenClaim := { program := "ythikhoamodcggaa", sum := "ffb61c9f31d9b94a91ccd3e73ea05ae00e9efcce4facaa94430fac9ba4600cfd", func := "muslin/muslinlaw21.PostsOne", spec := "postsOne", unfollowed := true, recurses := true, apart := false, narrowed := true }
def PostsOneUptoSaid : Prop := postsOneUptoRow.holds Try.pinned (OpenSpec.upto postsOneSpec)

/-- 'muslinlaw21.PostsSets', WHERE WHAT IT READS IS OF BULK AT MOST 1048576: true; the input reads as it did. -/
def postsSetsUptoRow : OpenClaim := { program := "ythikhoamodcggaa", sum := "ffb61c9f31d9b94a91ccd3e73ea05ae00e9efcce4facaa94430fac9ba4600cfd", func := "muslin/muslinlaw21.PostsSets", spec := "postsSets", unfollowed := true, recurses := true, apart := false, narrowed := true }
def PostsSetsUptoSaid : Prop := postsSetsUptoRow.holds Try.pinned (OpenSpec.upto postsSetsSpec)

/-- 'muslinlaw21.PostsPut', WHERE WHAT IT READS IS OF BULK AT MOST 1048576: true; the input reads as it did. -/
def postsPutUptoRow : OpenClaim := { program := "ythikhoamodcggaa", sum := "ffb61c9f31d9b94a91ccd3e73ea05ae00e9efcce4facaa94430fac9ba4600cfd", func := "muslin/muslinlaw21.PostsPut", spec := "postsPut", unfollowed := true, recurses := true, apart := false, narrowed := true }
def PostsPutUptoSaid : Prop := postsPutUptoRow.holds Try.pinned (OpenSpec.upto postsPutSpec)

/-- 'muslinlaw21.PostsKnown', WHERE WHAT IT READS IS OF BULK AT MOST 1048576: true; the input reads as it did. -/
def postsKnownUptoRow : OpenClaim := { program := "ythikhoamodcggaa", sum := "ffb61c9f31d9b94a91ccd3e73ea05ae00e9efcce4facaa94430fac9ba4600cfd", func := "muslin/muslinlaw21.PostsKnown", spec := "postsKnown", unfollowed := true, recurses := true, apart := false, narrowed := true }
def PostsKnownUptoSaid : Prop := postsKnownUptoRow.holds Try.pinned (OpenSpec.upto postsKnownSpec)

end Rows
end Go.Proofs.Ythikhoamodcggaa
