/- A reader over written numbers; worlds that only one block grew. No conditions. -/
import Derived.Test.YtbbejajnfajpoaaRdU
set_option linter.unusedSimpArgs false
set_option linter.unusedVariables false
namespace Go.Proofs.Ytbbejajnfajpoaa
open Go.RowKit

theorem nb_enc (most n : Nat) (h : n < 72057594037927936) (hm : n ≤ most) (l : List Nat) : nb most 0 (Dig.enc n ++ l) = (n, 0, l) := by
  unfold nb
  rw [if_neg (by simp), Dig.num1_enc most n h hm]
  rfl
theorem grown_bel {w0 a b : World} {g : Nat} (h : Below w0.heap.size w0 a) (hg : a.grownBy b (some g)) (hw : w0.heap.size ≤ g) : Below w0.heap.size w0 b := h.grown hg h.size (fun k e => by cases e; exact hw)
end Go.Proofs.Ytbbejajnfajpoaa
