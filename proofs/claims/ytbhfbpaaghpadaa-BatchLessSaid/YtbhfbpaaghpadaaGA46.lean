/- Small lemmas for the laws on batches. No conditions. -/
import Derived.Test.YtbhfbpaaghpadaaGA45
set_option linter.unusedSimpArgs false
set_option linter.unusedVariables false
namespace Go.Proofs.Ytbhfbpaaghpadaa
open Go.RowKit

theorem bat_block {W : World} {q : Nat} {a s : Int} {v : Value} (h : W.heap[q]? = some (.cells #[.int .i64 a, .int .i64 s, v] 24 (0, 0))) :
    W.cell? ⟨q, 0, none⟩ = some (.int .i64 a) ∧ W.cell? ⟨q, 1, none⟩ = some (.int .i64 s) ∧ W.cell? ⟨q, 2, none⟩ = some v := ⟨cell_of h 0, cell_of h 1, cell_of h 2⟩
theorem blk_below {w w' : World} {q : Nat} {o : Obj} (h : w.heap[q]? = some o) (hb : Below w.heap.size w w') : w'.heap[q]? = some o := (hb.block _ (Array.getElem?_eq_some_iff.1 h).1).trans h
theorem btB_byt {b : Bat} (h : OkC b) (hp : PtB b) : Byt (btB b) := by
  unfold btB
  exact Byt.append (uN_byt _) (sps_len (fun s hs => ⟨h.sp s hs, hp s hs⟩)).1
end Go.Proofs.Ytbhfbpaaghpadaa
