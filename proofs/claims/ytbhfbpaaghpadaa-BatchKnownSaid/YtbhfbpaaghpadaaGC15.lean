/- The document's CheckAttrs: its contract. No conditions. -/
import Derived.Test.YtbhfbpaaghpadaaGC11
set_option linter.unusedSimpArgs false
set_option linter.unusedVariables false
namespace Go.Proofs.Ytbhfbpaaghpadaa
open Go.RowKit

theorem att_keep2 {w wr : World} {A : Option Addr} {n c : Nat} {l : List Att} (h : AS w A n c l) (hb : Below w.heap.size w wr) {k : Nat} (hk : k < l.length) {g o : Nat} (hA : A = some ⟨g, o, none⟩) (a' : World) (hb' : Below wr.heap.size wr a') :
    ∀ j (v : Value), l[k].cells[j]? = some v → a'.cell? ⟨g, o + k * 6 + j, none⟩ = some v := by
  obtain ⟨g', o', hA', hc⟩ := h.cellsAt (nx hb hb') hk
  rw [hA] at hA'
  cases hA'
  exact hc
end Go.Proofs.Ytbhfbpaaghpadaa
