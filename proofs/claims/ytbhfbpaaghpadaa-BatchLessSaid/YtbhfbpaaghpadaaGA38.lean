/- The document's write, Check, Bytes of a batch: contracts. No conditions. -/
import Derived.Test.YtbhfbpaaghpadaaGA37
import Derived.Test.YtbhfbpaaghpadaaGA22
set_option linter.unusedSimpArgs false
set_option linter.unusedVariables false
namespace Go.Proofs.Ytbhfbpaaghpadaa
open Go.RowKit

theorem alloc_block {w : World} {o : Obj} {q : Nat} {x : Obj} (h : w.heap[q]? = some x) : (w.alloc o).heap[q]? = some x := (Below.heap_alloc w o q (Array.getElem?_eq_some_iff.1 h).1).trans h
theorem BS.grownR {w w' : World} {row : Option Nat} {A : Option Addr} {n c : Nat} {l : List Nat} (h : BS w A n c l) (hg : w.grownBy w' row) (hr : ∀ ad, A = some ad → row ≠ some ad.block) : BS w' A n c l := by
  refine ⟨h.len, h.le, h.nil, fun i hi => ?_, h.byt, h.lim⟩
  obtain ⟨ad, hA, hc⟩ := h.lies i hi
  refine ⟨ad, hA, ?_⟩
  have hbl : (ad.add i).block = ad.block := by
    unfold Addr.add
    split <;> rfl
  have hlt := World.block_lt_of_cell? w _ hc
  have hh := hg.block (ad.add i).block hlt (fun e => hr ad hA (by rw [← hbl]; exact e.symm))
  rw [← hc]
  unfold World.cell?
  rw [hh]
theorem TwoB.open3 {w w' : World} {e : Ending} {l : List Nat} {k : Int} (h : TwoB w w' e l k) (hb : Byt l) (hl : l.length ≤ 140737488354304) :
    ∃ A n c, e = .returned (.tuple #[.slice A n c, .int .i64 k]) ∧ BS w' A n c l ∧ (∀ ad, A = some ad → w.heap.size ≤ ad.block ∧ ad.block < w'.heap.size) ∧ Below w.heap.size w w' := by
  obtain ⟨v, rfl, ho, hbl⟩ := h
  obtain ⟨A, n, c, rfl, hB, h2⟩ := ownsRow_bs ho hb hl
  exact ⟨A, n, c, rfl, hB, h2, hbl⟩
theorem far {v : Value} {A : Option Addr} {y z : Nat} (h : ∀ k, v.ownBlock = some k → k < y ∨ z ≤ k) (h2 : ∀ ad, A = some ad → y ≤ ad.block ∧ ad.block < z) : ∀ ad, A = some ad → v.ownBlock ≠ some ad.block := by
  intro ad hA hv
  have h3 := h _ hv
  have h4 := h2 _ hA
  omega
theorem bel1 (w : World) (o : Obj) : Below w.heap.size w (w.alloc o) := (bel0 w).alloc (Nat.le_refl _) o
end Go.Proofs.Ytbhfbpaaghpadaa
/- The document's Check, Bytes of a batch: contracts. No conditions. -/
set_option linter.unusedSimpArgs false
set_option linter.unusedVariables false
namespace Go.Proofs.Ytbhfbpaaghpadaa
open Go.RowKit

end Go.Proofs.Ytbhfbpaaghpadaa
