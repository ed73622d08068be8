/- The memory in the middle of the document's Parse of a batch. No conditions. -/
import Derived.Test.YtbhfbpaaghpadaaGA34
import Derived.Test.YtbhfbpaaghpadaaGA39
import Derived.Test.YtbhfbpaaghpadaaGA31
import Derived.Test.YtbhfbpaaghpadaaGA25
import Derived.Test.YtbhfbpaaghpadaaGA38
set_option linter.unusedSimpArgs false
set_option linter.unusedVariables false
namespace Go.Proofs.Ytbhfbpaaghpadaa
open Go.RowKit

theorem SpOwn.grown {w w' : World} {base : Nat} {v : Value} {l : List Spn} {g : Nat} (h : SpOwn w base v l) (hg : w.grownBy w' (some g)) (hb : g < base) : SpOwn w' base v l := by
  obtain ⟨vs, hv, h1, h2⟩ := h
  exact ⟨vs, hv, own_far h1 hg (fun k hk e => by injection e with e; have := (h1.lt k hk).1; omega), fun i hi => own_far (h2 i hi) hg (fun k hk e => by injection e with e; have := ((h2 i hi).lt k hk).1; omega)⟩
/-- A batch in a block: its numbers, its spans. -/
def BtS (w : World) (q base : Nat) (a s : Int) (l : List Spn) : Prop := ∃ v, w.heap[q]? = some (.cells #[.int .i64 a, .int .i64 s, v] 24 (0, 0)) ∧ SpOwn w base v l
theorem BtS.below {w w' : World} {q base : Nat} {a s : Int} {l : List Spn} (h : BtS w q base a s l) (hb : Below w.heap.size w w') : BtS w' q base a s l := by
  obtain ⟨v, h1, h2⟩ := h
  exact ⟨v, (hb.block _ (Array.getElem?_eq_some_iff.1 h1).1).trans h1, h2.below hb⟩
theorem BtS.grown {w w' : World} {q base g : Nat} {a s : Int} {l : List Spn} (h : BtS w q base a s l) (hg : w.grownBy w' (some g)) (hb : g < base) (hq : q ≠ g) : BtS w' q base a s l := by
  obtain ⟨v, h1, h2⟩ := h
  exact ⟨v, (hg.block _ (Array.getElem?_eq_some_iff.1 h1).1 (fun e => hq (by injection e))).trans h1, h2.grown hg hb⟩
theorem BSp.grown {w w' : World} {q g : Nat} {s : Spn} {v : Value} (h : BSp w q s v) (hg : w.grownBy w' (some g)) (hq : q ≠ g) : BSp w' q s v := (hg.block _ (Array.getElem?_eq_some_iff.1 h).1 (fun e => hq (by injection e))).trans h
theorem SpOwn.ne2 {w : World} {base : Nat} {v : Value} {l : List Spn} (h : SpOwn w base v l) {q : Nat} {c : Array Value} {t : TypeId} {mk : Nat × Nat} (hq : w.heap[q]? = some (.cells c t mk)) (ht : t ≠ 32) : v.ownBlock ≠ some q := by
  obtain ⟨vs, hv, h1, h2⟩ := h
  exact own_ne2 h1 hq ht
end Go.Proofs.Ytbhfbpaaghpadaa
/- The document's Parse of a batch: its contract. No conditions. -/
set_option linter.unusedSimpArgs false
set_option linter.unusedVariables false
namespace Go.Proofs.Ytbhfbpaaghpadaa
open Go.RowKit

/-- A batch that was read, or none. -/
def PrR (w w' : World) (e : Ending) (x : Bat × Int) : Prop := ∃ v, e = .returned (.tuple #[.agg #[.int .i64 x.1.ag, .int .i64 x.1.sq, v], .int .i64 x.2]) ∧ SpOwn w' w.heap.size v x.1.sp ∧ Below w.heap.size w w'
end Go.Proofs.Ytbhfbpaaghpadaa
