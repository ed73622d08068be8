/- The memory in the middle of batch.Parse. No conditions. -/
import Derived.Test.YtbhfbpaaghpadaaGC28
import Derived.Test.YtbhfbpaaghpadaaGC23
set_option linter.unusedSimpArgs false
set_option linter.unusedVariables false
namespace Go.Proofs.Ytbhfbpaaghpadaa
open Go.RowKit

/-- Where batch.Parse stands: the reader, the batch so far, how many spans are left, the answer's box (untouched). -/
structure PrP (w0 w : World) (lo g q2 q5 q6 : Nat) (e : Int) (l : List Nat) (a s : Int) (sp : List Spn) (m : Int) : Prop where
  bel : Below w0.heap.size w0 w
  rd : Rdr w lo g e l
  bt : BtS w q5 (q6 + 1) a s sp
  mn : w.heap[q6]? = some (.cells #[.int .i64 m] 3 (0, 0))
  ans : w.heap[q2]? = some (.cells #[.int .i64 0, .int .i64 0, .slice none 0 0] 24 (0, 0))
  lo0 : w0.heap.size ≤ lo
  lo2 : w0.heap.size ≤ q2
  lo5 : w0.heap.size ≤ q5
  g5 : g < q5
  q56 : q5 < q6
  n2 : q2 < lo
theorem PrP.below {w0 w w' : World} {lo g q2 q5 q6 : Nat} {e : Int} {l : List Nat} {a s : Int} {sp : List Spn} {m : Int} (h : PrP w0 w lo g q2 q5 q6 e l a s sp m) (hb : Below w.heap.size w w') : PrP w0 w' lo g q2 q5 q6 e l a s sp m :=
  ⟨nx h.bel hb, h.rd.below hb, h.bt.below hb, (hb.block _ (Array.getElem?_eq_some_iff.1 h.mn).1).trans h.mn, (hb.block _ (Array.getElem?_eq_some_iff.1 h.ans).1).trans h.ans, h.lo0, h.lo2, h.lo5, h.g5, h.q56, h.n2⟩
theorem PrP.read {w0 w w' : World} {lo g q2 q5 q6 : Nat} {e e' : Int} {l l' : List Nat} {a s : Int} {sp : List Spn} {m : Int} (h : PrP w0 w lo g q2 q5 q6 e l a s sp m) (hr : Rdr w' lo g e' l') (hg : w.grownBy w' (some g)) : PrP w0 w' lo g q2 q5 q6 e' l' a s sp m := by
  have hlt := hr.lt.1
  have h5 := h.g5
  have h6 := h.q56
  have h2 := h.n2
  exact ⟨grown_bel h.bel hg (Nat.le_trans h.lo0 hlt), hr, h.bt.grown hg (by omega) (by omega), (hg.block _ (Array.getElem?_eq_some_iff.1 h.mn).1 (fun e => by injection e with e; omega)).trans h.mn, (hg.block _ (Array.getElem?_eq_some_iff.1 h.ans).1 (fun e => by injection e with e; omega)).trans h.ans, h.lo0, h.lo2, h.lo5, h.g5, h.q56, h.n2⟩
/-- A store into the batch so far, or into the count: nothing else is touched. -/
theorem PrP.num0 {w0 w : World} {lo g q2 q5 q6 : Nat} {e : Int} {l : List Nat} {a s : Int} {sp : List Spn} {m : Int} (h : PrP w0 w lo g q2 q5 q6 e l a s sp m) (n : Int) : PrP w0 (w.setCell ⟨q5, 0, none⟩ (.int .i64 n)) lo g q2 q5 q6 e l n s sp m := by
  obtain ⟨v, h1, h2⟩ := h.bt
  have h5 := h.g5
  have h6 := h.q56
  have hn := h.n2
  have hlt := h.rd.lt.1
  exact ⟨h.bel.setCell (p := ⟨q5, 0, none⟩) h.lo5 _, h.rd.grown (grown_set w q5 0 _) (fun k hk => by injection hk with hk; omega), ⟨v, heap_set h1 0 _, h2.far (Nat.lt_succ_of_lt h6) 0 _⟩, (Below.heap_setCell w ⟨q5, 0, none⟩ _ q6 (by show q6 ≠ q5; omega)).trans h.mn, (Below.heap_setCell w ⟨q5, 0, none⟩ _ q2 (by show q2 ≠ q5; omega)).trans h.ans, h.lo0, h.lo2, h.lo5, h.g5, h.q56, h.n2⟩
theorem PrP.num1 {w0 w : World} {lo g q2 q5 q6 : Nat} {e : Int} {l : List Nat} {a s : Int} {sp : List Spn} {m : Int} (h : PrP w0 w lo g q2 q5 q6 e l a s sp m) (n : Int) : PrP w0 (w.setCell ⟨q5, 1, none⟩ (.int .i64 n)) lo g q2 q5 q6 e l a n sp m := by
  obtain ⟨v, h1, h2⟩ := h.bt
  have h5 := h.g5
  have h6 := h.q56
  have hn := h.n2
  have hlt := h.rd.lt.1
  exact ⟨h.bel.setCell (p := ⟨q5, 1, none⟩) h.lo5 _, h.rd.grown (grown_set w q5 1 _) (fun k hk => by injection hk with hk; omega), ⟨v, heap_set h1 1 _, h2.far (Nat.lt_succ_of_lt h6) 1 _⟩, (Below.heap_setCell w ⟨q5, 1, none⟩ _ q6 (by show q6 ≠ q5; omega)).trans h.mn, (Below.heap_setCell w ⟨q5, 1, none⟩ _ q2 (by show q2 ≠ q5; omega)).trans h.ans, h.lo0, h.lo2, h.lo5, h.g5, h.q56, h.n2⟩
theorem PrP.many {w0 w : World} {lo g q2 q5 q6 : Nat} {e : Int} {l : List Nat} {a s : Int} {sp : List Spn} {m : Int} (h : PrP w0 w lo g q2 q5 q6 e l a s sp m) (n : Int) : PrP w0 (w.setCell ⟨q6, 0, none⟩ (.int .i64 n)) lo g q2 q5 q6 e l a s sp n := by
  obtain ⟨v, h1, h2⟩ := h.bt
  have h5 := h.g5
  have h6 := h.q56
  have hn := h.n2
  have hlt := h.rd.lt.1
  have hl5 := h.lo5
  exact ⟨h.bel.setCell (p := ⟨q6, 0, none⟩) (by show w0.heap.size ≤ q6; omega) _, h.rd.grown (grown_set w q6 0 _) (fun k hk => by injection hk with hk; omega), ⟨v, (Below.heap_setCell w ⟨q6, 0, none⟩ _ q5 (by show q5 ≠ q6; omega)).trans h1, h2.far (Nat.lt_succ_self q6) 0 _⟩, heap_set h.mn 0 _, (Below.heap_setCell w ⟨q6, 0, none⟩ _ q2 (by show q2 ≠ q6; omega)).trans h.ans, h.lo0, h.lo2, h.lo5, h.g5, h.q56, h.n2⟩
theorem PrP.push {w0 w t11 : World} {lo g q2 q5 q6 qs : Nat} {e : Int} {l : List Nat} {a s : Int} {S S' : List Spn} {m : Int} {va vo v11 : Value} {o : Obj} (h : PrP w0 w lo g q2 q5 q6 e l a s S m) (hqs : q6 < qs) (hq : w.heap[q5]? = some (.cells #[.int .i64 a, .int .i64 s, vo] 24 (0, 0)))
    (hg : ((w.setCell ⟨qs, 8, none⟩ va).alloc o).grownBy t11 vo.ownBlock) (ho : SpOwn t11 (q6 + 1) v11 S') (hown : ∀ k, vo.ownBlock = some k → q6 + 1 ≤ k) :
    PrP w0 (t11.setCell ⟨q5, 2, none⟩ v11) lo g q2 q5 q6 e l a s S' m ∧ t11.heap[q5]? = some (.cells #[.int .i64 a, .int .i64 s, vo] 24 (0, 0)) ∧ t11.heap[q6]? = some (.cells #[.int .i64 m] 3 (0, 0)) := by
  have h5 := h.lo5
  have hgb := h.g5
  have h56 := h.q56
  have hn := h.n2
  have hlt := h.rd.lt.1
  have k5 : ((w.setCell ⟨qs, 8, none⟩ va).alloc o).heap[q5]? = some (.cells #[.int .i64 a, .int .i64 s, vo] 24 (0, 0)) := alloc_block ((Below.heap_setCell w ⟨qs, 8, none⟩ va q5 (by show q5 ≠ qs; omega)).trans hq)
  have k2 : ((w.setCell ⟨qs, 8, none⟩ va).alloc o).heap[q2]? = some (.cells #[.int .i64 0, .int .i64 0, .slice none 0 0] 24 (0, 0)) := alloc_block ((Below.heap_setCell w ⟨qs, 8, none⟩ va q2 (by show q2 ≠ qs; omega)).trans h.ans)
  have k6 : ((w.setCell ⟨qs, 8, none⟩ va).alloc o).heap[q6]? = some (.cells #[.int .i64 m] 3 (0, 0)) := alloc_block ((Below.heap_setCell w ⟨qs, 8, none⟩ va q6 (by show q6 ≠ qs; omega)).trans h.mn)
  have m5 := (hg.block q5 (Array.getElem?_eq_some_iff.1 k5).1 (fun e => by have := hown q5 e.symm; omega)).trans k5
  have m2 := (hg.block q2 (Array.getElem?_eq_some_iff.1 k2).1 (fun e => by have := hown q2 e.symm; omega)).trans k2
  have m6 := (hg.block q6 (Array.getElem?_eq_some_iff.1 k6).1 (fun e => by have := hown q6 e.symm; omega)).trans k6
  have b1 : Below w0.heap.size w0 ((w.setCell ⟨qs, 8, none⟩ va).alloc o) := (h.bel.setCell (p := ⟨qs, 8, none⟩) (by show w0.heap.size ≤ qs; omega) _).alloc (by rw [World.size_setCell]; exact h.bel.size) _
  have b2 := grown_below b1 hg (fun k hk => by have := hown k hk; omega)
  have r1 : Rdr ((w.setCell ⟨qs, 8, none⟩ va).alloc o) lo g e l := (h.rd.grown (grown_set w qs 8 va) (fun k hk => by injection hk with hk; omega)).below (bel1 _ _)
  have r2 : Rdr t11 lo g e l := r1.grown hg (fun k hk => by have := hown k hk; omega)
  exact ⟨⟨b2.setCell (p := ⟨q5, 2, none⟩) h5 _, r2.grown (grown_set t11 q5 2 v11) (fun k hk => by injection hk with hk; omega), ⟨v11, heap_set m5 2 _, ho.far (Nat.lt_succ_of_lt h56) 2 v11⟩, (Below.heap_setCell t11 ⟨q5, 2, none⟩ v11 q6 (by show q6 ≠ q5; omega)).trans m6, (Below.heap_setCell t11 ⟨q5, 2, none⟩ v11 q2 (by show q2 ≠ q5; omega)).trans m2, h.lo0, h.lo2, h5, hgb, h56, hn⟩, m5, m6⟩
/-- The same with a span under way in a block of its own. -/
structure PrQ (w0 w : World) (lo g q2 q5 q6 qs : Nat) (e : Int) (l : List Nat) (a s : Int) (sp : List Spn) (m : Int) (vo : Value) (sn : Spn) : Prop where
  p : PrP w0 w lo g q2 q5 q6 e l a s sp m
  q : w.heap[q5]? = some (.cells #[.int .i64 a, .int .i64 s, vo] 24 (0, 0))
  o : SpOwn w (q6 + 1) vo sp
  ne : vo.ownBlock ≠ some qs
  b : BSp w qs sn (.slice none 0 0)
  g6 : q6 < qs
theorem PrQ.new {w0 w : World} {lo g q2 q5 q6 : Nat} {e : Int} {l : List Nat} {a s : Int} {sp : List Spn} {m : Int} (h : PrP w0 w lo g q2 q5 q6 e l a s sp m) (sn : Spn) : ∃ vo, PrQ w0 (w.alloc (.cells #[.int .i64 sn.tr, .int .i64 sn.id, .int .i64 sn.pa, .string sn.sv, .string sn.op, .int .i64 sn.st, .int .i64 sn.ln, .string sn.sj, .slice none 0 0] 32)) lo g q2 q5 q6 w.heap.size e l a s sp m vo sn := by
  obtain ⟨v, h1, h2⟩ := h.bt
  exact ⟨v, h.below (bel1 _ _), alloc_block h1, h2.below (bel1 _ _), h2.ne (Nat.le_refl _), BSp.new w sn _, (Array.getElem?_eq_some_iff.1 h.mn).1⟩
theorem PrQ.read {w0 w w' : World} {lo g q2 q5 q6 qs : Nat} {e e' : Int} {l l' : List Nat} {a s : Int} {sp : List Spn} {m : Int} {vo : Value} {sn : Spn} (h : PrQ w0 w lo g q2 q5 q6 qs e l a s sp m vo sn) (hr : Rdr w' lo g e' l') (hg : w.grownBy w' (some g)) : PrQ w0 w' lo g q2 q5 q6 qs e' l' a s sp m vo sn := by
  have h5 := h.p.g5
  have h6 := h.p.q56
  have hs := h.g6
  exact ⟨h.p.read hr hg, (hg.block _ (Array.getElem?_eq_some_iff.1 h.q).1 (fun e => by injection e with e; omega)).trans h.q, h.o.grown hg (by omega), h.ne, h.b.grown hg (by omega), hs⟩
theorem PrQ.set {w0 w : World} {lo g q2 q5 q6 qs : Nat} {e : Int} {l : List Nat} {a s : Int} {sp : List Spn} {m : Int} {vo : Value} {sn : Spn} (h : PrQ w0 w lo g q2 q5 q6 qs e l a s sp m vo sn) (j : Nat) (v : Value) (sn' : Spn) (hb : BSp (w.setCell ⟨qs, j, none⟩ v) qs sn' (.slice none 0 0)) : PrQ w0 (w.setCell ⟨qs, j, none⟩ v) lo g q2 q5 q6 qs e l a s sp m vo sn' := by
  have h5 := h.p.g5
  have h6 := h.p.q56
  have hs := h.g6
  have hn := h.p.n2
  have hl5 := h.p.lo5
  have hlt := h.p.rd.lt.1
  have k5 := (Below.heap_setCell w ⟨qs, j, none⟩ v q5 (by show q5 ≠ qs; omega)).trans h.q
  have ho := h.o.setCell h.b h.ne j v
  exact ⟨⟨h.p.bel.setCell (p := ⟨qs, j, none⟩) (by show w0.heap.size ≤ qs; omega) _, h.p.rd.grown (grown_set w qs j _) (fun k hk => by injection hk with hk; omega), ⟨vo, k5, ho⟩, (Below.heap_setCell w ⟨qs, j, none⟩ _ q6 (by show q6 ≠ qs; omega)).trans h.p.mn, (Below.heap_setCell w ⟨qs, j, none⟩ _ q2 (by show q2 ≠ qs; omega)).trans h.p.ans, h.p.lo0, h.p.lo2, h.p.lo5, h5, h6, hn⟩, k5, ho, h.ne, hb, hs⟩
end Go.Proofs.Ytbhfbpaaghpadaa
