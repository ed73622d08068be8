/- The closure of value.Attrs: its contract. No conditions. -/
import Derived.Test.YtmnabhennibddaaGD21
import Derived.Test.YtmnabhennibddaaGD22
import Derived.Test.YtmnabhennibddaaGD02
set_option linter.unusedSimpArgs false
set_option linter.unusedVariables false
namespace Go.Proofs.Ytmnabhennibddaa
open Go.RowKit
attribute [local go_sem] max2_mx max_2

theorem own_ne {w : World} {base : Nat} {v : Value} {n : Nat} {xs : List Value} {q : Nat} {c : Array Value} {t : TypeId} {mk : Nat × Nat} (h : w.ownsRow base 5 1 v n xs) (hq : w.heap[q]? = some (.cells c t mk)) (ht : t ≠ 5) : v.ownBlock ≠ some q := by
  rcases h.2 with ⟨hv, _⟩ | ⟨g, cap, cur, hv, _, hg, _⟩
  · rw [hv]; intro e; cases e
  · rw [hv]
    intro e
    have : g = q := by injection e
    subst this
    rw [hq] at hg
    injection hg with h1
    injection h1 with _ h2 _
    exact ht h2
/-- The two boxes that Attrs' closure writes: what has been put, and what was told. -/
structure PS (w0 w : World) (q5 q6 : Nat) (L : List Nat) (e : Int) : Prop where
  bel : Below w0.heap.size w0 w
  out : ∃ v, w.heap[q5]? = some (.cells #[v] 22 (0, 0)) ∧ w.ownsRow w0.heap.size 5 1 v L.length (bv L)
  err : w.heap[q6]? = some (.cells #[.int .i64 e] 24 (0, 0))
  lo5 : w0.heap.size ≤ q5
  lo6 : w0.heap.size ≤ q6
  ne : q5 ≠ q6
theorem PS.below {w0 w w' : World} {q5 q6 : Nat} {L : List Nat} {e : Int} (h : PS w0 w q5 q6 L e) (hb : Below w.heap.size w w') : PS w0 w' q5 q6 L e := by
  obtain ⟨h1, ⟨v, h2, h3⟩, h4, h5, h6, h7⟩ := h
  exact ⟨nx h1 hb, ⟨v, (hb.block _ (Array.getElem?_eq_some_iff.1 h2).1).trans h2, ownsRow_below h3 hb⟩, (hb.block _ (Array.getElem?_eq_some_iff.1 h4).1).trans h4, h5, h6, h7⟩
/-- What else lies there stays. -/
def KeepX (w w' : World) (q5 q6 : Nat) : Prop := ∀ q c t mk, q ≠ q5 → q ≠ q6 → t ≠ 5 → w.heap[q]? = some (.cells c t mk) → w'.heap[q]? = some (.cells c t mk)

set_option maxHeartbeats 8000000 in
set_option maxRecDepth 100000 in
theorem put_any {w0 w : World} {q5 q6 : Nat} {L m : List Nat} {e f : Int} {A : Option Addr} {n c : Nat} (h : PS w0 w q5 q6 L e) (hm : BS w A n c m) (hl : L.length + m.length ≤ 140737488355328) :
    Calls Try.prog 47 #[.slice A n c, .int .i64 f, .pointer (some ⟨q5, 0, none⟩), .pointer (some ⟨q6, 0, none⟩)] w fun r w' => r = .returned (.tuple #[]) ∧ PS w0 w' q5 q6 (L ++ m) (mxI e f) ∧ KeepX w w' q5 q6 := by
  obtain ⟨hb, ⟨v, h5, ho⟩, h6, l5, l6, hne⟩ := h
  have c5 := cell_of h5 0
  have c6 := cell_of h6 0
  have f5 := frozen_of h5 0
  simp at c5 c6
  have n5 := own_ne ho h5 (by decide)
  have n6 := own_ne ho h6 (by decide)
  have HO := Lib.hid ho
  have HM := Lib.hid hm
  have HBW := Lib.hid hb
  have H5 := Lib.hid h5
  have H6 := Lib.hid h6
  have N5 := Lib.hid n5
  have N6 := Lib.hid n6
  clear ho hm hb h5 h6 n5 n6
  go_enter Try.func47, Try.ntmps47
  go_wp2_with (at_builtin; refine append_bytes rfl (.tmp 6) (.tmp 7) rfl w0.heap.size v L m rfl HO.out A _ c rfl HM.out hl HBW.out.size ?_; intro v' w1 ho1 hg1 hv1; have H51 := (hg1.block q5 (Array.getElem?_eq_some_iff.1 H5.out).1 (fun e => N5.out e.symm)).trans H5.out; have H61 := (hg1.block q6 (Array.getElem?_eq_some_iff.1 H6.out).1 (fun e => N6.out e.symm)).trans H6.out; have d5 := cell_of H51 0; have d6 := cell_of H61 0; have e5 := frozen_of H51 0; have e6 := frozen_of H61 0; simp at d5 d6; obtain ⟨A4, n4, c4, rfl, _⟩ : ∃ A4 n4 c4, v' = .slice A4 n4 c4 ∧ True := (by rcases ho1.2 with ⟨h, _⟩ | ⟨g', cap, cur, h, _⟩ <;> exact ⟨_, _, _, h, trivial⟩))
  go_end0
  have m5 := own_ne ho1 H51 (by decide)
  have m6 := own_ne ho1 H61 (by decide)
  have hbb := HBW.out.grown hg1 HBW.out.size (own_block HO.out)
  have g5 : (w1.setCell ⟨q5, 0, none⟩ (.slice A4 n4 c4)).heap[q5]? = some (.cells #[.slice A4 n4 c4] 22 (0, 0)) := heap_set H51 0 _
  have g6 : (w1.setCell ⟨q5, 0, none⟩ (.slice A4 n4 c4)).heap[q6]? = some (.cells #[.int .i64 e] 24 (0, 0)) := (Below.heap_setCell w1 ⟨q5, 0, none⟩ _ q6 (fun h => hne h.symm)).trans H61
  refine ⟨rfl, ⟨(hbb.setCell (p := ⟨q5, 0, none⟩) l5 _).setCell (p := ⟨q6, 0, none⟩) l6 _, ⟨.slice A4 n4 c4, (Below.heap_setCell _ ⟨q6, 0, none⟩ _ q5 hne).trans g5,
    ownsRow_setCell_other (ownsRow_setCell_other ho1 (a := ⟨q5, 0, none⟩) m5 _) (a := ⟨q6, 0, none⟩) m6 _⟩, heap_set g6 0 _, l5, l6, hne⟩, ?_⟩
  intro q cc t mk h1 h2 ht hq
  have h3 := (hg1.block q (Array.getElem?_eq_some_iff.1 hq).1 (fun e => own_ne HO.out hq ht e.symm)).trans hq
  exact (Below.heap_setCell _ ⟨q6, 0, none⟩ _ q h2).trans ((Below.heap_setCell w1 ⟨q5, 0, none⟩ _ q h1).trans h3)
end Go.Proofs.Ytmnabhennibddaa
