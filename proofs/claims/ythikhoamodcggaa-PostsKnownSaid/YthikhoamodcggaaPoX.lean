/- What the answers are like; a row of one's own that is overwritten. No conditions. -/
import Derived.Test.YthikhoamodcggaaPoP
import Derived.Test.YthikhoamodcggaaPoW
set_option linter.unusedSimpArgs false
set_option linter.unusedVariables false
namespace Go.Proofs.Ythikhoamodcggaa
open Go.RowKit

theorem putP_ok {l : List Int} {x : Int} (hf : Fit l) (hx : I64 x) : Fit (putP l x).1 ∧ (putP l x).1.length ≤ l.length + 1 := by
  unfold putP insI
  (repeat' split)
  · exact ⟨(by intro z hz; cases hz), by simp⟩
  · exact ⟨hf, by simp⟩
  · refine ⟨fun z hz => ?_, by simp only [List.length_append, List.length_cons, List.length_take, List.length_drop]; omega⟩
    rcases List.mem_append.1 hz with h | h
    · exact hf z (List.mem_of_mem_take h)
    · rcases List.mem_cons.1 h with rfl | h
      · exact hx
      · exact hf z (List.mem_of_mem_drop h)
  · exact ⟨(by intro z hz; cases hz), by simp⟩
theorem cutP_ok {l : List Int} {x : Int} (hf : Fit l) : Fit (cutP l x).1 ∧ (cutP l x).1.length ≤ l.length := by
  unfold cutP
  split
  · exact ⟨fit_filter hf _, List.length_filter_le _ _⟩
  · exact ⟨(by intro z hz; cases hz), by simp⟩
theorem butP_ok {l m : List Int} (hf : Fit l) : Fit (butP l m).1 ∧ (butP l m).1.length ≤ l.length := by
  unfold butP
  split
  · exact ⟨fit_filter hf _, List.length_filter_le _ _⟩
  · exact ⟨(by intro z hz; cases hz), by simp⟩
theorem pageP_ok {l : List Int} {x m : Int} (hf : Fit l) : Fit (pageP l x m).1 ∧ (pageP l x m).1.length ≤ l.length := by
  unfold pageP restP
  (repeat' split)
  · exact ⟨(by intro z hz; cases hz), by simp⟩
  · exact ⟨fun z hz => hf z (List.mem_of_mem_drop (List.mem_of_mem_take hz)), by simp only [List.length_take, List.length_drop]; omega⟩
  · exact ⟨fun z hz => hf z (List.mem_of_mem_drop hz), by simp only [List.length_drop]; omega⟩
  · exact ⟨(by intro z hz; cases hz), by simp⟩
/-- A row of numbers of one's own, whatever they are. -/
def Row0 (w : World) (base : Nat) (v : Value) (n : Nat) : Prop := ∃ xs : List Int, xs.length = n ∧ w.ownsRow base 3 1 v n (iv xs)
theorem Row0.of {w : World} {base : Nat} {v : Value} {l : List Int} {n : Nat} (h : w.ownsRow base 3 1 v l.length (iv l)) (hn : n = l.length) : Row0 w base v n := ⟨l, hn.symm, by rw [hn]; exact h⟩
theorem Row0.below {w w' : World} {base : Nat} {v : Value} {n : Nat} (h : Row0 w base v n) (hb : Below w.heap.size w w') : Row0 w' base v n := by
  obtain ⟨xs, h1, h2⟩ := h
  exact ⟨xs, h1, ownsRow_below h2 hb⟩
theorem Row0.cell {w : World} {base : Nat} {A : Option Addr} {n c : Nat} (h : Row0 w base (.slice A n c) n) {k : Nat} (hk : k < n) :
    ∃ g y, A = some ⟨g, 0, none⟩ ∧ base ≤ g ∧ g < w.heap.size ∧ w.cell? ⟨g, k, none⟩ = some (.int .i64 y) ∧ w.frozen? ⟨g, k, none⟩ = false := by
  obtain ⟨xs, h1, h2⟩ := h
  rcases h2.2 with ⟨hv, h0⟩ | ⟨g, cap, cur, hv, hb, hh, h3, _, h5, _⟩
  · omega
  · injection hv with e1 e2 e3
    refine ⟨g, xs[k]'(by omega), e1, hb, (Array.getElem?_eq_some_iff.1 hh).1, ?_, ?_⟩
    · subst e1 e3
      rw [h2.cellAt k (by omega)]
      simp [iv, show k < xs.length by omega]
    · subst e1 e3
      exact h2.frozenAt k
theorem Row0.store {w : World} {base : Nat} {g n c : Nat} (h : Row0 w base (.slice (some ⟨g, 0, none⟩) n c) n) (k : Nat) (x : Int) : Row0 (w.setCell ⟨g, k, none⟩ (.int .i64 x)) base (.slice (some ⟨g, 0, none⟩) n c) n := by
  obtain ⟨xs, h1, h2⟩ := h
  refine ⟨xs.set k x, by simpa using h1, ?_⟩
  have h3 := (h2.stored k (.int .i64 x)).1
  have e : iv (xs.set k x) = (iv xs).set k (.int .i64 x) := by unfold iv; rw [List.map_set]
  rw [e]
  exact h3
theorem Row0.apart {w : World} {base : Nat} {v : Value} {n : Nat} (h : Row0 w base v n) {g : Nat} (hg : g < base) (k : Nat) (x : Value) : Row0 (w.setCell ⟨g, k, none⟩ x) base v n := by
  obtain ⟨xs, h1, h2⟩ := h
  refine ⟨xs, h1, h2.kept (grown_setX w g k x) ?_⟩
  cases hv : v.ownBlock with
  | none => exact .inl rfl
  | some b =>
    right
    intro e
    injection e with e
    have := (h2.lt b hv).1
    omega
where
  grown_setX (w : World) (g i : Nat) (v : Value) : w.grownBy (w.setCell ⟨g, i, none⟩ v) (some g) :=
    ⟨rfl, rfl, rfl, by simp [World.setCell], fun k hk hne => Below.heap_setCell _ _ _ _ (fun e => hne (by rw [e]))⟩
end Go.Proofs.Ythikhoamodcggaa
