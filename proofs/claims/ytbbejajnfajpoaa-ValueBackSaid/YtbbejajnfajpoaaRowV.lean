/- A value as an argument of a row. No conditions. -/
import Derived.Test.YtbbejajnfajpoaaRow
import Derived.Test.YtbbejajnfajpoaaVal
import Derived.ChangeSame
import Derived.WideShapes
set_option linter.unusedSimpArgs false
set_option linter.unusedVariables false
namespace Go.Proofs.Ytbbejajnfajpoaa
open Go.RowKit Go.ChangeShapes Go.WideShapes Go.ChangeAt

set_option maxRecDepth 100000 in
theorem trod_val {H : Type} {enc : TypeId × Value → H} {W : World} {base : Nat} {spare : Nat → Bool} {held : Bool} {fuel : Nat} {cs : List Value} {x : DataW H × List MemPlace}
    (h : DataW.trod enc Try.prog W base spare held fuel 58 cs = some x) :
    ∃ y : Val, cs = [.int .i64 y.k, .int .i64 y.n, .string y.b] ∧ (Lit.int .i64 y.k).wf = true ∧ (Lit.int .i64 y.n).wf = true ∧ y.b.size ≤ maxLen := by
  obtain ⟨xs, n, _, rfl, hl, hlen, hf⟩ := DataW.trod_struct Try.underlying58 h
  rw [show Try.prog.cellsOf 58 = 3 by kernel_rfl] at hl
  match xs, hlen with
  | [x0, x1, x2], _ =>
    match cs, hl with
    | [c0, c1, c2], _ =>
      have h0 : DataW.trod enc Try.prog W base spare held n 3 (([c0, c1, c2].drop 0).take (Try.prog.cellsOf 3)) = some x0 := hf 0 _ rfl
      have h1 : DataW.trod enc Try.prog W base spare held n 3 (([c0, c1, c2].drop 1).take (Try.prog.cellsOf 3)) = some x1 := hf 1 _ rfl
      have h2 : DataW.trod enc Try.prog W base spare held n 9 (([c0, c1, c2].drop 2).take (Try.prog.cellsOf 9)) = some x2 := hf 2 _ rfl
      rw [show Try.prog.cellsOf 3 = 1 by kernel_rfl] at h0 h1
      rw [show Try.prog.cellsOf 9 = 1 by kernel_rfl] at h2
      obtain ⟨k, e0, _, w0⟩ := DataW.trod_int Try.underlying3 h0
      obtain ⟨m, e1, _, w1⟩ := DataW.trod_int Try.underlying3 h1
      obtain ⟨b, e2, _, w2⟩ := DataW.trod_string Try.underlying9 h2
      have e0' : c0 = .int .i64 k := by simpa using e0
      have e1' : c1 = .int .i64 m := by simpa using e1
      have e2' : c2 = .string b := by simpa using e2
      exact ⟨⟨k, m, b⟩, by rw [e0', e1', e2'], w0, w1, w2⟩
set_option maxRecDepth 100000 in
theorem row_val {H : Type} {enc : TypeId × Value → H} {W : World} {r : Reach} {b0 base : Nat} {spare : Nat → Bool} {held : Bool} {v : Value} {d : DataW H} {ps : List MemPlace}
    (hok : Value.okWide Try.prog W r b0 58 v) (h : DataW.Trod enc Try.prog W base spare held 58 v d ps) :
    ∃ y : Val, v = y.v ∧ (I64 y.k ∧ I64 y.n) := by
  obtain ⟨cs, rfl, hsz⟩ := okWide_struct Try.underlying58 hok
  obtain ⟨fuel, hf⟩ := h
  obtain ⟨y, e, w0, w1, _⟩ := trod_val hf
  refine ⟨y, ?_, i64_wf w0, i64_wf w1⟩
  unfold Val.v
  congr 1
  apply Array.toList_inj.1
  exact e
end Go.Proofs.Ytbbejajnfajpoaa
