/- A batch, a list of spans as an argument of a row. No conditions. -/
import Derived.Test.YtbhfbpaaghpadaaGC39
import Derived.Test.YtbhfbpaaghpadaaGC23
import Derived.DataReads
set_option linter.unusedSimpArgs false
set_option linter.unusedVariables false
namespace Go.Proofs.Ytbhfbpaaghpadaa
open Go.RowKit Go.ChangeShapes Go.WideShapes Go.ChangeAt

/-- What a row tells of a span. -/
structure SpnOk (s : Spn) : Prop where
  tr : I64 s.tr
  id : I64 s.id
  pa : I64 s.pa
  sv : s.sv.size ≤ 140737488351232
  op : s.op.size ≤ 140737488351232
  st : I64 s.st
  ln : I64 s.ln
  sj : s.sj.size ≤ 140737488351232
  ats : ∀ a ∈ s.ats, AttOk a
  lim : s.ats.length * 64 ≤ 140737488351232

def SpnR (W : World) : List Value → Prop := FldS [(1, IntS .i64), (1, IntS .i64), (1, IntS .i64), (1, StrS), (1, StrS), (1, IntS .i64), (1, IntS .i64), (1, StrS), (1, AttrsR W)]

theorem spn_of {W : World} {cs : List Value} (h : SpnR W cs) : ∃ (s : Spn) (A : Option Addr) (c : Nat), cs = s.cells (.slice A s.ats.length c) ∧ SpnOk s ∧ AS W A s.ats.length c s.ats := by
  obtain ⟨_, _, rfl, _, ⟨tr, rfl, h1⟩, _, _, rfl, _, ⟨id, rfl, h2⟩, _, _, rfl, _, ⟨pa, rfl, h3⟩, _, _, rfl, _, ⟨sv, rfl, h4⟩, _, _, rfl, _, ⟨op, rfl, h5⟩, _, _, rfl, _, ⟨st, rfl, h6⟩, _, _, rfl, _, ⟨ln, rfl, h7⟩, _, _, rfl, _, ⟨sj, rfl, h8⟩, _, _, rfl, _, h9, rfl⟩ := h
  obtain ⟨A, c, l, rfl, hA, hl, hm⟩ := attrs_of h9
  exact ⟨⟨tr, id, pa, sv, op, st, ln, sj, l⟩, A, c, rfl, ⟨i64_wf h1, i64_wf h2, i64_wf h3, h4, h5, i64_wf h6, i64_wf h7, h8, hl, hm⟩, hA⟩

section
variable {H : Type} {enc : TypeId × Value → H} {W : World} {base : Nat} {spare : Nat → Bool} {held : Bool}
set_option maxRecDepth 100000 in
theorem rds_span : RdS enc Try.prog W base spare held 32 9 (SpnR W) :=
  rds_struct [(3, 1, IntS .i64), (3, 1, IntS .i64), (3, 1, IntS .i64), (9, 1, StrS), (9, 1, StrS), (3, 1, IntS .i64), (3, 1, IntS .i64), (9, 1, StrS), (30, 1, AttrsR W)] Try.underlying32 (by kernel_rfl) rfl ⟨rfl, rfl, rfl, rfl, rfl, rfl, rfl, rfl, rfl, rfl, rfl, rfl, rfl, rfl, rfl, rfl, rfl, rfl, trivial⟩ (by
    intro t ht
    simp only [List.mem_cons, List.not_mem_nil, or_false] at ht
    rcases ht with rfl | rfl | rfl | rfl | rfl | rfl | rfl | rfl | rfl
    · exact rds_i64
    · exact rds_i64
    · exact rds_i64
    · exact rds_string
    · exact rds_string
    · exact rds_i64
    · exact rds_i64
    · exact rds_string
    · exact rds_attrs)
def SpansR (W : World) : List Value → Prop := SlcS W 9 112 (SpnR W)
theorem rds_spans : RdS enc Try.prog W base spare held 22 1 (SpansR W) :=
  rds_slice Try.underlying22 (by kernel_rfl) (by omega) (by kernel_rfl) rds_span
theorem spans_choose : ∀ {ys : List (List Value)}, (∀ y ∈ ys, y.length = 9 ∧ SpnR W y) → ∃ l : List Spn, l.length = ys.length ∧ (∀ s ∈ l, SpnOk s) ∧ ∀ i (h : i < l.length) (h2 : i < ys.length), ∃ A c, ys[i] = l[i].cells (.slice A l[i].ats.length c) ∧ AS W A l[i].ats.length c l[i].ats
  | [], _ => ⟨[], rfl, (by intro s h; cases h), (by intro i h; cases h)⟩
  | y :: ys, h => by
    obtain ⟨s, A, c, e, ho, hA⟩ := spn_of (h y (by simp)).2
    obtain ⟨l, h1, h2, h3⟩ := spans_choose (ys := ys) (fun z hz => h z (List.mem_cons_of_mem _ hz))
    refine ⟨s :: l, by simp [h1], fun b hb => ?_, fun i hi hi2 => ?_⟩
    · rcases List.mem_cons.1 hb with rfl | hb
      · exact ho
      · exact h2 b hb
    · cases i with
      | zero => exact ⟨A, c, e, hA⟩
      | succ i => exact h3 i (by simpa using hi) (by simpa using hi2)
theorem flat9 : ∀ {ys : List (List Value)}, (∀ y ∈ ys, y.length = 9) → ∀ i (h : i < ys.length) j v, ys[i][j]? = some v → ys.flatten[i * 9 + j]? = some v ∧ i * 9 + j < ys.flatten.length
  | [], _, i, h, _, _, _ => absurd h (by simp)
  | y :: ys, hy, i, h, j, v, hv => by
    have hy9 := hy y (by simp)
    cases i with
    | zero =>
      simp only [List.getElem_cons_zero] at hv
      have hj : j < y.length := by
        rw [List.getElem?_eq_some_iff] at hv
        exact hv.1
      refine ⟨?_, by simp only [List.flatten_cons, List.length_append]; omega⟩
      rw [List.flatten_cons, Nat.zero_mul, Nat.zero_add, List.getElem?_append_left hj]
      exact hv
    | succ i =>
      obtain ⟨h1, h2⟩ := flat9 (ys := ys) (fun z hz => hy z (List.mem_cons_of_mem _ hz)) i (by simpa using h) j v (by simpa using hv)
      have e : (i + 1) * 9 + j = 9 + (i * 9 + j) := by omega
      refine ⟨?_, by simp only [List.flatten_cons, List.length_append]; omega⟩
      rw [List.flatten_cons, e, List.getElem?_append_right (by omega), hy9]
      rw [show 9 + (i * 9 + j) - 9 = i * 9 + j by omega]
      exact h1
theorem spans_of {cs : List Value} (h : SpansR W cs) : ∃ (A : Option Addr) (c : Nat) (l : List Spn), cs = [.slice A l.length c] ∧ LS W A l.length c l ∧ (∀ s ∈ l, SpnOk s) ∧ l.length * 112 ≤ 140737488351232 := by
  obtain ⟨A, c, ys, rfl, h1, h2, h3, h4, h5, h6⟩ := h
  obtain ⟨l, e1, e2, e3⟩ := spans_choose h4
  refine ⟨A, c, l, by rw [e1], ⟨rfl, by omega, h2, fun i hi => ?_, by omega⟩, e2, by omega⟩
  obtain ⟨B, d, e4, e5⟩ := e3 i hi (by omega)
  have hf := fun j v => flat9 (fun y hy => (h4 y hy).1) i (by omega) j v
  rw [e4] at hf
  obtain ⟨f0, f1⟩ := hf 0 _ rfl
  obtain ⟨ad, rfl, hc0⟩ := h3 0 (by omega)
  obtain ⟨b, o, sp⟩ := ad
  obtain rfl : sp = none := by simpa [Addr.add] using World.cell?_spot hc0
  refine ⟨b, o, B, l[i].ats.length, d, rfl, fun j v hj => ?_, e5⟩
  obtain ⟨g0, g1⟩ := hf j v hj
  obtain ⟨ad, e6, e7⟩ := h3 _ g1
  cases e6
  rw [addr_add] at e7
  rw [Nat.add_assoc, e7]
  rw [List.getElem?_eq_getElem g1] at g0
  exact g0

set_option maxRecDepth 100000 in
theorem rds_batch : RdS enc Try.prog W base spare held 24 3 (FldS [(1, IntS .i64), (1, IntS .i64), (1, SpansR W)]) :=
  rds_struct [(3, 1, IntS .i64), (3, 1, IntS .i64), (22, 1, SpansR W)] Try.underlying24 (by kernel_rfl) rfl ⟨rfl, rfl, rfl, rfl, rfl, rfl, trivial⟩ (by
    intro t ht
    simp only [List.mem_cons, List.not_mem_nil, or_false] at ht
    rcases ht with rfl | rfl | rfl
    · exact rds_i64
    · exact rds_i64
    · exact rds_spans)
set_option maxRecDepth 100000 in
theorem row_bat {r : Reach} {b0 j : Nat} {v : Value} {d : DataW H} {ps : List MemPlace} {ts : List TypeId} {ds : List (DataW H)} (hok : Value.okWide Try.prog W r b0 24 v)
    (hsz : (DataW.weightsEach Try.prog ts ds).all (· ≤ reachBytes) = true) (ht : ts[j]? = some 24) (hd : ds[j]? = some d) (h : DataW.Trod enc Try.prog W base spare held 24 v d ps) :
    ∃ (b : Bat) (A : Option Addr) (c : Nat), v = .agg #[.int .i64 b.ag, .int .i64 b.sq, .slice A b.sp.length c] ∧ I64 b.ag ∧ I64 b.sq ∧ LS W A b.sp.length c b.sp ∧ (∀ s ∈ b.sp, SpnOk s) ∧ b.sp.length * 112 ≤ 140737488351232 := by
  obtain ⟨cs, rfl, _⟩ := okWide_struct Try.underlying24 hok
  obtain ⟨_, _, e, _, ⟨ag, rfl, h1⟩, _, _, rfl, _, ⟨sq, rfl, h2⟩, _, _, rfl, _, h3, rfl⟩ := row_of rds_batch hsz ht hd h
  obtain ⟨A, c, l, rfl, hA, hl, hm⟩ := spans_of h3
  refine ⟨⟨ag, sq, l⟩, A, c, ?_, i64_wf h1, i64_wf h2, hA, hl, hm⟩
  congr 1
  apply Array.toList_inj.1
  simpa [Value.cells] using e
end
end Go.Proofs.Ytbhfbpaaghpadaa
