/- An answer as an argument of a row. No conditions. -/
import Derived.Test.YtfedgjahbmcpoaaGreatGA44
import Derived.Test.YtfedgjahbmcpoaaGreatGA34
set_option linter.unusedSimpArgs false
set_option linter.unusedVariables false
namespace Go.Proofs.YtfedgjahbmcpoaaGreat
open Go.RowKit Go.ChangeShapes Go.WideShapes Go.ChangeAt

/-- A list out of a row's slice, whatever the element. -/
theorem els_choose {α : Type} {R : RdE α} {W : World} {Q : List Value → Prop} {ok : α → Prop} (hQ : ∀ cs, Q cs → ∃ x, R.rd W x cs ∧ ok x) : ∀ {ys : List (List Value)}, (∀ y ∈ ys, Q y) → ∃ l : List α, l.length = ys.length ∧ (∀ x ∈ l, ok x) ∧ ∀ i (h : i < l.length) (h2 : i < ys.length), R.rd W l[i] ys[i]
  | [], _ => ⟨[], rfl, (by intro s h; cases h), (by intro i h; cases h)⟩
  | y :: ys, h => by
    obtain ⟨x, e, ho⟩ := hQ y (h y (by simp))
    obtain ⟨l, h1, h2, h3⟩ := els_choose hQ (ys := ys) (fun z hz => h z (List.mem_cons_of_mem _ hz))
    refine ⟨x :: l, by simp [h1], fun b hb => ?_, fun i hi hi2 => ?_⟩
    · rcases List.mem_cons.1 hb with rfl | hb
      · exact ho
      · exact h2 b hb
    · cases i with
      | zero => exact e
      | succ i => exact h3 i (by simpa using hi) (by simpa using hi2)
theorem el_of {α : Type} {R : RdE α} {W : World} {bytes : Nat} {Q : List Value → Prop} {ok : α → Prop} (hQ : ∀ cs, Q cs → ∃ x, R.rd W x cs ∧ ok x) (hb : 16 ≤ bytes) {cs : List Value} (h : SlcS W R.k bytes Q cs) :
    ∃ (A : Option Addr) (c : Nat) (l : List α), cs = [.slice A l.length c] ∧ EL R W A l.length c l ∧ (∀ x ∈ l, ok x) ∧ l.length * bytes ≤ 140737488351232 := by
  obtain ⟨A, c, ys, rfl, h1, h2, h3, h4, h5, h6⟩ := h
  obtain ⟨l, e1, e2, e3⟩ := els_choose hQ (fun y hy => (h4 y hy).2)
  have hm : ys.length * 16 ≤ ys.length * bytes := Nat.mul_le_mul_left _ hb
  exact ⟨A, c, l, by rw [e1], EL.ofLies (by omega) h2 h3 e1.symm e3 (by omega), e2, by rw [e1]; exact h5⟩

structure SenOk (s : Sen) : Prop where
  sp : SpnOk s.sp
  dp : I64 s.dp
def CelOk (c : Cel) : Prop := I64 c.at' ∧ I64 c.ct
def EdgOk (e : Edg) : Prop := e.fr.size ≤ 140737488351232 ∧ e.to'.size ≤ 140737488351232 ∧ I64 e.ct
structure AnsOk (a : Ans) : Prop where
  er : I64 a.er
  nx : I64 a.nx
  lf : I64 a.lf
  sn : ∀ s ∈ a.sn, SenOk s
  ce : ∀ s ∈ a.ce, CelOk s
  ed : ∀ s ∈ a.ed, EdgOk s

def SenR (W : World) : List Value → Prop := FldS [(9, SpnR W), (1, IntS .i64), (1, BoolS)]
def CelR : List Value → Prop := FldS [(1, IntS .i64), (1, IntS .i64)]
def EdgR : List Value → Prop := FldS [(1, StrS), (1, StrS), (1, IntS .i64)]
theorem sen_of {W : World} (cs : List Value) (h : SenR W cs) : ∃ s : Sen, snR.rd W s cs ∧ SenOk s := by
  obtain ⟨_, _, rfl, _, h1, _, _, rfl, _, ⟨dp, rfl, h2⟩, _, _, rfl, _, ⟨lo, rfl⟩, rfl⟩ := h
  obtain ⟨s, A, c, rfl, ho, hA⟩ := spn_of h1
  exact ⟨⟨s, dp, lo⟩, ⟨A, _, c, rfl, hA⟩, ⟨ho, i64_wf h2⟩⟩
theorem cel_of {W : World} (cs : List Value) (h : CelR cs) : ∃ s : Cel, ceR.rd W s cs ∧ CelOk s := by
  obtain ⟨_, _, rfl, _, ⟨x, rfl, h1⟩, _, _, rfl, _, ⟨y, rfl, h2⟩, rfl⟩ := h
  exact ⟨⟨x, y⟩, rfl, ⟨i64_wf h1, i64_wf h2⟩⟩
theorem edg_of {W : World} (cs : List Value) (h : EdgR cs) : ∃ s : Edg, edR.rd W s cs ∧ EdgOk s := by
  obtain ⟨_, _, rfl, _, ⟨x, rfl, h1⟩, _, _, rfl, _, ⟨y, rfl, h2⟩, _, _, rfl, _, ⟨z, rfl, h3⟩, rfl⟩ := h
  exact ⟨⟨x, y, z⟩, rfl, ⟨h1, h2, i64_wf h3⟩⟩

section
variable {H : Type} {enc : TypeId × Value → H} {W : World} {base : Nat} {spare : Nat → Bool} {held : Bool}
theorem rds_errno : RdS enc Tryz.prog W base spare held 24 1 (IntS .i64) := rds_int Tryz.underlying24 (by kernel_rfl)
theorem rds_boolT : RdS enc Tryz.prog W base spare held 4 1 BoolS := rds_bool Tryz.underlying4 (by kernel_rfl)
set_option maxRecDepth 100000 in
theorem rds_seen : RdS enc Tryz.prog W base spare held 50 11 (SenR W) :=
  rds_struct [(48, 9, SpnR W), (3, 1, IntS .i64), (4, 1, BoolS)] Tryz.underlying50 (by kernel_rfl) rfl ⟨rfl, rfl, rfl, rfl, rfl, rfl, trivial⟩ (by
    intro t ht
    simp only [List.mem_cons, List.not_mem_nil, or_false] at ht
    rcases ht with rfl | rfl | rfl
    · exact rds_span
    · exact rds_i64
    · exact rds_boolT)
set_option maxRecDepth 100000 in
theorem rds_cell : RdS enc Tryz.prog W base spare held 54 2 CelR :=
  rds_struct [(3, 1, IntS .i64), (3, 1, IntS .i64)] Tryz.underlying54 (by kernel_rfl) rfl ⟨rfl, rfl, rfl, rfl, trivial⟩ (by
    intro t ht
    simp only [List.mem_cons, List.not_mem_nil, or_false] at ht
    rcases ht with rfl | rfl
    · exact rds_i64
    · exact rds_i64)
set_option maxRecDepth 100000 in
theorem rds_edge : RdS enc Tryz.prog W base spare held 58 3 EdgR :=
  rds_struct [(9, 1, StrS), (9, 1, StrS), (3, 1, IntS .i64)] Tryz.underlying58 (by kernel_rfl) rfl ⟨rfl, rfl, rfl, rfl, rfl, rfl, trivial⟩ (by
    intro t ht
    simp only [List.mem_cons, List.not_mem_nil, or_false] at ht
    rcases ht with rfl | rfl | rfl
    · exact rds_string
    · exact rds_string
    · exact rds_i64)
theorem rds_seens : RdS enc Tryz.prog W base spare held 25 1 (SlcS W 11 128 (SenR W)) :=
  rds_slice Tryz.underlying25 (by kernel_rfl) (by omega) (by kernel_rfl) rds_seen
theorem rds_cells : RdS enc Tryz.prog W base spare held 26 1 (SlcS W 2 16 CelR) :=
  rds_slice Tryz.underlying26 (by kernel_rfl) (by omega) (by kernel_rfl) rds_cell
theorem rds_edges : RdS enc Tryz.prog W base spare held 27 1 (SlcS W 3 40 EdgR) :=
  rds_slice Tryz.underlying27 (by kernel_rfl) (by omega) (by kernel_rfl) rds_edge
set_option maxRecDepth 100000 in
theorem rds_answer : RdS enc Tryz.prog W base spare held 29 6 (FldS [(1, IntS .i64), (1, SlcS W 11 128 (SenR W)), (1, IntS .i64), (1, SlcS W 2 16 CelR), (1, SlcS W 3 40 EdgR), (1, IntS .i64)]) :=
  rds_struct [(24, 1, IntS .i64), (25, 1, SlcS W 11 128 (SenR W)), (3, 1, IntS .i64), (26, 1, SlcS W 2 16 CelR), (27, 1, SlcS W 3 40 EdgR), (3, 1, IntS .i64)] Tryz.underlying29 (by kernel_rfl) rfl ⟨rfl, rfl, rfl, rfl, rfl, rfl, rfl, rfl, rfl, rfl, rfl, rfl, trivial⟩ (by
    intro t ht
    simp only [List.mem_cons, List.not_mem_nil, or_false] at ht
    rcases ht with rfl | rfl | rfl | rfl | rfl | rfl
    · exact rds_errno
    · exact rds_seens
    · exact rds_i64
    · exact rds_cells
    · exact rds_edges
    · exact rds_i64)
set_option maxRecDepth 100000 in
theorem row_ans {r : Reach} {b0 j : Nat} {v : Value} {d : DataW H} {ps : List MemPlace} {ts : List TypeId} {ds : List (DataW H)} (hok : Value.okWide Tryz.prog W r b0 29 v)
    (hsz : (DataW.weightsEach Tryz.prog ts ds).all (· ≤ reachBytes) = true) (ht : ts[j]? = some 29) (hd : ds[j]? = some d) (h : DataW.Trod enc Tryz.prog W base spare held 29 v d ps) :
    ∃ (a : Ans) (u x y : Value), v = anV a u x y ∧ AnL W a u x y ∧ AnsOk a := by
  obtain ⟨cs, rfl, _⟩ := okWide_struct Tryz.underlying29 hok
  obtain ⟨_, _, e, _, ⟨er, rfl, h1⟩, _, _, rfl, _, h2, _, _, rfl, _, ⟨nx, rfl, h3⟩, _, _, rfl, _, h4, _, _, rfl, _, h5, _, _, rfl, _, ⟨lf, rfl, h6⟩, rfl⟩ := row_of rds_answer hsz ht hd h
  obtain ⟨A, c, sn, rfl, e1, o1, _⟩ := el_of (R := snR) sen_of (by omega) h2
  obtain ⟨B, c2, ce, rfl, e2, o2, _⟩ := el_of (R := ceR) (W := W) cel_of (by omega) h4
  obtain ⟨D, c3, ed, rfl, e3, o3, _⟩ := el_of (R := edR) (W := W) edg_of (by omega) h5
  refine ⟨⟨er, sn, nx, ce, ed, lf⟩, _, _, _, ?_, ⟨⟨A, c, rfl, e1⟩, ⟨B, c2, rfl, e2⟩, ⟨D, c3, rfl, e3⟩⟩, ⟨i64_wf h1, i64_wf h3, i64_wf h6, o1, o2, o3⟩⟩
  unfold anV
  congr 1
  apply Array.toList_inj.1
  simpa [Value.cells] using e
end
end Go.Proofs.YtfedgjahbmcpoaaGreat
