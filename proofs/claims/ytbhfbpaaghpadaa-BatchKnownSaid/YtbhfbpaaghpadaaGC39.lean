/- A list of attributes as an argument of a row. No conditions. -/
import Derived.Test.YtbhfbpaaghpadaaGC38
import Derived.Test.YtbhfbpaaghpadaaGC11
set_option linter.unusedSimpArgs false
set_option linter.unusedVariables false
namespace Go.Proofs.Ytbhfbpaaghpadaa
open Go.RowKit Go.ChangeShapes Go.WideShapes Go.ChangeAt

theorem list_choose {α β : Type} {f : α → β} {G : α → Prop} : ∀ {ys : List β}, (∀ y ∈ ys, ∃ a, y = f a ∧ G a) → ∃ l : List α, ys = l.map f ∧ ∀ a ∈ l, G a
  | [], _ => ⟨[], rfl, by intro a h; cases h⟩
  | y :: ys, h => by
    obtain ⟨a, rfl, ha⟩ := h y (by simp)
    obtain ⟨l, rfl, hl⟩ := list_choose (ys := ys) (fun z hz => h z (List.mem_cons_of_mem _ hz))
    exact ⟨a :: l, rfl, fun b hb => by
      rcases List.mem_cons.1 hb with rfl | hb
      · exact ha
      · exact hl b hb⟩
theorem acs_flat (l : List Att) : acs l = (l.map Att.cells).flatten := by
  induction l with
  | nil => rfl
  | cons a l ih => rw [acs, ih]; rfl

/-- What a row tells of an attribute. -/
def AttOk (a : Att) : Prop := a.name.size ≤ 140737488351232 ∧ I64 a.lab.l ∧ a.lab.p < 4294967296 ∧ I64 a.val.k ∧ I64 a.val.n ∧ a.val.b.size ≤ 140737488351232

def LabR : List Value → Prop := FldS [(1, IntS .i64), (1, IntS .u32)]
def ValR : List Value → Prop := FldS [(1, IntS .i64), (1, IntS .i64), (1, StrS)]
def AttR : List Value → Prop := FldS [(1, StrS), (2, LabR), (3, ValR)]

theorem att_of {cs : List Value} (h : AttR cs) : ∃ a : Att, cs = a.cells ∧ AttOk a := by
  obtain ⟨_, _, rfl, _, ⟨s, rfl, hs⟩, _, _, rfl, _, ⟨_, _, rfl, _, ⟨l, rfl, hl⟩, _, _, rfl, _, ⟨p, rfl, hp⟩, rfl⟩, _, _, rfl, _, ⟨_, _, rfl, _, ⟨k, rfl, hk⟩, _, _, rfl, _, ⟨n, rfl, hn⟩, _, _, rfl, _, ⟨b, rfl, hb⟩, rfl⟩, rfl⟩ := h
  obtain ⟨m, rfl, hm⟩ := row_u32 hp
  exact ⟨⟨s, ⟨l, m⟩, ⟨k, n, b⟩⟩, rfl, hs, i64_wf hl, hm, i64_wf hk, i64_wf hn, hb⟩

section
variable {H : Type} {enc : TypeId × Value → H} {W : World} {base : Nat} {spare : Nat → Bool} {held : Bool}
theorem rds_i64 : RdS enc Try.prog W base spare held 3 1 (IntS .i64) := rds_int Try.underlying3 (by kernel_rfl)
theorem rds_u32 : RdS enc Try.prog W base spare held 42 1 (IntS .u32) := rds_int Try.underlying42 (by kernel_rfl)
theorem rds_string : RdS enc Try.prog W base spare held 9 1 StrS := rds_str Try.underlying9 (by kernel_rfl)
theorem rds_label : RdS enc Try.prog W base spare held 44 2 LabR :=
  rds_struct [(3, 1, IntS .i64), (42, 1, IntS .u32)] Try.underlying44 (by kernel_rfl) rfl ⟨rfl, rfl, rfl, rfl, trivial⟩ (by
    intro t ht
    simp only [List.mem_cons, List.not_mem_nil, or_false] at ht
    rcases ht with rfl | rfl
    · exact rds_i64
    · exact rds_u32)
theorem rds_value : RdS enc Try.prog W base spare held 41 3 ValR :=
  rds_struct [(3, 1, IntS .i64), (3, 1, IntS .i64), (9, 1, StrS)] Try.underlying41 (by kernel_rfl) rfl ⟨rfl, rfl, rfl, rfl, rfl, rfl, trivial⟩ (by
    intro t ht
    simp only [List.mem_cons, List.not_mem_nil, or_false] at ht
    rcases ht with rfl | rfl | rfl
    · exact rds_i64
    · exact rds_i64
    · exact rds_string)
theorem rds_attr : RdS enc Try.prog W base spare held 46 6 AttR :=
  rds_struct [(9, 1, StrS), (44, 2, LabR), (41, 3, ValR)] Try.underlying46 (by kernel_rfl) rfl ⟨rfl, rfl, rfl, rfl, rfl, rfl, trivial⟩ (by
    intro t ht
    simp only [List.mem_cons, List.not_mem_nil, or_false] at ht
    rcases ht with rfl | rfl | rfl
    · exact rds_string
    · exact rds_label
    · exact rds_value)
def AttrsR (W : World) : List Value → Prop := SlcS W 6 64 AttR
theorem rds_attrs : RdS enc Try.prog W base spare held 30 1 (AttrsR W) :=
  rds_slice Try.underlying30 (by kernel_rfl) (by omega) (by kernel_rfl) rds_attr
theorem attrs_of {cs : List Value} (h : AttrsR W cs) : ∃ (A : Option Addr) (c : Nat) (l : List Att), cs = [.slice A l.length c] ∧ AS W A l.length c l ∧ (∀ a ∈ l, AttOk a) ∧ l.length * 64 ≤ 140737488351232 := by
  obtain ⟨A, c, ys, rfl, h1, h2, h3, h4, h5, _⟩ := h
  obtain ⟨l, rfl, hl⟩ := list_choose (f := Att.cells) (G := AttOk) (fun y hy => att_of (h4 y hy).2)
  rw [List.length_map] at h1 h5
  rw [← acs_flat] at h3
  exact ⟨A, c, l, by rw [List.length_map], ⟨rfl, h1, h2, h3, fun a ha => (hl a ha).2.2.1, by omega⟩, hl, h5⟩

/-- An argument's reading, and what its parts weigh. -/
theorem row_of {P : Program} {t : TypeId} {k j : Nat} {R : List Value → Prop} {v : Value} {d : DataW H} {ps : List MemPlace} {ts : List TypeId} {ds : List (DataW H)} (hr : RdS enc P W base spare held t k R)
    (hsz : (DataW.weightsEach P ts ds).all (· ≤ reachBytes) = true) (ht : ts[j]? = some t) (hd : ds[j]? = some d) (h : DataW.Trod enc P W base spare held t v d ps) : R v.cells.toList := by
  obtain ⟨fuel, hf⟩ := h
  refine hr.2 fuel _ _ hf (fun n hn => ?_)
  have := List.all_eq_true.1 hsz n (DataW.weights_mem_each ht hd n hn)
  simpa using this
theorem row_attrs {a : Option Addr} {len cap : Nat} {j : Nat} {d : DataW H} {ps : List MemPlace} {ts : List TypeId} {ds : List (DataW H)}
    (hsz : (DataW.weightsEach Try.prog ts ds).all (· ≤ reachBytes) = true) (ht : ts[j]? = some 30) (hd : ds[j]? = some d) (h : DataW.Trod enc Try.prog W base spare held 30 (.slice a len cap) d ps) :
    ∃ l : List Att, len = l.length ∧ AS W a l.length cap l ∧ (∀ x ∈ l, AttOk x) := by
  obtain ⟨A, c, l, e, h1, h2, _⟩ := attrs_of (row_of rds_attrs hsz ht hd h)
  simp [Value.cells] at e
  obtain ⟨rfl, rfl, rfl⟩ := e
  exact ⟨l, rfl, h1, h2⟩
end
end Go.Proofs.Ytbhfbpaaghpadaa
