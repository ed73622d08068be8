/- Lists of numbers in order: plain words, laws on lists. No conditions. -/
import Derived.Test.YthikhoamodcggaaIL
set_option linter.unusedSimpArgs false
set_option linter.unusedVariables false
namespace Go.Proofs.Ythikhoamodcggaa
open Go.RowKit

/-- From 0 on, each above the one before it. -/
def Inc (l : List Int) : Prop := (∀ x ∈ l, 0 ≤ x) ∧ l.Pairwise (· < ·)
instance (l : List Int) : Decidable (Inc l) := inferInstanceAs (Decidable (_ ∧ _))
def chkI (l : List Int) : Int := if Inc l then 0 else 2
theorem inc_nil : Inc [] := ⟨(by intro x hx; cases hx), List.Pairwise.nil⟩
theorem inc_take {l : List Int} (h : Inc l) (k : Nat) : Inc (l.take k) := ⟨fun x hx => h.1 x (List.mem_of_mem_take hx), h.2.sublist (List.take_sublist k l)⟩
theorem inc_drop {l : List Int} (h : Inc l) (k : Nat) : Inc (l.drop k) := ⟨fun x hx => h.1 x (List.mem_of_mem_drop hx), h.2.sublist (List.drop_sublist k l)⟩
theorem inc_filter {l : List Int} (h : Inc l) (p : Int → Bool) : Inc (l.filter p) := ⟨fun x hx => h.1 x (List.mem_filter.1 hx).1, h.2.sublist List.filter_sublist⟩
theorem inc_lt {l : List Int} (h : Inc l) {i j : Nat} (hij : i < j) (hj : j < l.length) : l[i]'(by omega) < l[j] := List.pairwise_iff_getElem.1 h.2 i j (by omega) hj hij
theorem inc_no1 {l : List Int} {k : Nat} (hk : k < l.length) (h : l[k] < 0) : ¬ Inc l := fun hi => by have := hi.1 _ (List.getElem_mem hk); omega
theorem inc_no2 {l : List Int} {k : Nat} (hk : k + 1 < l.length) (h : l[k + 1] ≤ l[k]'(by omega)) : ¬ Inc l := fun hi => by have h2 : l[k]'(by omega) < l[k + 1] := inc_lt hi (Nat.lt_succ_self k) hk; omega
theorem take_snocI (l : List Int) (k : Nat) (h : k < l.length) : l.take (k + 1) = l.take k ++ [l[k]] := by
  rw [List.take_succ_eq_append_getElem h]
theorem inc_snoc0 {l : List Int} (h : 0 < l.length) (h1 : 0 ≤ l[0]) : Inc (l.take 1) := by
  rw [take_snocI l 0 h]
  simp only [List.take_zero, List.nil_append]
  exact ⟨by intro x hx; simp only [List.mem_singleton] at hx; omega, List.pairwise_singleton _ _⟩
theorem inc_snoc {l : List Int} {k : Nat} (hk : k + 1 < l.length) (h : Inc (l.take (k + 1))) (h2 : l[k]'(by omega) < l[k + 1]) : Inc (l.take (k + 2)) := by
  have e := take_snocI l (k + 1) hk
  have hle : ∀ x ∈ l.take (k + 1), x ≤ l[k]'(by omega) := by
    intro x hx
    obtain ⟨i, hi, rfl⟩ := List.getElem_of_mem hx
    rw [List.getElem_take]
    rw [List.length_take] at hi
    rcases Nat.lt_or_ge i k with h3 | h3
    · have h4 := inc_lt h (i := i) (j := k) h3 (by rw [List.length_take]; omega)
      rw [List.getElem_take, List.getElem_take] at h4
      omega
    · have : i = k := by omega
      subst this
      exact Int.le_refl _
  have hk0 : 0 ≤ l[k]'(by omega) := h.1 _ (by rw [List.mem_take_iff_getElem]; exact ⟨k, by omega, rfl⟩)
  rw [e]
  refine ⟨fun x hx => ?_, ?_⟩
  · rcases List.mem_append.1 hx with h3 | h3
    · exact h.1 x h3
    · simp only [List.mem_singleton] at h3; omega
  · rw [List.pairwise_append]
    refine ⟨h.2, List.pairwise_singleton _ _, fun x hx y hy => ?_⟩
    simp only [List.mem_singleton] at hy
    have := hle x hx
    omega
theorem inc_le {l : List Int} (h : Inc l) : l.Pairwise (· ≤ ·) := h.2.imp (fun h => Int.le_of_lt h)
theorem inc_cons {x : Int} {l : List Int} (h : Inc (x :: l)) : 0 ≤ x ∧ (∀ y ∈ l, x < y) ∧ Inc l :=
  ⟨h.1 x (by simp), fun y hy => (List.pairwise_cons.1 h.2).1 y hy, fun y hy => h.1 y (by simp [hy]), (List.pairwise_cons.1 h.2).2⟩
theorem inc_mk {x : Int} {l : List Int} (h0 : 0 ≤ x) (h1 : ∀ y ∈ l, x < y) (h : Inc l) : Inc (x :: l) :=
  ⟨fun y hy => by rcases List.mem_cons.1 hy with rfl | hy; exact h0; exact h.1 y hy, List.pairwise_cons.2 ⟨h1, h.2⟩⟩
/-- Lists in order that have the same members are the same. -/
theorem inc_ext : ∀ {l m : List Int}, Inc l → Inc m → (∀ x, x ∈ l ↔ x ∈ m) → l = m
  | [], [], _, _, _ => rfl
  | [], y :: m, _, _, h => absurd ((h y).2 (by simp)) (by simp)
  | x :: l, [], _, _, h => absurd ((h x).1 (by simp)) (by simp)
  | x :: l, y :: m, h1, h2, h => by
    obtain ⟨_, a1, i1⟩ := inc_cons h1
    obtain ⟨_, a2, i2⟩ := inc_cons h2
    have hxy : x = y := by
      rcases List.mem_cons.1 ((h x).1 (by simp)) with e | e
      · exact e
      · rcases List.mem_cons.1 ((h y).2 (by simp)) with e' | e'
        · exact e'.symm
        · have := a2 x e; have := a1 y e'; omega
    subst hxy
    rw [inc_ext i1 i2 (fun z => ?_)]
    constructor
    · intro hz
      rcases List.mem_cons.1 ((h z).1 (by simp [hz])) with e | e
      · subst e; have := a1 z hz; omega
      · exact e
    · intro hz
      rcases List.mem_cons.1 ((h z).2 (by simp [hz])) with e | e
      · subst e; have := a2 z hz; omega
      · exact e

/-- What is in one of two: by turns. -/
def mrg : List Int → List Int → List Int
  | [], b => b
  | x :: a, [] => x :: a
  | x :: a, y :: b => if x < y then x :: mrg a (y :: b) else if x = y then y :: mrg a b else y :: mrg (x :: a) b
termination_by a b => a.length + b.length
theorem mrg_nil (a : List Int) : mrg a [] = a := by cases a <;> simp [mrg]
theorem nil_mrg (b : List Int) : mrg [] b = b := by simp [mrg]
theorem mrg_mem (a b : List Int) : ∀ z, z ∈ mrg a b ↔ z ∈ a ∨ z ∈ b := by
  induction a, b using mrg.induct with
  | case1 b => intro z; simp [mrg]
  | case2 x a => intro z; simp [mrg]
  | case3 x a y b h ih => intro z; rw [mrg, if_pos h, List.mem_cons, ih z]; simp only [List.mem_cons, or_assoc]
  | case4 x a b h ih =>
    intro z
    rw [mrg, if_neg h, if_pos rfl, List.mem_cons, ih z, List.mem_cons, List.mem_cons]
    constructor
    · rintro (h | h | h)
      · exact .inl (.inl h)
      · exact .inl (.inr h)
      · exact .inr (.inr h)
    · rintro ((h | h) | (h | h))
      · exact .inl h
      · exact .inr (.inl h)
      · exact .inl h
      · exact .inr (.inr h)
  | case5 x a y b h h2 ih =>
    intro z
    rw [mrg, if_neg h, if_neg h2, List.mem_cons, ih z, List.mem_cons, List.mem_cons]
    constructor
    · rintro (h | (h | h) | h)
      · exact .inr (.inl h)
      · exact .inl (.inl h)
      · exact .inl (.inr h)
      · exact .inr (.inr h)
    · rintro ((h | h) | (h | h))
      · exact .inr (.inl (.inl h))
      · exact .inr (.inl (.inr h))
      · exact .inl h
      · exact .inr (.inr h)
theorem mrg_inc (a b : List Int) : Inc a → Inc b → Inc (mrg a b) := by
  induction a, b using mrg.induct with
  | case1 b => intro _ h; simpa [mrg] using h
  | case2 x a => intro h _; simpa [mrg] using h
  | case3 x a y b h ih =>
    intro h1 h2
    obtain ⟨p1, q1, r1⟩ := inc_cons h1
    obtain ⟨p2, q2, r2⟩ := inc_cons h2
    rw [mrg, if_pos h]
    refine inc_mk p1 (fun z hz => ?_) (ih r1 h2)
    rcases (mrg_mem _ _ z).1 hz with hz | hz
    · exact q1 z hz
    · rcases List.mem_cons.1 hz with rfl | hz
      · exact h
      · have := q2 z hz; omega
  | case4 x a b h ih =>
    intro h1 h2
    obtain ⟨p1, q1, r1⟩ := inc_cons h1
    obtain ⟨p2, q2, r2⟩ := inc_cons h2
    rw [mrg, if_neg h, if_pos rfl]
    refine inc_mk p1 (fun z hz => ?_) (ih r1 r2)
    rcases (mrg_mem _ _ z).1 hz with hz | hz
    · exact q1 z hz
    · exact q2 z hz
  | case5 x a y b h h2 ih =>
    intro h1 h2'
    obtain ⟨p1, q1, r1⟩ := inc_cons h1
    obtain ⟨p2, q2, r2⟩ := inc_cons h2'
    rw [mrg, if_neg h, if_neg h2]
    refine inc_mk p2 (fun z hz => ?_) (ih h1 r2)
    rcases (mrg_mem _ _ z).1 hz with hz | hz
    · rcases List.mem_cons.1 hz with rfl | hz
      · omega
      · have := q1 z hz; omega
    · exact q2 z hz
theorem mrg_len (a b : List Int) : (mrg a b).length ≤ a.length + b.length := by
  induction a, b using mrg.induct with
  | case1 b => simp [mrg]
  | case2 x a => simp [mrg]
  | case3 x a y b h ih => rw [mrg, if_pos h]; simp only [List.length_cons] at *; omega
  | case4 x a b h ih => rw [mrg, if_neg h, if_pos rfl]; simp only [List.length_cons] at *; omega
  | case5 x a y b h h2 ih => rw [mrg, if_neg h, if_neg h2]; simp only [List.length_cons] at *; omega

/-- A number put in. -/
def putL (l : List Int) (n : Int) : List Int := if n ∈ l then l else l.takeWhile (· < n) ++ n :: l.dropWhile (· < n)
theorem countP_take {l : List Int} (h : Inc l) (n : Int) : l.take (l.countP (· < n)) = l.filter (· < n) ∧ l.drop (l.countP (· < n)) = l.filter (fun x => !decide (x < n)) := by
  induction l with
  | nil => simp
  | cons x l ih =>
    obtain ⟨h0, h1, h2⟩ := inc_cons h
    by_cases hx : x < n
    · have := ih h2
      simp [List.countP_cons, hx, this]
    · have hz : l.countP (· < n) = 0 := by
        rw [List.countP_eq_zero]
        intro y hy
        have := h1 y hy
        simp; omega
      have hf : l.filter (· < n) = [] := by
        rw [List.filter_eq_nil_iff]
        intro y hy
        have := h1 y hy
        simp; omega
      have hg : l.filter (fun x => !decide (x < n)) = l := by
        rw [List.filter_eq_self]
        intro y hy
        have := h1 y hy
        simp; omega
      simp [List.countP_cons, hx, hz, hf]
      simpa using hg.symm
end Go.Proofs.Ythikhoamodcggaa
