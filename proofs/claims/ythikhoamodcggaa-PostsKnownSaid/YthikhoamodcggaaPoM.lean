/- Small sets of numbers: And, Or, But, Put, Cut, Has by membership. No conditions. -/
import Derived.Test.YthikhoamodcggaaPoN
set_option linter.unusedSimpArgs false
set_option linter.unusedVariables false
namespace Go.Proofs.Ythikhoamodcggaa
open Go.RowKit

/-- A list that may be, of numbers below 300. -/
def ST (w : World) (A : Option Addr) (n c : Nat) (l : List Int) : Prop := IL w A n c l ∧ Inc l ∧ ∀ x ∈ l, x < 300
/-- A new list of just such numbers, and no error. -/
def SetR (w w' : World) (e : Ending) (p : Int → Prop) : Prop := ∃ (A : Option Addr) (n c : Nat) (r : List Int), e = .returned (.tuple #[.slice A n c, .int .i64 0]) ∧ ST w' A n c r ∧ (∀ x, x ∈ r ↔ p x) ∧ Below w.heap.size w w'
theorem ST.below {w w' : World} {A : Option Addr} {n c : Nat} {l : List Int} (h : ST w A n c l) (hb : Below w.heap.size w w') : ST w' A n c l := ⟨h.1.below hb, h.2⟩
theorem ST.empty (w : World) : ST w none 0 0 [] := ⟨IL.empty w, inc_nil, by intro x hx; cases hx⟩
theorem inc_idx {l : List Int} (h : Inc l) : ∀ i, ∀ hi : i < l.length, (i : Int) ≤ l[i]
  | 0, hi => h.1 _ (List.getElem_mem hi)
  | i + 1, hi => by
    have h1 := inc_idx h i (by omega)
    have h2 : l[i]'(by omega) < l[i + 1] := inc_lt h (Nat.lt_succ_self i) hi
    have h3 : ((i + 1 : Nat) : Int) = (i : Int) + 1 := by omega
    show ((i + 1 : Nat) : Int) ≤ l[i + 1]
    omega
theorem inc_len {l : List Int} (h : Inc l) (N : Nat) (hN : ∀ x ∈ l, x < (N : Int)) : l.length ≤ N := by
  rcases Nat.eq_zero_or_pos l.length with h0 | h0
  · omega
  · have h1 := inc_idx h (l.length - 1) (by omega)
    have h2 := hN _ (List.getElem_mem (show l.length - 1 < l.length by omega))
    omega
theorem ST.small {w : World} {A : Option Addr} {n c : Nat} {l : List Int} (h : ST w A n c l) : l.length ≤ 300 := inc_len h.2.1 300 h.2.2
theorem ST.fits {l : List Int} (h : Inc l) (h2 : ∀ x ∈ l, x < 300) : Fit l := fun x hx => by
  have h1 := h.1 x hx
  have h3 := h2 x hx
  exact ⟨by omega, by omega⟩
theorem TwoI.set {w w' : World} {e : Ending} {q : List Int × Int} {p : Int → Prop} (h : TwoI w w' e q.1 q.2) (r : List Int) (hq : q = (r, 0)) (hi : Inc r) (hb : ∀ x ∈ r, x < 300) (hp : ∀ x, x ∈ r ↔ p x) : SetR w w' e p := by
  subst hq
  have hl := inc_len hi 300 hb
  obtain ⟨A, n, c, he, hI, _, hB⟩ := h.open (ST.fits hi hb) (by simp only; omega)
  exact ⟨A, n, c, r, he, ⟨hI, hi, hb⟩, hp, hB⟩
theorem LL.three {w : World} {A B C : Option Addr} {n c m d j e : Nat} {l k i' : List Int} (h : IL w A n c l) (h2 : IL w B m d k) (h3 : IL w C j e i') (t : TypeId) : LL (w.alloc (.cells #[.slice A n c, .slice B m d, .slice C j e] t)) (some ⟨w.heap.size, 0, none⟩) 3 3 [l, k, i'] := by
  refine ⟨rfl, Nat.le_refl _, (by intro h; cases h), fun i hi => ?_, by simp⟩
  have hi2 : i < 3 := by simpa using hi
  match i, hi2 with
  | 0, _ => exact ⟨_, _, A, n, c, rfl, by rw [World.cell?_alloc_mark]; simp, h.below ((bel0 w).alloc (Nat.le_refl _) _)⟩
  | 1, _ => exact ⟨_, _, B, m, d, rfl, by rw [World.cell?_alloc_mark]; simp, h2.below ((bel0 w).alloc (Nat.le_refl _) _)⟩
  | 2, _ => exact ⟨_, _, C, j, e, rfl, by rw [World.cell?_alloc_mark]; simp, h3.below ((bel0 w).alloc (Nat.le_refl _) _)⟩
theorem SetR.alloc {w w' : World} {o : Obj} {e : Ending} {p : Int → Prop} (h : SetR (w.alloc o) w' e p) : SetR w w' e p := by
  obtain ⟨A, n, c, r, he, hs, hp, hb⟩ := h
  exact ⟨A, n, c, r, he, hs, hp, nx ((bel0 w).alloc (Nat.le_refl _) _) hb⟩

theorem and_set {A : Option Addr} {n c : Nat} {l : List Int} {ls : List (List Int)} {w : World} (h : LL w A n c (l :: ls)) (hi : ∀ k ∈ l :: ls, Inc k) (hb : ∀ x ∈ l, x < 300) (p : Int → Prop) (hp : ∀ x, p x ↔ ∀ k ∈ l :: ls, x ∈ k) :
    Calls Try.prog 11 #[.slice A n c] w fun e w' => SetR w w' e p := by
  have ha : allI (l :: ls) = true := by
    unfold allI
    rw [List.all_eq_true]
    exact fun k hk => decide_eq_true (hi k hk)
  refine (And_any h).mono fun e w' hT => hT.set (l.filter (fun y => restI (l :: ls) y)) (by unfold andP; rw [if_pos ha]) (inc_filter (hi l (by simp)) _) (fun x hx => hb x (List.mem_filter.1 hx).1) (fun x => ?_)
  rw [List.mem_filter, hp]
  unfold restI
  simp
theorem or_set {A : Option Addr} {n c : Nat} {ls : List (List Int)} {w : World} (h : LL w A n c ls) (hi : ∀ k ∈ ls, Inc k) (hb : ∀ k ∈ ls, ∀ x ∈ k, x < 300) (hl : ls.flatten.length ≤ 17592186044416) (p : Int → Prop) (hp : ∀ x, p x ↔ ∃ k ∈ ls, x ∈ k) :
    Calls Try.prog 13 #[.slice A n c] w fun e w' => SetR w w' e p := by
  have ha : allI ls = true := by
    unfold allI
    rw [List.all_eq_true]
    exact fun k hk => decide_eq_true (hi k hk)
  obtain ⟨ho1, ho2⟩ := orL_ok ha
  refine (Or_any h hl).mono fun e w' hT => hT.set (orL ls) (by unfold orP; rw [if_pos ha]) ho1 (fun x hx => ?_) (fun x => (ho2 x).trans (hp x).symm)
  obtain ⟨k, hk, hx⟩ := (ho2 x).1 hx
  exact hb k hk x hx
section
variable {A B C : Option Addr} {n c m d j e' : Nat} {a b l : List Int} {w : World}
theorem And2 (ha : ST w A n c a) (hb : ST w B m d b) : Calls Try.prog 11 #[.slice (some ⟨w.heap.size, 0, none⟩) 2 2] (w.alloc (.cells #[.slice A n c, .slice B m d] 23)) fun e w' => SetR w w' e (fun x => x ∈ a ∧ x ∈ b) :=
  (and_set (LL.two ha.1 hb.1 23) (by simp [ha.2.1, hb.2.1]) ha.2.2 (fun x => x ∈ a ∧ x ∈ b) (by simp)).mono fun _ _ h => h.alloc
theorem And3 (ha : ST w A n c a) (hb : ST w B m d b) (hc : ST w C j e' l) : Calls Try.prog 11 #[.slice (some ⟨w.heap.size, 0, none⟩) 3 3] (w.alloc (.cells #[.slice A n c, .slice B m d, .slice C j e'] 23)) fun e w' => SetR w w' e (fun x => x ∈ a ∧ x ∈ b ∧ x ∈ l) :=
  (and_set (LL.three ha.1 hb.1 hc.1 23) (by simp [ha.2.1, hb.2.1, hc.2.1]) ha.2.2 (fun x => x ∈ a ∧ x ∈ b ∧ x ∈ l) (by simp)).mono fun _ _ h => h.alloc
theorem Or2 (ha : ST w A n c a) (hb : ST w B m d b) : Calls Try.prog 13 #[.slice (some ⟨w.heap.size, 0, none⟩) 2 2] (w.alloc (.cells #[.slice A n c, .slice B m d] 23)) fun e w' => SetR w w' e (fun x => x ∈ a ∨ x ∈ b) :=
  (or_set (LL.two ha.1 hb.1 23) (by simp [ha.2.1, hb.2.1]) (by intro k hk; simp only [List.mem_cons, List.not_mem_nil, or_false] at hk; rcases hk with rfl | rfl <;> (first | exact ha.2.2 | exact hb.2.2)) (by have := ha.small; have := hb.small; simp; omega) (fun x => x ∈ a ∨ x ∈ b) (by simp)).mono fun _ _ h => h.alloc
theorem Or3 (ha : ST w A n c a) (hb : ST w B m d b) (hc : ST w C j e' l) : Calls Try.prog 13 #[.slice (some ⟨w.heap.size, 0, none⟩) 3 3] (w.alloc (.cells #[.slice A n c, .slice B m d, .slice C j e'] 23)) fun e w' => SetR w w' e (fun x => x ∈ a ∨ x ∈ b ∨ x ∈ l) :=
  (or_set (LL.three ha.1 hb.1 hc.1 23) (by simp [ha.2.1, hb.2.1, hc.2.1]) (by intro k hk; simp only [List.mem_cons, List.not_mem_nil, or_false] at hk; rcases hk with rfl | rfl | rfl <;> (first | exact ha.2.2 | exact hb.2.2 | exact hc.2.2)) (by have := ha.small; have := hb.small; have := hc.small; simp; omega) (fun x => x ∈ a ∨ x ∈ b ∨ x ∈ l) (by simp)).mono fun _ _ h => h.alloc
theorem But2 (ha : ST w A n c a) (hb : ST w B m d b) : Calls Try.prog 15 #[.slice A n c, .slice B m d] w fun e w' => SetR w w' e (fun x => x ∈ a ∧ ¬ x ∈ b) := by
  refine (But_any ha.1 hb.1).mono fun e w' hT => hT.set (a.filter (fun y => !decide (y ∈ b))) ?_ (inc_filter ha.2.1 _) (fun x hx => ha.2.2 x (List.mem_filter.1 hx).1) (by simp [List.mem_filter])
  unfold butP
  rw [if_pos (by simp [allI, ha.2.1, hb.2.1])]
theorem Put1 (ha : ST w A n c a) (x : Int) (h0 : 0 ≤ x) (h1 : x < 300) : Calls Try.prog 22 #[.slice A n c, .int .i64 x] w fun e w' => SetR w w' e (fun y => y = x ∨ y ∈ a) := by
  have hs := ha.small
  have hp : putP a x = (if x ∈ a then a else insI a x, 0) := by
    unfold putP
    rw [if_pos ha.2.1, if_neg (by omega)]
    split <;> rfl
  refine (Put_any x ⟨by omega, by omega⟩ ha.1 (by omega)).mono fun e w' hT => ?_
  by_cases hx : x ∈ a
  · exact hT.set a (by rw [hp, if_pos hx]) ha.2.1 ha.2.2 (fun y => ⟨.inr, fun h => h.elim (fun e => e ▸ hx) id⟩)
  · have hm : ∀ y, y ∈ insI a x ↔ y = x ∨ y ∈ a := fun y => (ins_mem ha.2.1 x y).trans Or.comm
    exact hT.set (insI a x) (by rw [hp, if_neg hx]) (ins_inc ha.2.1 h0 hx) (fun y hy => ((hm y).1 hy).elim (fun e => e ▸ h1) (ha.2.2 y)) hm
theorem Cut1 (ha : ST w A n c a) (x : Int) : Calls Try.prog 24 #[.slice A n c, .int .i64 x] w fun e w' => SetR w w' e (fun y => y ∈ a ∧ y ≠ x) := by
  refine (Cut_any x ha.1).mono fun e w' hT => hT.set (a.filter (fun y => y != x)) (by unfold cutP; rw [if_pos ha.2.1]) (inc_filter ha.2.1 _) (fun y hy => ha.2.2 y (List.mem_filter.1 hy).1) (by simp [List.mem_filter])
theorem Has1 (ha : ST w A n c a) (x : Int) : Calls Try.prog 29 #[.slice A n c, .int .i64 x] w fun e w' => e = .returned (.bool (decide (x ∈ a))) ∧ Below w.heap.size w w' := by
  have h := Has_any x ha.1
  rw [show decide (Inc a ∧ x ∈ a) = decide (x ∈ a) from by simp [ha.2.1]] at h
  exact h
theorem Check1 (ha : ST w A n c a) : Calls Try.prog 27 #[.slice A n c] w fun e w' => e = .returned (.int .i64 0) ∧ Below w.heap.size w w' := by
  have h := checkI_any ha.1
  rw [show chkI a = 0 from by unfold chkI; rw [if_pos ha.2.1]] at h
  exact h
theorem Eq1 (ha : ST w A n c a) (hb : ST w B m d b) (h : ∀ x, x ∈ a ↔ x ∈ b) : Calls Try.prog 17 #[.slice A n c, .slice B m d] w fun e w' => e = .returned (.bool true) ∧ Below w.heap.size w w' := by
  have h2 := eqInts_any A B n c m d a b w ha.1 hb.1
  rw [decide_eq_true (inc_ext ha.2.1 hb.2.1 h)] at h2
  exact h2
theorem near1 (h : IL w A n c l) : Calls Try.prog 19 #[.slice A n c] w fun e w' => ∃ (A : Option Addr) (n c : Nat) (L : List Int), e = .returned (.slice A n c) ∧ ST w' A n c L ∧ (∀ x ∈ L, x < 200) ∧ Below w.heap.size w w' :=
  (near_any h).mono fun e w' ⟨A, n, c, L, he, hI, hi, hb, _, hB⟩ => ⟨A, n, c, L, he, ⟨hI, hi, fun x hx => by have := hb x hx; omega⟩, hb, hB⟩
end
end Go.Proofs.Ythikhoamodcggaa
