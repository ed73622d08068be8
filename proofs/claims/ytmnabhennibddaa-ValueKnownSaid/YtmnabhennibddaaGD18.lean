/- How two values stand: the order in plain words. No conditions. -/
import Derived.Test.YtmnabhennibddaaGD05
import Derived.Test.YtmnabhennibddaaGD09
import Derived.Laws.Strings
import Derived.Lib.Bytealg
import Derived.Lib.Small
set_option linter.unusedSimpArgs false
set_option linter.unusedVariables false
namespace Go.Proofs.Ytmnabhennibddaa
open Go.RowKit

theorem u8_eq {a b : UInt8} (h1 : ¬ a < b) (h2 : ¬ b < a) : a = b := by
  rw [UInt8.lt_iff_toNat_lt] at h1 h2
  exact UInt8.toNat_inj.1 (by omega)
theorem cb_range (x y : List UInt8) : Lib.compareBytes x y = -1 ∨ Lib.compareBytes x y = 0 ∨ Lib.compareBytes x y = 1 := by
  induction x generalizing y with
  | nil => cases y <;> simp [Lib.compareBytes]
  | cons a x ih =>
    cases y with
    | nil => simp [Lib.compareBytes]
    | cons b y =>
      unfold Lib.compareBytes
      split
      · exact .inl rfl
      · split
        · exact .inr (.inr rfl)
        · exact ih y
theorem cb_zero (x y : List UInt8) : Lib.compareBytes x y = 0 ↔ x = y := by
  induction x generalizing y with
  | nil => cases y <;> simp [Lib.compareBytes]
  | cons a x ih =>
    cases y with
    | nil => simp [Lib.compareBytes]
    | cons b y =>
      unfold Lib.compareBytes
      split
      · rename_i h
        constructor
        · intro e; simp at e
        · intro e; injection e with e1 _; subst e1; rw [UInt8.lt_iff_toNat_lt] at h; omega
      · split
        · rename_i h
          constructor
          · intro e; simp at e
          · intro e; injection e with e1 _; subst e1; rw [UInt8.lt_iff_toNat_lt] at h; omega
        · rename_i h1 h2
          rw [ih y, u8_eq h1 h2]; simp
theorem cb_swap (x y : List UInt8) : Lib.compareBytes y x = - Lib.compareBytes x y := by
  induction x generalizing y with
  | nil => cases y <;> simp [Lib.compareBytes]
  | cons a x ih =>
    cases y with
    | nil => simp [Lib.compareBytes]
    | cons b y =>
      unfold Lib.compareBytes
      by_cases h1 : a < b
      · have h2 : ¬ b < a := by rw [UInt8.lt_iff_toNat_lt] at h1 ⊢; omega
        rw [if_neg h2, if_pos h1, if_pos h1]; rfl
      · by_cases h2 : b < a
        · rw [if_pos h2, if_neg h1, if_pos h2]
        · rw [if_neg h2, if_neg h1, if_neg h1, if_neg h2]; exact ih y
theorem cb_trans (x y z : List UInt8) (h1 : Lib.compareBytes x y ≤ 0) (h2 : Lib.compareBytes y z ≤ 0) :
    Lib.compareBytes x z ≤ 0 ∧ (Lib.compareBytes x y < 0 ∨ Lib.compareBytes y z < 0 → Lib.compareBytes x z < 0) := by
  induction x generalizing y z with
  | nil =>
    cases z with
    | nil => cases y <;> simp [Lib.compareBytes] at *
    | cons c z => simp [Lib.compareBytes]
  | cons a x ih =>
    cases y with
    | nil => simp [Lib.compareBytes] at h1
    | cons b y =>
      cases z with
      | nil => simp [Lib.compareBytes] at h2
      | cons c z =>
        unfold Lib.compareBytes at h1 h2 ⊢
        by_cases hab : a < b
        · by_cases hbc : b < c
          · have hac : a < c := by rw [UInt8.lt_iff_toNat_lt] at *; omega
            rw [if_pos hac]; simp
          · rw [if_neg hbc] at h2
            by_cases hcb : c < b
            · rw [if_pos hcb] at h2; simp at h2
            · have e := u8_eq hbc hcb
              subst e
              rw [if_pos hab]; simp
        · rw [if_neg hab] at h1
          by_cases hba : b < a
          · rw [if_pos hba] at h1; simp at h1
          · rw [if_neg hba] at h1
            have e := u8_eq hab hba
            subst e
            by_cases hac : a < c
            · rw [if_pos hac]; simp
            · rw [if_neg hac] at h2 ⊢
              by_cases hca : c < a
              · rw [if_pos hca] at h2; simp at h2
              · rw [if_neg hca] at h2 ⊢
                have := ih y z h1 h2
                rw [if_neg (show ¬ a < a by rw [UInt8.lt_iff_toNat_lt]; omega), if_neg (show ¬ a < a by rw [UInt8.lt_iff_toNat_lt]; omega), if_neg hac, if_neg hca]
                exact this
theorem less_cb (x y : List UInt8) : Op.bytesLess x y = decide (Lib.compareBytes x y = -1) := by
  induction x generalizing y with
  | nil => cases y <;> simp [Lib.compareBytes, Op.bytesLess]
  | cons a x ih =>
    cases y with
    | nil => simp [Lib.compareBytes, Op.bytesLess]
    | cons b y =>
      unfold Lib.compareBytes Op.bytesLess
      by_cases h1 : a < b
      · simp [h1]
      · by_cases h2 : b < a
        · simp [h1, h2]
          intro e
          subst e
          exact absurd h2 h1
        · have e := u8_eq h1 h2
          subst e
          simp [h1, ih y]

/-- How two values stand. -/
def cmpV (x y : Val) : Int :=
  if Lib.compareInt x.k y.k ≠ 0 then Lib.compareInt x.k y.k else if Lib.compareInt x.n y.n ≠ 0 then Lib.compareInt x.n y.n else Lib.compareBytes x.b.data.toList y.b.data.toList
theorem ci_range (x y : Int) : Lib.compareInt x y = -1 ∧ x < y ∨ Lib.compareInt x y = 0 ∧ x = y ∨ Lib.compareInt x y = 1 ∧ y < x := by
  unfold Lib.compareInt
  split
  · exact .inl ⟨rfl, by assumption⟩
  · split
    · exact .inr (.inr ⟨rfl, by omega⟩)
    · exact .inr (.inl ⟨rfl, by omega⟩)
theorem cmpV_range (x y : Val) : cmpV x y = -1 ∨ cmpV x y = 0 ∨ cmpV x y = 1 := by
  unfold cmpV
  have h1 := ci_range x.k y.k
  have h2 := ci_range x.n y.n
  have h3 := cb_range x.b.data.toList y.b.data.toList
  split
  · omega
  · split
    · omega
    · exact h3
theorem cmpV_swap (x y : Val) : cmpV y x = - cmpV x y := by
  unfold cmpV
  have h1 := ci_range x.k y.k
  have h2 := ci_range x.n y.n
  have h1' := ci_range y.k x.k
  have h2' := ci_range y.n x.n
  have h3 := cb_swap x.b.data.toList y.b.data.toList
  rw [h3]
  split <;> split <;> (try split) <;> (try split) <;> omega
theorem ba_ext {a b : ByteArray} (h : a.data.toList = b.data.toList) : a = b := by
  cases a; cases b
  simp only at h
  rw [Array.toList_inj.1 h]
theorem cmpV_zero (x y : Val) : cmpV x y = 0 ↔ x = y := by
  unfold cmpV
  have h1 := ci_range x.k y.k
  have h2 := ci_range x.n y.n
  constructor
  · intro h
    split at h
    · omega
    · split at h
      · omega
      · obtain ⟨k, n, b⟩ := x
        obtain ⟨k', n', b'⟩ := y
        simp only at *
        have e1 : k = k' := by omega
        have e2 : n = n' := by omega
        have e3 := ba_ext ((cb_zero _ _).1 h)
        subst e1 e2 e3
        rfl
  · intro h
    subst h
    rw [if_neg (by omega), if_neg (by omega)]
    exact (cb_zero _ _).2 rfl
theorem lexT {e f g p q r X Y Z : Int} (a : e = -1 ∧ X < Y ∨ e = 0 ∧ X = Y ∨ e = 1 ∧ Y < X) (b : f = -1 ∧ Y < Z ∨ f = 0 ∧ Y = Z ∨ f = 1 ∧ Z < Y) (c : g = -1 ∧ X < Z ∨ g = 0 ∧ X = Z ∨ g = 1 ∧ Z < X)
    (h : p ≤ 0 → q ≤ 0 → r ≤ 0 ∧ (p < 0 ∨ q < 0 → r < 0)) (hx : (if e ≠ 0 then e else p) ≤ 0) (hy : (if f ≠ 0 then f else q) ≤ 0) :
    (if g ≠ 0 then g else r) ≤ 0 ∧ ((if e ≠ 0 then e else p) < 0 ∨ (if f ≠ 0 then f else q) < 0 → (if g ≠ 0 then g else r) < 0) := by
  have n1 : ((-1 : Int) ≠ 0) := by decide
  have n2 : ((1 : Int) ≠ 0) := by decide
  have n3 : ¬ ((0 : Int) ≠ 0) := by decide
  rcases a with ⟨rfl, a⟩ | ⟨rfl, a⟩ | ⟨rfl, a⟩ <;> rcases b with ⟨rfl, b⟩ | ⟨rfl, b⟩ | ⟨rfl, b⟩ <;> rcases c with ⟨rfl, c⟩ | ⟨rfl, c⟩ | ⟨rfl, c⟩ <;>
    simp only [if_pos n1, if_pos n2, if_neg n3] at * <;> first
      | (exfalso; omega)
      | exact h hx hy
      | exact ⟨by omega, fun _ => by omega⟩
theorem cmpV_trans (x y z : Val) (hx : cmpV x y ≤ 0) (hy : cmpV y z ≤ 0) : cmpV x z ≤ 0 ∧ (cmpV x y < 0 ∨ cmpV y z < 0 → cmpV x z < 0) := by
  unfold cmpV at *
  exact lexT (ci_range x.k y.k) (ci_range y.k z.k) (ci_range x.k z.k) (fun h1 h2 => lexT (ci_range x.n y.n) (ci_range y.n z.n) (ci_range x.n z.n) (cb_trans x.b.data.toList y.b.data.toList z.b.data.toList) h1 h2) hx hy

end Go.Proofs.Ytmnabhennibddaa
