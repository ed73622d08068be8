/- Values: what may be; the contracts of the two Checks. No conditions. -/
import Derived.Test.YtbbejajnfajpoaaStr
import Derived.Test.YtbbejajnfajpoaaShelf
import Derived.WalkMore
set_option linter.unusedSimpArgs false
set_option linter.unusedVariables false
namespace Go.Proofs.Ytbbejajnfajpoaa
open Go.RowKit

/-- A value. -/
structure Val where
  k : Int
  n : Int
  b : ByteArray
def Val.v (x : Val) : Value := .agg #[.int .i64 x.k, .int .i64 x.n, .string x.b]
/-- What Check answers. -/
def chkV (x : Val) : Int :=
  if (x.k = 1 ∧ -9007199254740991 ≤ x.n ∧ x.n ≤ 9007199254740991 ∧ x.b = ⟨#[]⟩) ∨ (x.k = 2 ∧ x.n = 0 ∧ x.b.size ≤ 64) ∨ (x.k = 3 ∧ (x.n = 0 ∨ x.n = 1) ∧ x.b = ⟨#[]⟩) then 0 else 80
theorem ne_empty {b : ByteArray} (h : ¬ b = ⟨#[]⟩) : b.toList.isEmpty = false := by
  cases e : b.toList with
  | nil =>
    refine absurd ?_ h
    have h1 : b.data.toList = [] := by rw [← ByteArray.toList_eq]; exact e
    cases b with
    | mk d =>
      simp only at h1
      rw [Array.toList_eq_nil_iff] at h1
      rw [h1]
  | cons a l => rfl
theorem chk_1 {n : Int} {b : ByteArray} : chkV ⟨1, n, b⟩ = if -9007199254740991 ≤ n ∧ n ≤ 9007199254740991 ∧ b = ⟨#[]⟩ then 0 else 80 := by
  unfold chkV; simp
theorem chk_2 {n : Int} {b : ByteArray} : chkV ⟨2, n, b⟩ = if n = 0 ∧ b.size ≤ 64 then 0 else 80 := by
  unfold chkV; simp
theorem chk_3 {n : Int} {b : ByteArray} : chkV ⟨3, n, b⟩ = if (n = 0 ∨ n = 1) ∧ b = ⟨#[]⟩ then 0 else 80 := by
  unfold chkV; simp
theorem chk_no {k n : Int} {b : ByteArray} (h1 : k ≠ 1) (h2 : k ≠ 2) (h3 : k ≠ 3) : chkV ⟨k, n, b⟩ = 80 := by
  unfold chkV; simp [h1, h2, h3]

set_option maxHeartbeats 4000000 in
set_option maxRecDepth 100000 in
theorem check_any (x : Val) (w : World) :
    Calls Try.prog 52 #[x.v] w fun e w' => e = .returned (.int .i64 (chkV x)) ∧ Below w.heap.size w w' := by
  obtain ⟨k, n, b⟩ := x
  unfold Val.v
  simp only
  have hb := (bel0 w).alloc (Nat.le_refl _) (.cells #[.int .i64 k, .int .i64 n, .string b] 58)
  have HB := Lib.hid hb
  clear hb
  obtain ⟨X, hX⟩ : ∃ X, X = chkV ⟨k, n, b⟩ := ⟨_, rfl⟩
  rw [← hX]
  have HX := Lib.hid hX
  clear hX
  by_cases h1 : k = 1
  · subst h1
    by_cases e : b = ⟨#[]⟩
    · subst e
      by_cases a1 : -9007199254740991 ≤ n
      · by_cases a2 : n ≤ 9007199254740991
        · have HX2 := Lib.hid (HX.out.trans (chk_1.trans (if_pos ⟨a1, a2, rfl⟩)))
          clear HX
          go_enter Try.func52, Try.ntmps52
          go_wp2
          go_ret
          rw [HX2.out]
          exact ⟨rfl, HB.out⟩
        · have HX2 := Lib.hid (HX.out.trans (chk_1.trans (if_neg (fun h => a2 h.2.1))))
          clear HX
          go_enter Try.func52, Try.ntmps52
          go_wp2
          go_ret
          rw [HX2.out]
          exact ⟨rfl, HB.out⟩
      · have HX2 := Lib.hid (HX.out.trans (chk_1.trans (if_neg (fun h => a1 h.1))))
        clear HX
        go_enter Try.func52, Try.ntmps52
        go_wp2
        go_ret
        rw [HX2.out]
        exact ⟨rfl, HB.out⟩
    · have e1 := ne_empty e
      by_cases a1 : -9007199254740991 ≤ n
      · by_cases a2 : n ≤ 9007199254740991
        · have HX2 := Lib.hid (HX.out.trans (chk_1.trans (if_neg (fun h => e h.2.2))))
          clear HX
          go_enter Try.func52, Try.ntmps52
          go_wp2
          go_ret
          rw [HX2.out]
          exact ⟨rfl, HB.out⟩
        · have HX2 := Lib.hid (HX.out.trans (chk_1.trans (if_neg (fun h => e h.2.2))))
          clear HX
          go_enter Try.func52, Try.ntmps52
          go_wp2
          go_ret
          rw [HX2.out]
          exact ⟨rfl, HB.out⟩
      · have HX2 := Lib.hid (HX.out.trans (chk_1.trans (if_neg (fun h => e h.2.2))))
        clear HX
        go_enter Try.func52, Try.ntmps52
        go_wp2
        go_ret
        rw [HX2.out]
        exact ⟨rfl, HB.out⟩
  · have q1 : (k == 1) = false := by simp; exact h1
    by_cases h2 : k = 2
    · subst h2
      by_cases a1 : n = 0
      · subst a1
        by_cases a2 : b.size ≤ 64
        · have a3 : (b.size : Int) ≤ 64 := by omega
          have HX2 := Lib.hid (HX.out.trans (chk_2.trans (if_pos ⟨rfl, a2⟩)))
          clear HX
          go_enter Try.func52, Try.ntmps52
          go_wp2
          go_ret
          rw [HX2.out]
          exact ⟨rfl, HB.out⟩
        · have a3 : ¬ (b.size : Int) ≤ 64 := by omega
          have HX2 := Lib.hid (HX.out.trans (chk_2.trans (if_neg (fun h => a2 h.2))))
          clear HX
          go_enter Try.func52, Try.ntmps52
          go_wp2
          go_ret
          rw [HX2.out]
          exact ⟨rfl, HB.out⟩
      · have a3 : (n == 0) = false := by simp; exact a1
        have HX2 := Lib.hid (HX.out.trans (chk_2.trans (if_neg (fun h => a1 h.1))))
        clear HX
        go_enter Try.func52, Try.ntmps52
        go_wp2
        go_ret
        rw [HX2.out]
        exact ⟨rfl, HB.out⟩
    · have q2 : (k == 2) = false := by simp; exact h2
      by_cases h3 : k = 3
      · subst h3
        by_cases e : b = ⟨#[]⟩
        · subst e
          by_cases a1 : n = 0
          · subst a1
            have HX2 := Lib.hid (HX.out.trans (chk_3.trans (if_pos ⟨(.inl rfl), rfl⟩)))
            clear HX
            go_enter Try.func52, Try.ntmps52
            go_wp2
            go_ret
            rw [HX2.out]
            exact ⟨rfl, HB.out⟩
          · have a3 : (n == 0) = false := by simp; exact a1
            by_cases a2 : n = 1
            · subst a2
              have HX2 := Lib.hid (HX.out.trans (chk_3.trans (if_pos ⟨(.inr rfl), rfl⟩)))
              clear HX
              go_enter Try.func52, Try.ntmps52
              go_wp2
              go_ret
              rw [HX2.out]
              exact ⟨rfl, HB.out⟩
            · have a4 : (n == 1) = false := by simp; exact a2
              have HX2 := Lib.hid (HX.out.trans (chk_3.trans (if_neg (fun h => by rcases h.1 with h | h; exact a1 h; exact a2 h))))
              clear HX
              go_enter Try.func52, Try.ntmps52
              go_wp2
              go_ret
              rw [HX2.out]
              exact ⟨rfl, HB.out⟩
        · have e1 := ne_empty e
          by_cases a1 : n = 0
          · subst a1
            have HX2 := Lib.hid (HX.out.trans (chk_3.trans (if_neg (fun h => e h.2))))
            clear HX
            go_enter Try.func52, Try.ntmps52
            go_wp2
            go_ret
            rw [HX2.out]
            exact ⟨rfl, HB.out⟩
          · have a3 : (n == 0) = false := by simp; exact a1
            by_cases a2 : n = 1
            · subst a2
              have HX2 := Lib.hid (HX.out.trans (chk_3.trans (if_neg (fun h => e h.2))))
              clear HX
              go_enter Try.func52, Try.ntmps52
              go_wp2
              go_ret
              rw [HX2.out]
              exact ⟨rfl, HB.out⟩
            · have a4 : (n == 1) = false := by simp; exact a2
              have HX2 := Lib.hid (HX.out.trans (chk_3.trans (if_neg (fun h => by rcases h.1 with h | h; exact a1 h; exact a2 h))))
              clear HX
              go_enter Try.func52, Try.ntmps52
              go_wp2
              go_ret
              rw [HX2.out]
              exact ⟨rfl, HB.out⟩
      · have q3 : (k == 3) = false := by simp; exact h3
        have HX2 := Lib.hid (HX.out.trans (chk_no h1 h2 h3))
        clear HX
        go_enter Try.func52, Try.ntmps52
        go_wp2
        go_ret
        rw [HX2.out]
        exact ⟨rfl, HB.out⟩

set_option maxHeartbeats 4000000 in
set_option maxRecDepth 100000 in
theorem refCheck_any (x : Val) (w : World) :
    Calls Try.prog 57 #[x.v] w fun e w' => e = .returned (.int .i64 (chkV x)) ∧ Below w.heap.size w w' := by
  obtain ⟨k, n, b⟩ := x
  unfold Val.v
  simp only
  have hb := (bel0 w).alloc (Nat.le_refl _) (.cells #[.int .i64 k, .int .i64 n, .string b] 58)
  have HB := Lib.hid hb
  clear hb
  obtain ⟨X, hX⟩ : ∃ X, X = chkV ⟨k, n, b⟩ := ⟨_, rfl⟩
  rw [← hX]
  have HX := Lib.hid hX
  clear hX
  by_cases h1 : k = 1
  · subst h1
    by_cases e : b = ⟨#[]⟩
    · subst e
      by_cases a1 : -9007199254740991 ≤ n
      · by_cases a2 : n ≤ 9007199254740991
        · have HX2 := Lib.hid (HX.out.trans (chk_1.trans (if_pos ⟨a1, a2, rfl⟩)))
          clear HX
          go_enter Try.func57, Try.ntmps57
          go_wp2
          go_ret
          rw [HX2.out]
          exact ⟨rfl, HB.out⟩
        · have HX2 := Lib.hid (HX.out.trans (chk_1.trans (if_neg (fun h => a2 h.2.1))))
          clear HX
          go_enter Try.func57, Try.ntmps57
          go_wp2
          go_ret
          rw [HX2.out]
          exact ⟨rfl, HB.out⟩
      · have HX2 := Lib.hid (HX.out.trans (chk_1.trans (if_neg (fun h => a1 h.1))))
        clear HX
        go_enter Try.func57, Try.ntmps57
        go_wp2
        go_ret
        rw [HX2.out]
        exact ⟨rfl, HB.out⟩
    · have e1 := ne_empty e
      by_cases a1 : -9007199254740991 ≤ n
      · by_cases a2 : n ≤ 9007199254740991
        · have HX2 := Lib.hid (HX.out.trans (chk_1.trans (if_neg (fun h => e h.2.2))))
          clear HX
          go_enter Try.func57, Try.ntmps57
          go_wp2
          go_ret
          rw [HX2.out]
          exact ⟨rfl, HB.out⟩
        · have HX2 := Lib.hid (HX.out.trans (chk_1.trans (if_neg (fun h => e h.2.2))))
          clear HX
          go_enter Try.func57, Try.ntmps57
          go_wp2
          go_ret
          rw [HX2.out]
          exact ⟨rfl, HB.out⟩
      · have HX2 := Lib.hid (HX.out.trans (chk_1.trans (if_neg (fun h => e h.2.2))))
        clear HX
        go_enter Try.func57, Try.ntmps57
        go_wp2
        go_ret
        rw [HX2.out]
        exact ⟨rfl, HB.out⟩
  · have q1 : (k == 1) = false := by simp; exact h1
    by_cases h2 : k = 2
    · subst h2
      by_cases a1 : n = 0
      · subst a1
        by_cases a2 : b.size ≤ 64
        · have a3 : (b.size : Int) ≤ 64 := by omega
          have HX2 := Lib.hid (HX.out.trans (chk_2.trans (if_pos ⟨rfl, a2⟩)))
          clear HX
          go_enter Try.func57, Try.ntmps57
          go_wp2
          go_ret
          rw [HX2.out]
          exact ⟨rfl, HB.out⟩
        · have a3 : ¬ (b.size : Int) ≤ 64 := by omega
          have HX2 := Lib.hid (HX.out.trans (chk_2.trans (if_neg (fun h => a2 h.2))))
          clear HX
          go_enter Try.func57, Try.ntmps57
          go_wp2
          go_ret
          rw [HX2.out]
          exact ⟨rfl, HB.out⟩
      · have a3 : (n == 0) = false := by simp; exact a1
        have HX2 := Lib.hid (HX.out.trans (chk_2.trans (if_neg (fun h => a1 h.1))))
        clear HX
        go_enter Try.func57, Try.ntmps57
        go_wp2
        go_ret
        rw [HX2.out]
        exact ⟨rfl, HB.out⟩
    · have q2 : (k == 2) = false := by simp; exact h2
      by_cases h3 : k = 3
      · subst h3
        by_cases e : b = ⟨#[]⟩
        · subst e
          by_cases a1 : n = 0
          · subst a1
            have HX2 := Lib.hid (HX.out.trans (chk_3.trans (if_pos ⟨(.inl rfl), rfl⟩)))
            clear HX
            go_enter Try.func57, Try.ntmps57
            go_wp2
            go_ret
            rw [HX2.out]
            exact ⟨rfl, HB.out⟩
          · have a3 : (n == 0) = false := by simp; exact a1
            by_cases a2 : n = 1
            · subst a2
              have HX2 := Lib.hid (HX.out.trans (chk_3.trans (if_pos ⟨(.inr rfl), rfl⟩)))
              clear HX
              go_enter Try.func57, Try.ntmps57
              go_wp2
              go_ret
              rw [HX2.out]
              exact ⟨rfl, HB.out⟩
            · have a4 : (n == 1) = false := by simp; exact a2
              have HX2 := Lib.hid (HX.out.trans (chk_3.trans (if_neg (fun h => by rcases h.1 with h | h; exact a1 h; exact a2 h))))
              clear HX
              go_enter Try.func57, Try.ntmps57
              go_wp2
              go_ret
              rw [HX2.out]
              exact ⟨rfl, HB.out⟩
        · have e1 := ne_empty e
          by_cases a1 : n = 0
          · subst a1
            have HX2 := Lib.hid (HX.out.trans (chk_3.trans (if_neg (fun h => e h.2))))
            clear HX
            go_enter Try.func57, Try.ntmps57
            go_wp2
            go_ret
            rw [HX2.out]
            exact ⟨rfl, HB.out⟩
          · have a3 : (n == 0) = false := by simp; exact a1
            by_cases a2 : n = 1
            · subst a2
              have HX2 := Lib.hid (HX.out.trans (chk_3.trans (if_neg (fun h => e h.2))))
              clear HX
              go_enter Try.func57, Try.ntmps57
              go_wp2
              go_ret
              rw [HX2.out]
              exact ⟨rfl, HB.out⟩
            · have a4 : (n == 1) = false := by simp; exact a2
              have HX2 := Lib.hid (HX.out.trans (chk_3.trans (if_neg (fun h => by rcases h.1 with h | h; exact a1 h; exact a2 h))))
              clear HX
              go_enter Try.func57, Try.ntmps57
              go_wp2
              go_ret
              rw [HX2.out]
              exact ⟨rfl, HB.out⟩
      · have q3 : (k == 3) = false := by simp; exact h3
        have HX2 := Lib.hid (HX.out.trans (chk_no h1 h2 h3))
        clear HX
        go_enter Try.func57, Try.ntmps57
        go_wp2
        go_ret
        rw [HX2.out]
        exact ⟨rfl, HB.out⟩
end Go.Proofs.Ytbbejajnfajpoaa
