/- Values: what may be; the contracts of the two Checks. No conditions. -/
import Derived.Test.YtmnabhennibddaaGD03
import Derived.Test.YtmnabhennibddaaGD04
import Derived.WalkMore
set_option linter.unusedSimpArgs false
set_option linter.unusedVariables false
namespace Go.Proofs.Ytmnabhennibddaa
open Go.RowKit

/-- A value. -/
structure Val where
  k : Int
  n : Int
  b : ByteArray
def Val.v (x : Val) : Value := .agg #[.int .i64 x.k, .int .i64 x.n, .string x.b]
/-- What Check answers. -/
def chkV (x : Val) : Int :=
  if (x.k = 1 ∧ -9007199254740991 ≤ x.n ∧ x.n ≤ 9007199254740991 ∧ x.b = ⟨#[]⟩) ∨ (x.k = 2 ∧ x.n = 0 ∧ x.b.size ≤ 64) ∨ (x.k = 3 ∧ (x.n = 0 ∨ x.n = 1) ∧ x.b = ⟨#[]⟩) then 0 else 80
theorem ne_empty {b : ByteArray} (h : ¬ b = ⟨#[]⟩) : b.toList.isEmpty = false := by
  cases e : b.toList with
  | nil =>
    refine absurd ?_ h
    have h1 : b.data.toList = [] := by rw [← ByteArray.toList_eq]; exact e
    cases b with
    | mk d =>
      simp only at h1
      rw [Array.toList_eq_nil_iff] at h1
      rw [h1]
  | cons a l => rfl
theorem chk_1 {n : Int} {b : ByteArray} : chkV ⟨1, n, b⟩ = if -9007199254740991 ≤ n ∧ n ≤ 9007199254740991 ∧ b = ⟨#[]⟩ then 0 else 80 := by
  unfold chkV; simp
theorem chk_2 {n : Int} {b : ByteArray} : chkV ⟨2, n, b⟩ = if n = 0 ∧ b.size ≤ 64 then 0 else 80 := by
  unfold chkV; simp
theorem chk_3 {n : Int} {b : ByteArray} : chkV ⟨3, n, b⟩ = if (n = 0 ∨ n = 1) ∧ b = ⟨#[]⟩ then 0 else 80 := by
  unfold chkV; simp
theorem chk_no {k n : Int} {b : ByteArray} (h1 : k ≠ 1) (h2 : k ≠ 2) (h3 : k ≠ 3) : chkV ⟨k, n, b⟩ = 80 := by
  unfold chkV; simp [h1, h2, h3]
set_option maxHeartbeats 4000000 in
set_option maxRecDepth 100000 in
theorem check_any (x : Val) (w : World) :
    Calls Try.prog 18 #[x.v] w fun e w' => e = .returned (.int .i64 (chkV x)) ∧ Below w.heap.size w w' := by
  obtain ⟨k, n, b⟩ := x
  unfold Val.v
  simp only
  have hb := (bel0 w).alloc (Nat.le_refl _) (.cells #[.int .i64 k, .int .i64 n, .string b] 42)
  have HB := Lib.hid hb
  clear hb
  obtain ⟨X, hX⟩ : ∃ X, X = chkV ⟨k, n, b⟩ := ⟨_, rfl⟩
  rw [← hX]
  have HX := Lib.hid hX
  clear hX
  by_cases h1 : k = 1
  · subst h1
    by_cases e : b = ⟨#[]⟩
    · subst e
      by_cases a1 : -9007199254740991 ≤ n
      · by_cases a2 : n ≤ 9007199254740991
        · have HX2 := Lib.hid (HX.out.trans (chk_1.trans (if_pos ⟨a1, a2, rfl⟩)))
          clear HX
          go_enter Try.func18, Try.ntmps18
          go_wp2
          go_ret
          rw [HX2.out]
          exact ⟨rfl, HB.out⟩
        · have HX2 := Lib.hid (HX.out.trans (chk_1.trans (if_neg (fun h => a2 h.2.1))))
          clear HX
          go_enter Try.func18, Try.ntmps18
          go_wp2
          go_ret
          rw [HX2.out]
          exact ⟨rfl, HB.out⟩
      · have HX2 := Lib.hid (HX.out.trans (chk_1.trans (if_neg (fun h => a1 h.1))))
        clear HX
        go_enter Try.func18, Try.ntmps18
        go_wp2
        go_ret
        rw [HX2.out]
        exact ⟨rfl, HB.out⟩
    · have e1 := ne_empty e
      by_cases a1 : -9007199254740991 ≤ n
      · by_cases a2 : n ≤ 9007199254740991
        · have HX2 := Lib.hid (HX.out.trans (chk_1.trans (if_neg (fun h => e h.2.2))))
          clear HX
          go_enter Try.func18, Try.ntmps18
          go_wp2
          go_ret
          rw [HX2.out]
          exact ⟨rfl, HB.out⟩
        · have HX2 := Lib.hid (HX.out.trans (chk_1.trans (if_neg (fun h => e h.2.2))))
          clear HX
          go_enter Try.func18, Try.ntmps18
          go_wp2
          go_ret
          rw [HX2.out]
          exact ⟨rfl, HB.out⟩
      · have HX2 := Lib.hid (HX.out.trans (chk_1.trans (if_neg (fun h => e h.2.2))))
        clear HX
        go_enter Try.func18, Try.ntmps18
        go_wp2
        go_ret
        rw [HX2.out]
        exact ⟨rfl, HB.out⟩
  · have q1 : (k == 1) = false := by simp; exact h1
    by_cases h2 : k = 2
    · subst h2
      by_cases a1 : n = 0
      · subst a1
        by_cases a2 : b.size ≤ 64
        · have a3 : (b.size : Int) ≤ 64 := by omega
          have HX2 := Lib.hid (HX.out.trans (chk_2.trans (if_pos ⟨rfl, a2⟩)))
          clear HX
          go_enter Try.func18, Try.ntmps18
          go_wp2
          go_ret
          rw [HX2.out]
          exact ⟨rfl, HB.out⟩
        · have a3 : ¬ (b.size : Int) ≤ 64 := by omega
          have HX2 := Lib.hid (HX.out.trans (chk_2.trans (if_neg (fun h => a2 h.2))))
          clear HX
          go_enter Try.func18, Try.ntmps18
          go_wp2
          go_ret
          rw [HX2.out]
          exact ⟨rfl, HB.out⟩
      · have a3 : (n == 0) = false := by simp; exact a1
        have HX2 := Lib.hid (HX.out.trans (chk_2.trans (if_neg (fun h => a1 h.1))))
        clear HX
        go_enter Try.func18, Try.ntmps18
        go_wp2
        go_ret
        rw [HX2.out]
        exact ⟨rfl, HB.out⟩
    · have q2 : (k == 2) = false := by simp; exact h2
      by_cases h3 : k = 3
      · subst h3
        by_cases e : b = ⟨#[]⟩
        · subst e
          by_cases a1 : n = 0
          · subst a1
            have HX2 := Lib.hid (HX.out.trans (chk_3.trans (if_pos ⟨(.inl rfl), rfl⟩)))
            clear HX
            go_enter Try.func18, Try.ntmps18
            go_wp2
            go_ret
            rw [HX2.out]
            exact ⟨rfl, HB.out⟩
          · have a3 : (n == 0) = false := by simp; exact a1
            by_cases a2 : n = 1
            · subst a2
              have HX2 := Lib.hid (HX.out.trans (chk_3.trans (if_pos ⟨(.inr rfl), rfl⟩)))
              clear HX
              go_enter Try.func18, Try.ntmps18
              go_wp2
              go_ret
              rw [HX2.out]
              exact ⟨rfl, HB.out⟩
            · have a4 : (n == 1) = false := by simp; exact a2
              have HX2 := Lib.hid (HX.out.trans (chk_3.trans (if_neg (fun h => by rcases h.1 with h | h; exact a1 h; exact a2 h))))
              clear HX
              go_enter Try.func18, Try.ntmps18
              go_wp2
              go_ret
              rw [HX2.out]
              exact ⟨rfl, HB.out⟩
        · have e1 := ne_empty e
          by_cases a1 : n = 0
          · subst a1
            have HX2 := Lib.hid (HX.out.trans (chk_3.trans (if_neg (fun h => e h.2))))
            clear HX
            go_enter Try.func18, Try.ntmps18
            go_wp2
            go_ret
            rw [HX2.out]
            exact ⟨rfl, HB.out⟩
          · have a3 : (n == 0) = false := by simp; exact a1
            by_cases a2 : n = 1
            · subst a2
              have HX2 := Lib.hid (HX.out.trans (chk_3.trans (if_neg (fun h => e h.2))))
              clear HX
              go_enter Try.func18, Try.ntmps18
              go_wp2
              go_ret
              rw [HX2.out]
              exact ⟨rfl, HB.out⟩
            · have a4 : (n == 1) = false := by simp; exact a2
              have HX2 := Lib.hid (HX.out.trans (chk_3.trans (if_neg (fun h => by rcases h.1 with h | h; exact a1 h; exact a2 h))))
              clear HX
              go_enter Try.func18, Try.ntmps18
              go_wp2
              go_ret
              rw [HX2.out]
              exact ⟨rfl, HB.out⟩
      · have q3 : (k == 3) = false := by simp; exact h3
        have HX2 := Lib.hid (HX.out.trans (chk_no h1 h2 h3))
        clear HX
        go_enter Try.func18, Try.ntmps18
        go_wp2
        go_ret
        rw [HX2.out]
        exact ⟨rfl, HB.out⟩
end Go.Proofs.Ytmnabhennibddaa
/- Labels, letters: what may be; their contracts. No conditions. -/
set_option linter.unusedSimpArgs false
set_option linter.unusedVariables false
namespace Go.Proofs.Ytmnabhennibddaa
open Go.RowKit

/-- A label. -/
structure Lab where
  l : Int
  p : Nat
def Lab.v (x : Lab) : Value := .agg #[.int .i64 x.l, .int .u32 (x.p : Int)]
def mayL (x : Lab) : Bool := decide (0 ≤ x.l ∧ x.l ≤ 7)
def chkL (x : Lab) : Int := if 0 ≤ x.l ∧ x.l ≤ 7 then 0 else 9
set_option maxHeartbeats 4000000 in
set_option maxRecDepth 100000 in
theorem veilCheck_any (x : Lab) (w : World) :
    Calls Try.prog 78 #[x.v] w fun e w' => e = .returned (.int .i64 (chkL x)) ∧ Below w.heap.size w w' := by
  obtain ⟨l, p⟩ := x
  unfold Lab.v
  simp only
  have HB := Lib.hid ((bel0 w).alloc (Nat.le_refl _) (.cells #[.int .i64 l, .int .u32 (p : Int)] 47))
  by_cases h1 : l < 0
  · have HX := Lib.hid (show chkL ⟨l, p⟩ = 9 from if_neg (fun h => by have := h.1; simp only at this; omega))
    go_enter Try.func78, Try.ntmps78
    go_wp2
    go_ret
    rw [HX.out]
    exact ⟨rfl, HB.out⟩
  · by_cases h2 : 7 < l
    · have HX := Lib.hid (show chkL ⟨l, p⟩ = 9 from if_neg (fun h => by have := h.2; simp only at this; omega))
      go_enter Try.func78, Try.ntmps78
      go_wp2
      go_ret
      rw [HX.out]
      exact ⟨rfl, HB.out⟩
    · have HX := Lib.hid (show chkL ⟨l, p⟩ = 0 from if_pos ⟨by simp only; omega, by simp only; omega⟩)
      go_enter Try.func78, Try.ntmps78
      go_wp2
      go_ret
      rw [HX.out]
      exact ⟨rfl, HB.out⟩
/-- A letter; a sign that a name may have behind its first. -/
def ltr (c : Nat) : Bool := decide (97 ≤ c ∧ c ≤ 122)
def okc (c : Nat) : Bool := ltr c || decide ((48 ≤ c ∧ c ≤ 57) ∨ c = 46 ∨ c = 45)
/-- May a text be a name? -/
def nm (l : List Nat) : Bool := decide (1 ≤ l.length ∧ l.length ≤ 24) && ltr (l.getD 0 0) && l.all okc
theorem ltr_okc {c : Nat} (h : ltr c = true) : okc c = true := by unfold okc; rw [h]; rfl
set_option maxHeartbeats 4000000 in
set_option maxRecDepth 100000 in
theorem letter_any (c : Nat) (w : World) :
    Calls Try.prog 89 #[.int .u8 (c : Int)] w fun e w' => e = .returned (.bool (ltr c)) ∧ w = w' := by
  by_cases h1 : 97 ≤ c
  · by_cases h2 : c ≤ 122
    · have HX := Lib.hid (show ltr c = true from decide_eq_true ⟨h1, h2⟩)
      have z1 : (97 : Int) ≤ (c : Int) := by omega
      have z2 : (c : Int) ≤ 122 := by omega
      go_enter Try.func89, Try.ntmps89
      go_wp2
      go_ret
      rw [HX.out]
      exact ⟨rfl, rfl⟩
    · have HX := Lib.hid (show ltr c = false from decide_eq_false (fun h => h2 h.2))
      have z1 : (97 : Int) ≤ (c : Int) := by omega
      have z2 : ¬ (c : Int) ≤ 122 := by omega
      go_enter Try.func89, Try.ntmps89
      go_wp2
      go_ret
      rw [HX.out]
      exact ⟨rfl, rfl⟩
  · have HX := Lib.hid (show ltr c = false from decide_eq_false (fun h => h1 h.1))
    have z1 : ¬ (97 : Int) ≤ (c : Int) := by omega
    go_enter Try.func89, Try.ntmps89
    go_wp2
    go_ret
    rw [HX.out]
    exact ⟨rfl, rfl⟩
end Go.Proofs.Ytmnabhennibddaa
