/- Labels, letters: what may be; their contracts. No conditions. -/
import Derived.Test.YtbbejajnfajpoaaStr
import Derived.Test.YtbbejajnfajpoaaShelf
import Derived.WalkMore
set_option linter.unusedSimpArgs false
set_option linter.unusedVariables false
namespace Go.Proofs.Ytbbejajnfajpoaa
open Go.RowKit

/-- A label. -/
structure Lab where
  l : Int
  p : Nat
def Lab.v (x : Lab) : Value := .agg #[.int .i64 x.l, .int .u32 (x.p : Int)]
def mayL (x : Lab) : Bool := decide (0 ≤ x.l ∧ x.l ≤ 7)
def chkL (x : Lab) : Int := if 0 ≤ x.l ∧ x.l ≤ 7 then 0 else 9

set_option maxHeartbeats 4000000 in
set_option maxRecDepth 100000 in
theorem veilCheck_any (x : Lab) (w : World) :
    Calls Try.prog 98 #[x.v] w fun e w' => e = .returned (.int .i64 (chkL x)) ∧ Below w.heap.size w w' := by
  obtain ⟨l, p⟩ := x
  unfold Lab.v
  simp only
  have HB := Lib.hid ((bel0 w).alloc (Nat.le_refl _) (.cells #[.int .i64 l, .int .u32 (p : Int)] 73))
  by_cases h1 : l < 0
  · have HX := Lib.hid (show chkL ⟨l, p⟩ = 9 from if_neg (fun h => by have := h.1; simp only at this; omega))
    go_enter Try.func98, Try.ntmps98
    go_wp2
    go_ret
    rw [HX.out]
    exact ⟨rfl, HB.out⟩
  · by_cases h2 : 7 < l
    · have HX := Lib.hid (show chkL ⟨l, p⟩ = 9 from if_neg (fun h => by have := h.2; simp only at this; omega))
      go_enter Try.func98, Try.ntmps98
      go_wp2
      go_ret
      rw [HX.out]
      exact ⟨rfl, HB.out⟩
    · have HX := Lib.hid (show chkL ⟨l, p⟩ = 0 from if_pos ⟨by simp only; omega, by simp only; omega⟩)
      go_enter Try.func98, Try.ntmps98
      go_wp2
      go_ret
      rw [HX.out]
      exact ⟨rfl, HB.out⟩
set_option maxHeartbeats 4000000 in
set_option maxRecDepth 100000 in
theorem refMay_any (x : Lab) (w : World) :
    Calls Try.prog 122 #[x.v] w fun e w' => e = .returned (.bool (mayL x)) ∧ Below w.heap.size w w' := by
  obtain ⟨l, p⟩ := x
  unfold Lab.v
  simp only
  have HB := Lib.hid ((bel0 w).alloc (Nat.le_refl _) (.cells #[.int .i64 l, .int .u32 (p : Int)] 73))
  by_cases h1 : 0 ≤ l
  · by_cases h2 : l ≤ 7
    · have HX := Lib.hid (show mayL ⟨l, p⟩ = true from decide_eq_true ⟨h1, h2⟩)
      go_enter Try.func122, Try.ntmps122
      go_wp2
      go_ret
      rw [HX.out]
      exact ⟨rfl, HB.out⟩
    · have HX := Lib.hid (show mayL ⟨l, p⟩ = false from decide_eq_false (fun h => h2 h.2))
      go_enter Try.func122, Try.ntmps122
      go_wp2
      go_ret
      rw [HX.out]
      exact ⟨rfl, HB.out⟩
  · have HX := Lib.hid (show mayL ⟨l, p⟩ = false from decide_eq_false (fun h => h1 h.1))
    go_enter Try.func122, Try.ntmps122
    go_wp2
    go_ret
    rw [HX.out]
    exact ⟨rfl, HB.out⟩
set_option maxHeartbeats 4000000 in
set_option maxRecDepth 100000 in
theorem refVeilCheck_any (x : Lab) (w : World) :
    Calls Try.prog 100 #[x.v] w fun e w' => e = .returned (.int .i64 (chkL x)) ∧ Below w.heap.size w w' := by
  have HM := Lib.hid (refMay_any x)
  have HB := Lib.hid ((bel0 w).alloc (Nat.le_refl _) (.cells #[.int .i64 x.l, .int .u32 (x.p : Int)] 73))
  by_cases h1 : 0 ≤ x.l ∧ x.l ≤ 7
  · have HX := Lib.hid (show chkL x = 0 from if_pos h1)
    rw [show mayL x = true from decide_eq_true h1] at HM
    clear h1
    obtain ⟨l, p⟩ := x
    unfold Lab.v at *
    simp only at *
    go_enter Try.func100, Try.ntmps100
    go_wp2_with fail
    refine (HM.out _).mono ?_
    rintro e w1 ⟨rfl, hb1⟩
    go_wp2_with fail
    go_ret
    rw [HX.out]
    exact ⟨rfl, nx HB.out hb1⟩
  · have HX := Lib.hid (show chkL x = 9 from if_neg h1)
    rw [show mayL x = false from decide_eq_false h1] at HM
    clear h1
    obtain ⟨l, p⟩ := x
    unfold Lab.v at *
    simp only at *
    go_enter Try.func100, Try.ntmps100
    go_wp2_with fail
    refine (HM.out _).mono ?_
    rintro e w1 ⟨rfl, hb1⟩
    go_wp2_with fail
    go_ret
    rw [HX.out]
    exact ⟨rfl, nx HB.out hb1⟩

/-- A letter; a sign that a name may have behind its first. -/
def ltr (c : Nat) : Bool := decide (97 ≤ c ∧ c ≤ 122)
def okc (c : Nat) : Bool := ltr c || decide ((48 ≤ c ∧ c ≤ 57) ∨ c = 46 ∨ c = 45)
/-- May a text be a name? -/
def nm (l : List Nat) : Bool := decide (1 ≤ l.length ∧ l.length ≤ 24) && ltr (l.getD 0 0) && l.all okc
theorem ltr_okc {c : Nat} (h : ltr c = true) : okc c = true := by unfold okc; rw [h]; rfl

set_option maxHeartbeats 4000000 in
set_option maxRecDepth 100000 in
theorem letter_any (c : Nat) (w : World) :
    Calls Try.prog 123 #[.int .u8 (c : Int)] w fun e w' => e = .returned (.bool (ltr c)) ∧ w = w' := by
  by_cases h1 : 97 ≤ c
  · by_cases h2 : c ≤ 122
    · have HX := Lib.hid (show ltr c = true from decide_eq_true ⟨h1, h2⟩)
      have z1 : (97 : Int) ≤ (c : Int) := by omega
      have z2 : (c : Int) ≤ 122 := by omega
      go_enter Try.func123, Try.ntmps123
      go_wp2
      go_ret
      rw [HX.out]
      exact ⟨rfl, rfl⟩
    · have HX := Lib.hid (show ltr c = false from decide_eq_false (fun h => h2 h.2))
      have z1 : (97 : Int) ≤ (c : Int) := by omega
      have z2 : ¬ (c : Int) ≤ 122 := by omega
      go_enter Try.func123, Try.ntmps123
      go_wp2
      go_ret
      rw [HX.out]
      exact ⟨rfl, rfl⟩
  · have HX := Lib.hid (show ltr c = false from decide_eq_false (fun h => h1 h.1))
    have z1 : ¬ (97 : Int) ≤ (c : Int) := by omega
    go_enter Try.func123, Try.ntmps123
    go_wp2
    go_ret
    rw [HX.out]
    exact ⟨rfl, rfl⟩
end Go.Proofs.Ytbbejajnfajpoaa
