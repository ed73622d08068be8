/- The document's Compare of two values: its contract. No conditions. -/
import Derived.Test.YtbbejajnfajpoaaOrd
set_option linter.unusedSimpArgs false
set_option linter.unusedVariables false
namespace Go.Proofs.Ytbbejajnfajpoaa
open Go.RowKit

theorem toList_data (b : ByteArray) : b.toList = b.data.toList := ByteArray.toList_eq b
theorem three_m (b : Bool) (w : World) : Calls Try.prog 104 #[.bool true, .bool b] w fun e w' => e = .returned (.int .i64 (-1)) ∧ w = w' := by
  go_enter Try.func104, Try.ntmps104
  go_wp2
  go_ret
  exact ⟨rfl, rfl⟩
theorem three_p (w : World) : Calls Try.prog 104 #[.bool false, .bool true] w fun e w' => e = .returned (.int .i64 1) ∧ w = w' := by
  go_enter Try.func104, Try.ntmps104
  go_wp2
  go_ret
  exact ⟨rfl, rfl⟩
theorem three_z (w : World) : Calls Try.prog 104 #[.bool false, .bool false] w fun e w' => e = .returned (.int .i64 0) ∧ w = w' := by
  go_enter Try.func104, Try.ntmps104
  go_wp2
  go_ret
  exact ⟨rfl, rfl⟩
def thr (x y : Int) : Int := if x < y then -1 else if y < x then 1 else 0
theorem three_any (x y : Int) (w : World) : Calls Try.prog 104 #[.bool (decide (x < y)), .bool (decide (y < x))] w fun e w' => e = .returned (.int .i64 (Lib.compareInt x y)) ∧ w = w' := by
  rcases ci_range x y with ⟨e, h⟩ | ⟨e, h⟩ | ⟨e, h⟩
  · rw [e, decide_eq_true h]; exact three_m _ w
  · rw [e, decide_eq_false (show ¬ x < y by omega), decide_eq_false (show ¬ y < x by omega)]; exact three_z w
  · rw [e, decide_eq_false (show ¬ x < y by omega), decide_eq_true h]; exact three_p w
theorem three_str (x y : List UInt8) (w : World) : Calls Try.prog 104 #[.bool (Op.bytesLess x y), .bool (!Op.bytesLess x y && !x == y)] w fun e w' => e = .returned (.int .i64 (Lib.compareBytes x y)) ∧ w = w' := by
  rw [less_cb]
  have h0 := cb_zero x y
  rcases cb_range x y with h | h | h <;> rw [h]
  · exact three_m _ w
  · have : x = y := h0.1 h
    rw [show (x == y) = true from by simpa using this]
    exact three_z w
  · have hne : ¬ x = y := fun e => by rw [h0.2 e] at h; omega
    rw [show (x == y) = false from by simpa using hne]
    exact three_p w

set_option maxHeartbeats 8000000 in
set_option maxRecDepth 100000 in
theorem refCompareV_any (x y : Val) (w : World) :
    Calls Try.prog 59 #[x.v, y.v] w fun e w' => e = .returned (.int .i64 (cmpV x y)) ∧ Below w.heap.size w w' := by
  obtain ⟨X, hX⟩ : ∃ X, X = cmpV x y := ⟨_, rfl⟩
  rw [← hX]
  unfold cmpV at hX
  obtain ⟨k, n, b⟩ := x
  obtain ⟨k', n', b'⟩ := y
  unfold Val.v
  simp only at hX
  have T1 := Lib.hid (three_any k k')
  have T2 := Lib.hid (three_any n n')
  have T3 := Lib.hid (three_str b.toList b'.toList)
  rw [← toList_data b, ← toList_data b'] at hX
  have HX := Lib.hid hX
  have hc1 := ci_range k k'
  have hc2 := ci_range n n'
  generalize Lib.compareInt k k' = a1 at *
  generalize Lib.compareInt n n' = a2 at *
  generalize Lib.compareBytes b.toList b'.toList = a3 at *
  have h1 : a1 = 0 ∨ ¬ a1 = 0 := by omega
  have h2 : a2 = 0 ∨ ¬ a2 = 0 := by omega
  clear hX hc1 hc2
  rcases h1 with rfl | h1
  · rcases h2 with rfl | h2
    · have HX1 : Hid (X = a3) := Lib.hid (by have := HX.out; simpa using this)
      clear HX
      go_enter Try.func59, Try.ntmps59
      go_wp2_with fail
      refine (T1.out _).mono ?_
      rintro e w1 ⟨rfl, rfl⟩
      go_wp2_with fail
      refine (T2.out _).mono ?_
      rintro e w1 ⟨rfl, rfl⟩
      go_wp2_with fail
      refine (T3.out _).mono ?_
      rintro e w1 ⟨rfl, rfl⟩
      go_wp2_with fail
      go_ret
      rw [HX1.out]
      exact ⟨rfl, ((bel0 w).alloc (Nat.le_refl _) _).alloc ((bel0 w).alloc (Nat.le_refl _) _).size _⟩
    · have HX1 : Hid (X = a2) := Lib.hid (by have := HX.out; simp [h2] at this; exact this)
      clear HX
      go_enter Try.func59, Try.ntmps59
      go_wp2_with fail
      refine (T1.out _).mono ?_
      rintro e w1 ⟨rfl, rfl⟩
      go_wp2_with fail
      refine (T2.out _).mono ?_
      rintro e w1 ⟨rfl, rfl⟩
      have h2' : (a2 == 0) = false := by simpa using h2
      go_wp2_with fail
      go_ret
      rw [HX1.out]
      exact ⟨rfl, ((bel0 w).alloc (Nat.le_refl _) _).alloc ((bel0 w).alloc (Nat.le_refl _) _).size _⟩
  · have HX1 : Hid (X = a1) := Lib.hid (by have := HX.out; simp [h1] at this; exact this)
    clear HX
    go_enter Try.func59, Try.ntmps59
    go_wp2_with fail
    refine (T1.out _).mono ?_
    rintro e w1 ⟨rfl, rfl⟩
    have h1' : (a1 == 0) = false := by simpa using h1
    go_wp2_with fail
    go_ret
    rw [HX1.out]
    exact ⟨rfl, ((bel0 w).alloc (Nat.le_refl _) _).alloc ((bel0 w).alloc (Nat.le_refl _) _).size _⟩
end Go.Proofs.Ytbbejajnfajpoaa
