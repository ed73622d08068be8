/- The walk of the law DigitsShort. No conditions. -/
import Derived.Test.YtpkpgmpnaomioaaDigP
import Derived.Test.YtpkpgmpnaomioaaRdW
import Derived.Test.YtpkpgmpnaomioaaRow
set_option linter.unusedSimpArgs false
set_option linter.unusedVariables false
namespace Go.Proofs.Ytpkpgmpnaomioaa
open Go.RowKit

theorem sz_mono (a b : Nat) (h : a ≤ b) : Dig.sz a ≤ Dig.sz b := by
  unfold Dig.sz
  repeat' split
  all_goals omega
theorem sz_two (a : Nat) : Dig.sz (2 * a) ≤ Dig.sz a + 1 := by
  unfold Dig.sz
  repeat' split
  all_goals omega
theorem sz_between (n : Nat) (h : n < 72057594037927936) : 1 ≤ Dig.sz n ∧ n < 128 ^ Dig.sz n ∧ (Dig.sz n = 1 ∨ 128 ^ (Dig.sz n - 1) ≤ n) := by
  refine ⟨Dig.sz_pos n, Dig.sz_lt n h, ?_⟩
  by_cases h1 : Dig.sz n = 1
  · exact .inl h1
  · refine .inr ?_
    rcases Nat.lt_or_ge n (128 ^ (Dig.sz n - 1)) with h2 | h2
    · have := Dig.sz_of_lt n (Dig.sz n - 1) (by have := Dig.sz_pos n; omega) (by have := Dig.sz_le n; omega) h2
      have := Dig.sz_pos n
      omega
    · exact h2
theorem bring_lt (n : Int) : 0 ≤ bring n 9007199254740992 ∧ bring n 9007199254740992 ≤ 9007199254740991 := by
  unfold bring
  repeat' split
  all_goals omega

set_option maxHeartbeats 8000000 in
set_option maxRecDepth 100000 in
theorem digitsShort_walk (n : Int) (w : World) (hn : I64 n) :
    Calls Try.prog 10 #[.int .i64 n] w fun e w' => e = .returned (.bool true) ∧ Below w.heap.size w w' := by
  obtain ⟨n1, n2⟩ := hn
  obtain ⟨b0, b1⟩ := bring_lt n
  have HBR : Hid (∀ w, Calls Try.prog 25 #[.int .i64 n, .int .i64 9007199254740992] w fun e w' => e = .returned (.int .i64 (bring n 9007199254740992)) ∧ w = w') := Lib.hid fun w => bring_any n 9007199254740992 w n1 n2 (by omega) (by omega)
  generalize bring n 9007199254740992 = m at *
  obtain ⟨a, rfl⟩ := Int.eq_ofNat_of_zero_le b0
  have hx := Dig.length_enc a
  have hy := Dig.length_enc (zig (a : Int))
  have hz := Dig.length_enc (zig (-(a : Int)))
  rw [show zig (a : Int) = 2 * a by unfold zig; rw [if_pos (by omega)]; omega] at hy
  have hzz : zig (-(a : Int)) ≤ 2 * a := by unfold zig; split <;> omega
  have q1 := sz_mono a (2 * a) (by omega)
  have q2 := sz_two a
  have q3 := sz_mono _ _ hzz
  have q4 := Dig.sz_le (2 * a)
  have q5 : 1 ≤ Dig.sz a ∧ a < 128 ^ Dig.sz a ∧ (Dig.sz a = 1 ∨ 128 ^ (Dig.sz a - 1) ≤ a) := sz_between a (by omega)
  have Q5 := Lib.hid q5
  have u1 : Byt (Dig.enc (a : Int).toNat) := Dig.enc_byt _ (by omega)
  have s1 : Byt (Dig.enc (zig (a : Int))) := Dig.enc_byt _ (by have := zig_le a (by omega) (by omega); omega)
  have t1 : Byt (Dig.enc (zig (-(a : Int)))) := Dig.enc_byt _ (by have := zig_le (-(a : Int)) (by omega) (by omega); omega)
  have HU : Hid (∀ w, Calls Try.prog 26 #[.int .i64 (a : Int)] w fun e w' => TwoB w w' e (Dig.enc (a : Int).toNat) 0) := Lib.hid fun w => U_any a w (by omega) (by omega)
  have HS : Hid (∀ w, Calls Try.prog 28 #[.int .i64 (a : Int)] w fun e w' => TwoB w w' e (Dig.enc (zig (a : Int))) 0) := Lib.hid fun w => S_any a w (by omega) (by omega)
  have HT : Hid (∀ w, Calls Try.prog 28 #[.int .i64 (-(a : Int))] w fun e w' => TwoB w w' e (Dig.enc (zig (-(a : Int)))) 0) := Lib.hid fun w => S_any (-(a : Int)) w (by omega) (by omega)
  rw [Int.toNat_natCast] at HU u1
  rw [show zig (a : Int) = 2 * a by unfold zig; rw [if_pos (by omega)]; omega] at HS s1
  have U1 := Lib.hid u1
  have S1 := Lib.hid s1
  have T1 := Lib.hid t1
  clear u1 s1 t1 q5 hzz
  generalize Dig.sz (zig (-(a : Int))) = kz at *
  generalize Dig.sz (2 * a) = ky at *
  generalize Dig.enc (zig (-(a : Int))) = z at *
  generalize Dig.enc (2 * a) = y at *
  generalize Dig.enc a = x at *
  obtain ⟨kx, hkx⟩ : ∃ k, k = Dig.sz a := ⟨_, rfl⟩
  rw [← hkx] at hx q1 q2 Q5
  clear hkx
  have HX := Lib.hid hx
  have HY := Lib.hid hy
  have HZ := Lib.hid hz
  clear hx hy hz
  go_enter Try.func10, Try.ntmps10
  go_wp2_with fail
  refine (works01_any _).mono ?_
  rintro e w1 ⟨rfl, hb1⟩
  go_wp2_with fail
  refine (HBR.out _).mono ?_
  rintro e w2 ⟨rfl, rfl⟩
  go_wp2_with fail
  refine (HU.out _).mono ?_
  intro e w2 h
  obtain ⟨A1, m1, c1, rfl, hB, hb2⟩ := h.open U1.out (by rw [HX.out]; omega)
  have e1 := hB.len
  rw [HX.out] at e1
  subst e1
  clear h hB
  go_wp2_with fail
  refine (HS.out _).mono ?_
  intro e w3 h
  obtain ⟨A2, m2, c2, rfl, hB, hb3⟩ := h.open S1.out (by rw [HY.out]; omega)
  have e2 := hB.len
  rw [HY.out] at e2
  subst e2
  clear h hB
  go_wp2_with fail
  refine (HT.out _).mono ?_
  intro e w4 h
  obtain ⟨A3, m3, c3, rfl, hB, hb4⟩ := h.open T1.out (by rw [HZ.out]; omega)
  have e3 := hB.len
  rw [HZ.out] at e3
  subst e3
  clear h hB HBR HU HS HT HX HY HZ U1 S1 T1
  have hb := nx (nx (nx hb1 hb2) hb3) hb4
  clear hb1 hb2 hb3 hb4
  have HB := Lib.hid hb
  clear hb
  have hk8 : m1 ≤ 8 := by omega
  obtain ⟨hk1, hap, hqa⟩ := Q5.out
  clear Q5
  obtain ⟨j, rfl⟩ : ∃ j, m1 = j + 1 := ⟨m1 - 1, by omega⟩
  rw [show j + 1 - 1 = j by omega] at hqa
  have hp : (2 : Int) ^ (7 * (j + 1)) = ((128 ^ (j + 1) : Nat) : Int) := by
    rw [show (128 : Nat) = 2 ^ 7 from rfl, ← Nat.pow_mul]; push_cast; rfl
  have hq : (2 : Int) ^ (7 * j) = ((128 ^ j : Nat) : Int) := by
    rw [show (128 : Nat) = 2 ^ 7 from rfl, ← Nat.pow_mul]; push_cast; rfl
  have hp8 : 128 ^ (j + 1) ≤ 128 ^ 8 := Nat.pow_le_pow_right (by omega) (by omega)
  have hq8 : 128 ^ j ≤ 128 ^ 8 := Nat.pow_le_pow_right (by omega) (by omega)
  rw [show (128 : Nat) ^ 8 = 72057594037927936 by decide] at hp8 hq8
  generalize 128 ^ (j + 1) = p at *
  generalize 128 ^ j = q at *
  have hp9 : (p : Int) ≤ 72057594037927936 := by omega
  have hq9 : (q : Int) ≤ 72057594037927936 := by omega
  have hap' : (a : Int) < (p : Int) := by omega
  have hj8 : (j : Int) ≤ 7 := by omega
  clear hp8 hq8 hap
  by_cases hj : j = 0
  · subst hj
    clear hqa hq
    go_wp2_with fail
    go_ret
    exact ⟨rfl, HB.out⟩
  · have hqa' : (q : Int) ≤ (a : Int) := by omega
    have hj0 : (1 : Int) ≤ (j : Int) := by omega
    clear hqa
    go_wp2_with fail
    go_ret
    exact ⟨rfl, HB.out⟩
end Go.Proofs.Ytpkpgmpnaomioaa
