/- Contracts of the document's own writers of numbers and texts: size, row, U, S, Text. No conditions. -/
import Derived.Test.YtmnabhennibddaaGD07
set_option linter.unusedSimpArgs false
set_option linter.unusedVariables false
namespace Go.Proofs.Ytmnabhennibddaa
open Go.RowKit

set_option maxHeartbeats 4000000 in
theorem refSize_any (n : Nat) (h : n < 72057594037927936) (w : World) :
    Calls Try.prog 81 #[.int .i64 n] w fun e w' => e = .returned (.int .i64 (Dig.sz n : Int)) ∧ w = w' := by
  have hk1 := Dig.sz_pos n
  have hk8 := Dig.sz_le n
  go_enter Try.func81, Try.ntmps81
  go_wp2
  go_loopw [3, 4] (fun k m wr => ∃ j : Nat, 1 ≤ j ∧ j ≤ Dig.sz n ∧ k = .int .i64 j ∧ m = .int .i64 ((128 ^ j : Nat) : Int) ∧ wr = w) (fun k _ _ => 9 - (intOf k).toNat)
  case atStart => exact ⟨1, by omega, by omega, rfl, rfl, rfl⟩
  case round =>
    obtain ⟨j, hj1, hj, rfl, rfl, rfl⟩ := hrel
    have hp : 128 ^ j ≤ 128 ^ 8 := Nat.pow_le_pow_right (by omega) (by omega)
    have hs : 128 ^ (j + 1) = 128 ^ j * 128 := Nat.pow_succ ..
    have hlt : n < 128 ^ j → Dig.sz n ≤ j := Dig.sz_of_lt n j hj1 (by omega)
    have hge : j < 8 → 128 ^ j ≤ n → j + 1 ≤ Dig.sz n := fun h8 => Dig.sz_ge n (j + 1) (by omega) (by omega)
    by_cases hc : 128 ^ j ≤ n
    · have h8 : j < 8 := by
        rcases Nat.lt_or_ge j 8 with h | h
        · exact h
        · have : 128 ^ 8 ≤ 128 ^ j := Nat.pow_le_pow_right (by omega) h
          omega
      have h9 := hge h8 hc
      have HS := Lib.hid hs
      clear hs hge hlt
      generalize hpe : 128 ^ j = p at *
      have HPE := Lib.hid hpe
      clear hpe
      go_wp2
      exact ⟨⟨j + 1, by omega, h9, by go_num, by rw [HS.out]; push_cast; rfl, trivial⟩, by simp [intOf]; omega⟩
    · have h9 := hlt (by omega)
      have hjs : j = Dig.sz n := by omega
      have HJ := Lib.hid hjs
      clear hs hge hlt hjs
      generalize hpe : 128 ^ j = p at *
      have HPE := Lib.hid hpe
      clear hpe
      go_wp2
      go_ret
      exact ⟨by rw [← HJ.out]; rfl, rfl⟩
theorem ref_or (k j b : Nat) (h1 : j + 1 < k) (h8 : k ≤ 8) (hb : b < 2 ^ (8 - k)) : bits .or .u8 ((256 - 2 ^ (8 - j) + b : Nat) : Int) ((128 / 2 ^ j : Nat) : Int) = ((256 - 2 ^ (8 - (j + 1)) + b : Nat) : Int) := by
  have : ∀ k : Fin 9, ∀ j : Fin 8, ∀ b : Fin 128, j.val + 1 < k.val → b.val < 2 ^ (8 - k.val) → bits .or .u8 ((256 - 2 ^ (8 - j.val) + b.val : Nat) : Int) ((128 / 2 ^ j.val : Nat) : Int) = ((256 - 2 ^ (8 - (j.val + 1)) + b.val : Nat) : Int) := by decide +kernel
  have hb2 : b < 128 := Nat.lt_of_lt_of_le hb (Nat.pow_le_pow_right (by omega) (show 8 - k ≤ 7 by omega))
  exact this ⟨k, by omega⟩ ⟨j, by omega⟩ ⟨b, hb2⟩ h1 hb
end Go.Proofs.Ytmnabhennibddaa
/- U, S and Text, and the document's, of all numbers and texts. No conditions. -/
set_option linter.unusedSimpArgs false
set_option linter.unusedVariables false
namespace Go.Proofs.Ytmnabhennibddaa
open Go.RowKit

/-- What U tells. -/
def uP (n : Int) : List Nat × Int := if 0 ≤ n ∧ n ≤ 9007199254740991 then (Dig.enc n.toNat, 0) else ([], 9)
def sP (n : Int) : List Nat × Int := if -9007199254740991 ≤ n ∧ n ≤ 9007199254740991 then (Dig.enc (zig n), 0) else ([], 9)
def tP (s : ByteArray) : List Nat × Int := if s.size ≤ 65535 then (Dig.enc s.size ++ sb s, 0) else ([], 5)
theorem zig_le (n : Int) (h1 : -9007199254740991 ≤ n) (h2 : n ≤ 9007199254740991) : zig n ≤ 18014398509481982 := by unfold zig; split <;> omega
theorem uP_ok (n : Int) : Byt (uP n).1 ∧ (uP n).1.length ≤ 8 := by
  unfold uP
  split
  · rename_i h
    exact ⟨Dig.enc_byt _ (by omega), by simp only [Dig.length_enc]; exact Dig.sz_le _⟩
  · exact ⟨(fun x hx => absurd hx (by simp)), by simp⟩
theorem sP_ok (n : Int) : Byt (sP n).1 ∧ (sP n).1.length ≤ 8 := by
  unfold sP
  split
  · rename_i h
    have := zig_le n h.1 h.2
    exact ⟨Dig.enc_byt _ (by omega), by simp only [Dig.length_enc]; exact Dig.sz_le _⟩
  · exact ⟨(fun x hx => absurd hx (by simp)), by simp⟩
theorem tP_ok (s : ByteArray) : Byt (tP s).1 ∧ (tP s).1.length ≤ 65543 := by
  unfold tP
  split
  · rename_i h
    refine ⟨Byt.append (Dig.enc_byt _ (by omega)) (sb_byt s), ?_⟩
    have := Dig.sz_le s.size
    simp only [List.length_append, Dig.length_enc, sb_length]
    omega
  · exact ⟨(fun x hx => absurd hx (by simp)), by simp⟩
theorem two_no {w w' : World} {e : Ending} {k : Int} (h : e = .returned (.tuple #[.slice none 0 0, .int .i64 k]) ∧ w = w') : TwoB w w' e [] k := by
  obtain ⟨rfl, rfl⟩ := h
  exact ⟨_, rfl, World.ownsRow_nil .., bel0 _⟩
theorem U_all (n : Int) (w : World) : Calls Try.prog 37 #[.int .i64 n] w fun e w' => TwoB w w' e (uP n).1 (uP n).2 := by
  unfold uP
  by_cases h : 0 ≤ n ∧ n ≤ 9007199254740991
  · rw [if_pos h]; exact U_any n w h.1 h.2
  · rw [if_neg h]; exact (U_no n w (by omega)).mono fun e w' h => two_no h
theorem S_all (n : Int) (w : World) : Calls Try.prog 71 #[.int .i64 n] w fun e w' => TwoB w w' e (sP n).1 (sP n).2 := by
  unfold sP
  by_cases h : -9007199254740991 ≤ n ∧ n ≤ 9007199254740991
  · rw [if_pos h]; exact S_any n w h.1 h.2
  · rw [if_neg h]; exact (S_no n w (by omega)).mono fun e w' h => two_no h
theorem Text_all (s : ByteArray) (w : World) : Calls Try.prog 48 #[.string s] w fun e w' => TwoB w w' e (tP s).1 (tP s).2 := by
  unfold tP
  by_cases h : s.size ≤ 65535
  · rw [if_pos h]; exact Text_any s w h
  · rw [if_neg h]; exact (Text_no s w h).mono fun e w' h => two_no h
/-- A result of bytes and an error number, opened. -/
theorem TwoB.open {w w' : World} {e : Ending} {l : List Nat} {k : Int} (h : TwoB w w' e l k) (hb : Byt l) (hl : l.length ≤ 140737488354304) :
    ∃ A n c, e = .returned (.tuple #[.slice A n c, .int .i64 k]) ∧ BS w' A n c l ∧ Below w.heap.size w w' := by
  obtain ⟨v, rfl, ho, hbl⟩ := h
  obtain ⟨A, n, c, rfl, hB, _⟩ := ownsRow_bs ho hb hl
  exact ⟨A, n, c, rfl, hB, hbl⟩
end Go.Proofs.Ytmnabhennibddaa
