/- The walk of the law DigitsOrder. No conditions. -/
import Derived.Test.YtpkpgmpnaomioaaDigP
import Derived.Test.YtpkpgmpnaomioaaRdW
import Derived.Test.YtpkpgmpnaomioaaCmp
import Derived.Test.YtpkpgmpnaomioaaRow
set_option linter.unusedSimpArgs false
set_option linter.unusedVariables false
namespace Go.Proofs.Ytpkpgmpnaomioaa
open Go.RowKit

/-- Which of two numbers is the lesser one. -/
def tri (a b : Nat) : Int := if a < b then -1 else if b < a then 1 else 0
theorem cmpB_snoc : ∀ (l m : List Nat) (x y : Nat), l.length = m.length → cmpB (l ++ [x]) (m ++ [y]) = if cmpB l m = 0 then tri x y else cmpB l m
  | [], [], x, y, _ => by simp [cmpB, tri]
  | [], _ :: _, _, _, h => by simp at h
  | _ :: _, [], _, _, h => by simp at h
  | a :: l, b :: m, x, y, h => by
    have ih := cmpB_snoc l m x y (by simpa using h)
    simp only [List.cons_append, cmpB, ih]
    by_cases h1 : a < b
    · simp [h1]
    · by_cases h2 : b < a
      · simp [h1, h2]
      · simp [h1, h2]
theorem cmpB_be : ∀ (k a b : Nat), a < 256 ^ k → b < 256 ^ k → cmpB (Dig.be k a) (Dig.be k b) = tri a b
  | 0, a, b, ha, hb => by
    have h1 : a = 0 := by simpa using ha
    have h2 : b = 0 := by simpa using hb
    subst h1 h2
    rfl
  | k + 1, a, b, ha, hb => by
    rw [Nat.pow_succ] at ha hb
    have ih := cmpB_be k (a / 256) (b / 256) (Nat.div_lt_of_lt_mul (by rw [Nat.mul_comm]; exact ha)) (Nat.div_lt_of_lt_mul (by rw [Nat.mul_comm]; exact hb))
    simp only [Dig.be]
    rw [cmpB_snoc _ _ _ _ (by rw [Dig.length_be, Dig.length_be]), ih]
    unfold tri
    by_cases h1 : a / 256 < b / 256
    · rw [if_pos h1, if_pos (show a < b by omega)]; simp
    · by_cases h2 : b / 256 < a / 256
      · rw [if_neg h1, if_pos h2, if_neg (show ¬ a < b by omega), if_pos (show b < a by omega)]; simp
      · rw [if_neg h1, if_neg h2, if_pos rfl]
        by_cases h3 : a % 256 < b % 256
        · rw [if_pos h3, if_pos (show a < b by omega)]
        · by_cases h4 : b % 256 < a % 256
          · rw [if_neg h3, if_pos h4, if_neg (show ¬ a < b by omega), if_pos (show b < a by omega)]
          · rw [if_neg h3, if_neg h4, if_neg (show ¬ a < b by omega), if_neg (show ¬ b < a by omega)]
theorem cmpB_add (h b1 b2 : Nat) (t1 t2 : List Nat) : cmpB ((h + b1) :: t1) ((h + b2) :: t2) = cmpB (b1 :: t1) (b2 :: t2) := by
  simp only [cmpB, Nat.add_lt_add_iff_left]
theorem sz_mono2 (a b : Nat) (h : a ≤ b) : Dig.sz a ≤ Dig.sz b := by
  unfold Dig.sz
  repeat' split
  all_goals omega
theorem head_lt (k m b1 b2 : Nat) (h1 : 1 ≤ k) (hkm : k < m) (hm : m ≤ 8) (hb : b1 < 2 ^ (8 - k)) : Dig.hdr k + b1 < Dig.hdr m + b2 := by
  have : ∀ k : Fin 9, ∀ m : Fin 9, 1 ≤ k.val → k.val < m.val → Dig.hdr k.val + 2 ^ (8 - k.val) ≤ Dig.hdr m.val := by decide +kernel
  have := this ⟨k, by omega⟩ ⟨m, by omega⟩ h1 hkm
  simp only at this
  omega
theorem cmp_enc (a b : Nat) (ha : a < 72057594037927936) (hb : b < 72057594037927936) : cmpB (Dig.enc a) (Dig.enc b) = tri a b := by
  obtain ⟨x, t, ea, hx, _, _, _, ba⟩ := Dig.enc_form a ha
  obtain ⟨y, u, eb, hy, _, _, _, bb⟩ := Dig.enc_form b hb
  have ka := Dig.sz_pos a
  have kb := Dig.sz_pos b
  have la := Dig.sz_le a
  have lb := Dig.sz_le b
  rcases Nat.lt_trichotomy (Dig.sz a) (Dig.sz b) with h | h | h
  · have hab : a < b := by
      rcases Nat.lt_or_ge a b with h2 | h2
      · exact h2
      · have := sz_mono2 b a h2; omega
    rw [ea, eb]
    unfold tri
    rw [if_pos hab]
    simp only [cmpB]
    rw [if_pos (head_lt _ _ _ _ ka h lb hx)]
  · have pa := Dig.sz_lt a ha
    have pb := Dig.sz_lt b hb
    rw [ea, eb, h, cmpB_add, ← bb]
    rw [h] at ba pa
    rw [← ba]
    have hp : 128 ^ Dig.sz b ≤ 256 ^ Dig.sz b := Nat.pow_le_pow_left (by omega) _
    exact cmpB_be _ _ _ (by omega) (by omega)
  · have hab : b < a := by
      rcases Nat.lt_or_ge b a with h2 | h2
      · exact h2
      · have := sz_mono2 a b h2; omega
    rw [ea, eb]
    unfold tri
    rw [if_neg (by omega), if_pos hab]
    simp only [cmpB]
    have := head_lt _ _ y x kb h la hy
    rw [if_neg (by omega), if_pos this]
theorem prefix_enc (a b : Nat) (ha : a < 72057594037927936) (hb : b < 72057594037927936) : (Dig.enc b <+: Dig.enc a) ↔ a = b := by
  constructor
  · rintro ⟨r, hr⟩
    have h1 := Dig.num1_enc 72057594037927936 b hb (by omega) r
    have h2 := Dig.num1_enc 72057594037927936 a ha (by omega) []
    rw [List.append_nil, ← hr, h1] at h2
    simp only [Prod.mk.injEq] at h2
    exact h2.1.symm
  · rintro rfl; exact List.prefix_refl _
theorem bring_nat (n : Int) : ∃ k : Nat, bring n 9007199254740992 = (k : Int) ∧ k ≤ 9007199254740991 := by
  have h1 : 0 ≤ bring n 9007199254740992 ∧ bring n 9007199254740992 < 9007199254740992 := by
    unfold bring
    rw [if_neg (by omega)]
    exact ⟨Int.emod_nonneg _ (by omega), Int.emod_lt_of_pos _ (by omega)⟩
  obtain ⟨k, hk⟩ := Int.eq_ofNat_of_zero_le h1.1
  exact ⟨k, hk, by omega⟩

set_option maxHeartbeats 8000000 in
set_option maxRecDepth 100000 in
theorem digitsOrder_walk (n m : Int) (w : World) (hn : I64 n) (hm : I64 m) :
    Calls Try.prog 14 #[.int .i64 n, .int .i64 m] w fun e w' => e = .returned (.bool true) ∧ Below w.heap.size w w' := by
  obtain ⟨a, ha, ha2⟩ := bring_nat n
  obtain ⟨b, hb, hb2⟩ := bring_nat m
  have BA : Hid (∀ w, Calls Try.prog 25 #[.int .i64 n, .int .i64 9007199254740992] w fun e w' => e = .returned (.int .i64 (a : Int)) ∧ w = w') := Lib.hid fun w => by rw [← ha]; exact bring_any n _ w hn.1 hn.2 (by omega) (by omega)
  have BB : Hid (∀ w, Calls Try.prog 25 #[.int .i64 m, .int .i64 9007199254740992] w fun e w' => e = .returned (.int .i64 (b : Int)) ∧ w = w') := Lib.hid fun w => by rw [← hb]; exact bring_any m _ w hm.1 hm.2 (by omega) (by omega)
  have CA : Hid (∀ w, Calls Try.prog 26 #[.int .i64 (a : Int)] w fun e w' => TwoB w w' e (Dig.enc a) 0) := Lib.hid fun w => by
    have := U_any (a : Int) w (by omega) (by omega)
    rwa [Int.toNat_natCast] at this
  have CB : Hid (∀ w, Calls Try.prog 26 #[.int .i64 (b : Int)] w fun e w' => TwoB w w' e (Dig.enc b) 0) := Lib.hid fun w => by
    have := U_any (b : Int) w (by omega) (by omega)
    rwa [Int.toNat_natCast] at this
  have hc := cmp_enc a b (by omega) (by omega)
  have hp : decide (Dig.enc b <+: Dig.enc a) = decide (a = b) := by rw [decide_eq_decide]; exact prefix_enc a b (by omega) (by omega)
  have y1 : Byt (Dig.enc a) := Dig.enc_byt _ (by omega)
  have y2 : Byt (Dig.enc b) := Dig.enc_byt _ (by omega)
  have z1 : (Dig.enc a).length ≤ 8 := by rw [Dig.length_enc]; exact Dig.sz_le _
  have z2 : (Dig.enc b).length ≤ 8 := by rw [Dig.length_enc]; exact Dig.sz_le _
  have Y1 := Lib.hid y1
  have Y2 := Lib.hid y2
  have Z1 := Lib.hid z1
  have Z2 := Lib.hid z2
  have HC := Lib.hid hc
  have HP := Lib.hid hp
  clear y1 y2 z1 z2 hc hp ha hb
  generalize Dig.enc a = xa at *
  generalize Dig.enc b = xb at *
  go_enter Try.func14, Try.ntmps14
  go_wp2_with fail
  refine (works01_any _).mono ?_
  rintro e w1 ⟨rfl, hb1⟩
  go_wp2_with fail
  refine (BA.out _).mono ?_
  rintro e w2 ⟨rfl, rfl⟩
  go_wp2_with fail
  refine (BB.out _).mono ?_
  rintro e w2 ⟨rfl, rfl⟩
  go_wp2_with fail
  refine (CA.out _).mono ?_
  intro e w2 h
  obtain ⟨A1, n1, c1, rfl, hB, hb2'⟩ := h.open Y1.out (by have := Z1.out; omega)
  have B1 := Lib.hid hB
  clear h hB
  go_wp2_with fail
  refine (CB.out _).mono ?_
  intro e w3 h
  obtain ⟨A2, n2, c2, rfl, hB, hb3⟩ := h.open Y2.out (by have := Z2.out; omega)
  have B2 := Lib.hid hB
  have B13 := Lib.hid (B1.out.below hb3)
  clear h hB
  have hb13 := nx (nx hb1 hb2') hb3
  go_wp2_with fail
  refine (compare_any B13.out B2.out).mono ?_
  rintro e w4 ⟨rfl, rfl⟩
  rw [HC.out]
  unfold tri
  rcases Nat.lt_trichotomy a b with h | h | h
  · have hi : (a : Int) < (b : Int) := by omega
    have hne : ((a : Int) == (b : Int)) = false := by rw [beq_eq_false_iff_ne]; omega
    have hd : decide (a = b) = false := decide_eq_false (by omega)
    rw [if_pos h]
    have HD := Lib.hid hd
    clear hd h
    go_wp2_with fail
    refine (hasPrefix_any B13.out B2.out).mono ?_
    rintro e w5 ⟨rfl, rfl⟩
    rw [HP.out, HD.out]
    go_wp2_with fail
    go_ret
    exact ⟨rfl, hb13⟩
  · subst h
    rw [if_neg (Nat.lt_irrefl _)]
    go_wp2_with fail
    refine (hasPrefix_any B13.out B2.out).mono ?_
    rintro e w5 ⟨rfl, rfl⟩
    rw [HP.out]
    simp only [decide_true]
    go_wp2_with fail
    go_ret
    exact ⟨rfl, hb13⟩
  · have hi : ¬ (a : Int) < (b : Int) := by omega
    have hne : ((a : Int) == (b : Int)) = false := by rw [beq_eq_false_iff_ne]; omega
    have hd : decide (a = b) = false := decide_eq_false (by omega)
    rw [if_neg (by omega), if_pos h]
    have HD := Lib.hid hd
    clear hd h
    go_wp2_with fail
    refine (hasPrefix_any B13.out B2.out).mono ?_
    rintro e w5 ⟨rfl, rfl⟩
    rw [HP.out, HD.out]
    go_wp2_with fail
    go_ret
    refine ⟨?_, hb13⟩
    show Ending.returned (Value.bool (!decide (a < b))) = _
    rw [show decide (a < b) = false from decide_eq_false (by omega)]
    rfl
end Go.Proofs.Ytpkpgmpnaomioaa
