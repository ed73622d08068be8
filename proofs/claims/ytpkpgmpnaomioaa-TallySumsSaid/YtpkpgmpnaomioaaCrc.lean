/- The checksum of bytes as a plain function on numbers, and its laws (linear in each bit, one to one in each step). No conditions. -/
set_option linter.unusedSimpArgs false
namespace Go.Proofs.Ytpkpgmpnaomioaa.Crc

def poly : Nat := 3988292384
/-- One bit. -/
def sh (r : Nat) : Nat := r / 2 ^^^ (if r % 2 = 1 then poly else 0)
def sh4 (r : Nat) : Nat := sh (sh (sh (sh r)))
def sh8 (r : Nat) : Nat := sh4 (sh4 r)
/-- The register behind bytes. -/
def reg (r : Nat) : List Nat → Nat
  | [] => r
  | c :: l => reg (sh8 (r ^^^ c)) l
/-- Going on from a sum. -/
def on (s : Nat) (l : List Nat) : Nat := 4294967295 - reg (4294967295 - s) l
def tab : List Nat := [0, 498536548, 997073096, 651767980, 1994146192, 1802195444, 1303535960, 1342533948, 3988292384, 4027552580, 3604390888, 3412177804, 2607071920, 2262029012, 2685067896, 3183342108]
/-- Half a byte by the table. -/
def nib (r : Nat) : Nat := r / 16 ^^^ tab.getD (r % 16) 0
/-- A sum's bytes. -/
def row (s : Nat) : List Nat := [s % 256, s / 256 % 256, s / 65536 % 256, s / 16777216 % 256]
/-- Bytes as one number, the least ones ahead. -/
def num : List Nat → Nat
  | [] => 0
  | c :: l => c + 256 * num l

theorem sh_lt {r : Nat} (h : r < 4294967296) : sh r < 4294967296 := by
  unfold sh poly
  apply Nat.xor_lt_two_pow (n := 32)
  · omega
  · split <;> omega
theorem sh4_lt {r : Nat} (h : r < 4294967296) : sh4 r < 4294967296 := sh_lt (sh_lt (sh_lt (sh_lt h)))
theorem sh8_lt {r : Nat} (h : r < 4294967296) : sh8 r < 4294967296 := sh4_lt (sh4_lt h)
theorem xor_lt {a b : Nat} (h : a < 4294967296) (h' : b < 4294967296) : a ^^^ b < 4294967296 := Nat.xor_lt_two_pow (n := 32) h h'

theorem sh_xor (a b : Nat) : sh (a ^^^ b) = sh a ^^^ sh b := by
  unfold sh
  rw [Nat.xor_div_two]
  have h := Nat.xor_mod_two_eq_one (a := a) (b := b)
  by_cases ha : a % 2 = 1 <;> by_cases hb : b % 2 = 1 <;> simp only [ha, hb, iff_true, iff_false, not_true, not_false_iff, if_true, if_false, true_iff, false_iff, eq_self, Nat.xor_zero] at h ⊢
  all_goals first
    | (rw [if_neg h]; simp only [Nat.xor_zero]; rw [← Nat.xor_assoc, Nat.xor_assoc _ poly, Nat.xor_comm poly, ← Nat.xor_assoc, Nat.xor_assoc, Nat.xor_self, Nat.xor_zero]; done)
    | (rw [if_pos h]; simp only [Nat.xor_assoc]; try rw [Nat.xor_comm poly]; done)
    | (rw [if_neg h]; simp)
theorem sh4_xor (a b : Nat) : sh4 (a ^^^ b) = sh4 a ^^^ sh4 b := by unfold sh4; simp only [sh_xor]
theorem sh8_xor (a b : Nat) : sh8 (a ^^^ b) = sh8 a ^^^ sh8 b := by unfold sh8; simp only [sh4_xor]
theorem sh_double (x : Nat) : sh (2 * x) = x := by
  unfold sh
  rw [if_neg (by omega), Nat.xor_zero]
  omega
theorem sh4_16 (x : Nat) : sh4 (16 * x) = x := by
  unfold sh4
  rw [show 16 * x = 2 * (2 * (2 * (2 * x))) by omega, sh_double, sh_double, sh_double, sh_double]
theorem sh8_256 (x : Nat) : sh8 (256 * x) = x := by
  unfold sh8
  rw [show 256 * x = 16 * (16 * x) by omega, sh4_16, sh4_16]
theorem sh_zero : sh 0 = 0 := rfl

/-- A sum without a carry is taken bit by bit. -/
theorem add_xor (k x c : Nat) (h : c < 2 ^ k) : c + 2 ^ k * x = c ^^^ 2 ^ k * x := by
  apply Nat.eq_of_testBit_eq
  intro i
  rw [Nat.add_comm, Nat.testBit_xor, Nat.testBit_two_pow_mul_add x h]
  by_cases hi : i < k
  · rw [if_pos hi, Nat.testBit_two_pow_mul]
    simp [show ¬ k ≤ i by omega]
  · rw [if_neg hi, Nat.testBit_two_pow_mul, Nat.testBit_lt_two_pow (x := c) (Nat.lt_of_lt_of_le h (Nat.pow_le_pow_right (by omega) (by omega)))]
    simp [show k ≤ i by omega]
theorem sh4_split (r : Nat) : sh4 r = r / 16 ^^^ sh4 (r % 16) := by
  have h := add_xor 4 (r / 16) (r % 16) (by omega)
  have e : r % 16 + 2 ^ 4 * (r / 16) = r := by omega
  rw [e] at h
  have h2 : sh4 r = sh4 (r % 16 ^^^ 2 ^ 4 * (r / 16)) := by rw [← h]
  rw [h2, sh4_xor, Nat.xor_comm, show 2 ^ 4 * (r / 16) = 16 * (r / 16) by omega, sh4_16]
theorem tab_at : ∀ m, m < 16 → tab.getD m 0 = sh4 m := by decide
theorem nib_eq (r : Nat) : nib r = sh4 r := by rw [sh4_split, nib, tab_at _ (by omega)]
theorem nib_lt {r : Nat} (h : r < 4294967296) : nib r < 4294967296 := by rw [nib_eq]; exact sh4_lt h

theorem reg_lt {r : Nat} (h : r < 4294967296) {l : List Nat} (hl : ∀ x ∈ l, x < 256) : reg r l < 4294967296 := by
  induction l generalizing r with
  | nil => exact h
  | cons c l ih =>
    exact ih (sh8_lt (xor_lt h (by have := hl c (by simp); omega))) (fun x hx => hl x (by simp [hx]))
theorem reg_append (r : Nat) (l m : List Nat) : reg r (l ++ m) = reg (reg r l) m := by
  induction l generalizing r with
  | nil => rfl
  | cons c l ih => exact ih _
theorem reg_snoc (r : Nat) (l : List Nat) (c : Nat) : reg r (l ++ [c]) = sh8 (reg r l ^^^ c) := by rw [reg_append]; rfl

theorem not32 (s : Nat) (h : s < 4294967296) : 4294967295 ^^^ s = 4294967295 - s := by
  apply Nat.eq_of_testBit_eq
  intro i
  rw [Nat.testBit_xor, show 4294967295 - s = 2 ^ 32 - (s + 1) by omega, Nat.testBit_two_pow_sub_succ (n := 32) h i, show 4294967295 = 2 ^ 32 - 1 by rfl, Nat.testBit_two_pow_sub_one]
  by_cases hi : i < 32
  · simp [hi]
  · rw [Nat.testBit_lt_two_pow (x := s) (Nat.lt_of_lt_of_le (n := s) (m := 2 ^ 32) h (Nat.pow_le_pow_right (by omega) (by omega)))]
    simp [hi]

/-- The register is k steps from the number. -/
def shs : Nat → Nat → Nat
  | 0, r => r
  | k + 1, r => shs k (sh r)
theorem shs_add (j k r : Nat) : shs (j + k) r = shs k (shs j r) := by
  induction j generalizing r with
  | zero => simp [shs]
  | succ j ih => rw [show j + 1 + k = (j + k) + 1 by omega]; exact ih _
theorem shs_xor (k a b : Nat) : shs k (a ^^^ b) = shs k a ^^^ shs k b := by
  induction k generalizing a b with
  | zero => rfl
  | succ k ih => simp only [shs, sh_xor, ih]
theorem shs_pow (k x : Nat) : shs k (2 ^ k * x) = x := by
  induction k generalizing x with
  | zero => simp [shs]
  | succ k ih => simp only [shs]; rw [show 2 ^ (k + 1) * x = 2 * (2 ^ k * x) by rw [Nat.pow_succ]; rw [Nat.mul_comm (2 ^ k) 2, Nat.mul_assoc], sh_double, ih]
theorem shs_zero (k : Nat) : shs k 0 = 0 := by
  induction k with
  | zero => rfl
  | succ k ih => simp only [shs, sh_zero, ih]
theorem sh8_shs (r : Nat) : sh8 r = shs 8 r := rfl
theorem shs_lt (k : Nat) {r : Nat} (h : r < 4294967296) : shs k r < 4294967296 := by
  induction k generalizing r with
  | zero => exact h
  | succ k ih => exact ih (sh_lt h)
theorem xor_eq0 {a b : Nat} (h : a ^^^ b = 0) : a = b := by
  have e : (a ^^^ b) ^^^ b = 0 ^^^ b := by rw [h]
  rwa [Nat.xor_assoc, Nat.xor_self, Nat.xor_zero, Nat.zero_xor] at e
theorem sh_ne {r : Nat} (h : r < 4294967296) (hr : r ≠ 0) : sh r ≠ 0 := by
  unfold sh poly
  intro e
  by_cases h1 : r % 2 = 1
  · rw [if_pos h1] at e
    have := xor_eq0 e
    omega
  · rw [if_neg h1, Nat.xor_zero] at e
    omega
theorem shs_ne (k : Nat) {r : Nat} (h : r < 4294967296) (hr : r ≠ 0) : shs k r ≠ 0 := by
  induction k generalizing r with
  | zero => exact hr
  | succ k ih => exact ih (sh_lt h) (sh_ne h hr)
theorem shs_inj (k : Nat) {a b : Nat} (ha : a < 4294967296) (hb : b < 4294967296) (h : shs k a = shs k b) : a = b := by
  have e : shs k (a ^^^ b) = 0 := by rw [shs_xor, h, Nat.xor_self]
  rcases Nat.eq_zero_or_pos (a ^^^ b) with h0 | h0
  · exact xor_eq0 h0
  · exact absurd e (shs_ne k (xor_lt ha hb) (by omega))

theorem reg_num (r : Nat) (l : List Nat) (hl : ∀ x ∈ l, x < 256) : reg r l = shs (8 * l.length) (r ^^^ num l) := by
  induction l generalizing r with
  | nil => simp [reg, num, shs]
  | cons c l ih =>
    have hc : c < 2 ^ 8 := hl c (by simp)
    have e : num (c :: l) = c ^^^ 2 ^ 8 * num l := add_xor 8 (num l) c hc
    rw [reg, ih _ (fun x hx => hl x (by simp [hx])), List.length_cons, show 8 * (l.length + 1) = 8 + 8 * l.length by omega, shs_add, e, ← Nat.xor_assoc, shs_xor 8, shs_pow 8]
    rfl

theorem num_lt (l : List Nat) (hl : ∀ x ∈ l, x < 256) : num l < 256 ^ l.length := by
  induction l with
  | nil => simp [num]
  | cons c l ih =>
    have hc := hl c (by simp)
    have := ih (fun x hx => hl x (by simp [hx]))
    simp only [num, List.length_cons, Nat.pow_succ]
    omega
theorem num_append (l m : List Nat) : num (l ++ m) = num l + 256 ^ l.length * num m := by
  induction l with
  | nil => simp [num]
  | cons c l ih =>
    simp only [List.cons_append, num, ih, List.length_cons, Nat.pow_succ]
    rw [Nat.mul_add, ← Nat.mul_assoc, Nat.mul_comm 256 (256 ^ l.length)]
    omega
theorem num_inj {l m : List Nat} (hl : ∀ x ∈ l, x < 256) (hm : ∀ x ∈ m, x < 256) (hlen : l.length = m.length) (h : num l = num m) : l = m := by
  induction l generalizing m with
  | nil => cases m with
    | nil => rfl
    | cons d m => simp at hlen
  | cons c l ih => cases m with
    | nil => simp at hlen
    | cons d m =>
      have hc := hl c (by simp)
      have hd := hm d (by simp)
      simp only [num] at h
      have e1 : c = d := by omega
      have e2 : num l = num m := by omega
      rw [e1, ih (fun x hx => hl x (by simp [hx])) (fun x hx => hm x (by simp [hx])) (by simpa using hlen) e2]
theorem num_row {s : Nat} (h : s < 4294967296) : num (row s) = s := by simp only [row, num]; omega
theorem row_byt (s : Nat) : ∀ x ∈ row s, x < 256 := by
  intro x hx
  simp only [row, List.mem_cons, List.not_mem_nil, or_false] at hx
  omega
theorem row_inj {s t : Nat} (hs : s < 4294967296) (ht : t < 4294967296) (h : row s = row t) : s = t := by
  rw [← num_row hs, ← num_row ht, h]
theorem length_row (s : Nat) : (row s).length = 4 := rfl

/-- A bit of a byte turned is that bit of the number turned. -/
theorem num_turn (l : List Nat) (j t : Nat) (hl : ∀ x ∈ l, x < 256) (hj : j < l.length) (ht : t < 8) :
    num (l.set j (l[j] ^^^ 2 ^ t)) = num l ^^^ 2 ^ (8 * j + t) := by
  induction l generalizing j with
  | nil => simp at hj
  | cons c l ih =>
    have hc : c < 2 ^ 8 := hl c (by simp)
    have h2 : 2 ^ t < 2 ^ 8 := Nat.pow_lt_pow_right (by omega) ht
    cases j with
    | zero =>
      have hx : c ^^^ 2 ^ t < 2 ^ 8 := Nat.xor_lt_two_pow hc h2
      have e1 : num ((c ^^^ 2 ^ t) :: l) = (c ^^^ 2 ^ t) ^^^ 2 ^ 8 * num l := add_xor 8 (num l) _ hx
      have e2 : num (c :: l) = c ^^^ 2 ^ 8 * num l := add_xor 8 (num l) c hc
      simp only [List.set_cons_zero, List.getElem_cons_zero]
      rw [e1, e2, Nat.mul_zero, Nat.zero_add, Nat.xor_assoc, Nat.xor_comm (2 ^ t), ← Nat.xor_assoc]
    | succ j =>
      have hj' : j < l.length := by simpa using hj
      have e0 := ih j (fun x hx => hl x (by simp [hx])) hj'
      simp only [List.set_cons_succ, List.getElem_cons_succ]
      have e1 : num (c :: l.set j (l[j] ^^^ 2 ^ t)) = c ^^^ 2 ^ 8 * num (l.set j (l[j] ^^^ 2 ^ t)) := add_xor 8 _ c hc
      have e2 : num (c :: l) = c ^^^ 2 ^ 8 * num l := add_xor 8 (num l) c hc
      have e3 : 2 ^ (8 * (j + 1) + t) = 2 ^ 8 * 2 ^ (8 * j + t) := by rw [← Nat.pow_add]; congr 1; omega
      rw [e1, e2, e0, e3, Nat.xor_assoc]
      congr 1
      have : ∀ a b : Nat, 2 ^ 8 * (a ^^^ b) = 2 ^ 8 * a ^^^ 2 ^ 8 * b := fun a b => by
        apply Nat.eq_of_testBit_eq
        intro i
        simp only [Nat.testBit_xor, Nat.testBit_two_pow_mul]
        by_cases hi : 8 ≤ i <;> simp [hi]
      rw [this]
end Go.Proofs.Ytpkpgmpnaomioaa.Crc
