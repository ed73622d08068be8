/- The checksum of bytes as a plain function on numbers, and its laws (linear in each bit, one to one in each step). No conditions. -/

set_option linter.unusedSimpArgs false
namespace Go.Proofs.Ytmnabhennibddaa.Crc

def poly : Nat := 3988292384
/-- One bit. -/
def sh (r : Nat) : Nat := r / 2 ^^^ (if r % 2 = 1 then poly else 0)
def sh4 (r : Nat) : Nat := sh (sh (sh (sh r)))
def sh8 (r : Nat) : Nat := sh4 (sh4 r)
/-- The register behind bytes. -/
def reg (r : Nat) : List Nat → Nat
  | [] => r
  | c :: l => reg (sh8 (r ^^^ c)) l
/-- Going on from a sum. -/
def on (s : Nat) (l : List Nat) : Nat := 4294967295 - reg (4294967295 - s) l
def tab : List Nat := [0, 498536548, 997073096, 651767980, 1994146192, 1802195444, 1303535960, 1342533948, 3988292384, 4027552580, 3604390888, 3412177804, 2607071920, 2262029012, 2685067896, 3183342108]
/-- Half a byte by the table. -/
def nib (r : Nat) : Nat := r / 16 ^^^ tab.getD (r % 16) 0
/-- A sum's bytes. -/
def row (s : Nat) : List Nat := [s % 256, s / 256 % 256, s / 65536 % 256, s / 16777216 % 256]
/-- Bytes as one number, the least ones ahead. -/
def num : List Nat → Nat
  | [] => 0
  | c :: l => c + 256 * num l

theorem sh_lt {r : Nat} (h : r < 4294967296) : sh r < 4294967296 := by
  unfold sh poly
  apply Nat.xor_lt_two_pow (n := 32)
  · omega
  · split <;> omega
theorem sh4_lt {r : Nat} (h : r < 4294967296) : sh4 r < 4294967296 := sh_lt (sh_lt (sh_lt (sh_lt h)))
theorem sh8_lt {r : Nat} (h : r < 4294967296) : sh8 r < 4294967296 := sh4_lt (sh4_lt h)
theorem xor_lt {a b : Nat} (h : a < 4294967296) (h' : b < 4294967296) : a ^^^ b < 4294967296 := Nat.xor_lt_two_pow (n := 32) h h'

theorem sh_xor (a b : Nat) : sh (a ^^^ b) = sh a ^^^ sh b := by
  unfold sh
  rw [Nat.xor_div_two]
  have h := Nat.xor_mod_two_eq_one (a := a) (b := b)
  by_cases ha : a % 2 = 1 <;> by_cases hb : b % 2 = 1 <;> simp only [ha, hb, iff_true, iff_false, not_true, not_false_iff, if_true, if_false, true_iff, false_iff, eq_self, Nat.xor_zero] at h ⊢
  all_goals first
    | (rw [if_neg h]; simp only [Nat.xor_zero]; rw [← Nat.xor_assoc, Nat.xor_assoc _ poly, Nat.xor_comm poly, ← Nat.xor_assoc, Nat.xor_assoc, Nat.xor_self, Nat.xor_zero]; done)
    | (rw [if_pos h]; simp only [Nat.xor_assoc]; try rw [Nat.xor_comm poly]; done)
    | (rw [if_neg h]; simp)
theorem sh4_xor (a b : Nat) : sh4 (a ^^^ b) = sh4 a ^^^ sh4 b := by unfold sh4; simp only [sh_xor]
theorem sh8_xor (a b : Nat) : sh8 (a ^^^ b) = sh8 a ^^^ sh8 b := by unfold sh8; simp only [sh4_xor]
theorem sh_double (x : Nat) : sh (2 * x) = x := by
  unfold sh
  rw [if_neg (by omega), Nat.xor_zero]
  omega
theorem sh4_16 (x : Nat) : sh4 (16 * x) = x := by
  unfold sh4
  rw [show 16 * x = 2 * (2 * (2 * (2 * x))) by omega, sh_double, sh_double, sh_double, sh_double]
theorem sh8_256 (x : Nat) : sh8 (256 * x) = x := by
  unfold sh8
  rw [show 256 * x = 16 * (16 * x) by omega, sh4_16, sh4_16]
theorem sh_zero : sh 0 = 0 := rfl

/-- A sum without a carry is taken bit by bit. -/
theorem add_xor (k x c : Nat) (h : c < 2 ^ k) : c + 2 ^ k * x = c ^^^ 2 ^ k * x := by
  apply Nat.eq_of_testBit_eq
  intro i
  rw [Nat.add_comm, Nat.testBit_xor, Nat.testBit_two_pow_mul_add x h]
  by_cases hi : i < k
  · rw [if_pos hi, Nat.testBit_two_pow_mul]
    simp [show ¬ k ≤ i by omega]
  · rw [if_neg hi, Nat.testBit_two_pow_mul, Nat.testBit_lt_two_pow (x := c) (Nat.lt_of_lt_of_le h (Nat.pow_le_pow_right (by omega) (by omega)))]
    simp [show k ≤ i by omega]
theorem sh4_split (r : Nat) : sh4 r = r / 16 ^^^ sh4 (r % 16) := by
  have h := add_xor 4 (r / 16) (r % 16) (by omega)
  have e : r % 16 + 2 ^ 4 * (r / 16) = r := by omega
  rw [e] at h
  have h2 : sh4 r = sh4 (r % 16 ^^^ 2 ^ 4 * (r / 16)) := by rw [← h]
  rw [h2, sh4_xor, Nat.xor_comm, show 2 ^ 4 * (r / 16) = 16 * (r / 16) by omega, sh4_16]
theorem tab_at : ∀ m, m < 16 → tab.getD m 0 = sh4 m := by decide
theorem nib_eq (r : Nat) : nib r = sh4 r := by rw [sh4_split, nib, tab_at _ (by omega)]
theorem nib_lt {r : Nat} (h : r < 4294967296) : nib r < 4294967296 := by rw [nib_eq]; exact sh4_lt h

theorem reg_lt {r : Nat} (h : r < 4294967296) {l : List Nat} (hl : ∀ x ∈ l, x < 256) : reg r l < 4294967296 := by
  induction l generalizing r with
  | nil => exact h
  | cons c l ih =>
    exact ih (sh8_lt (xor_lt h (by have := hl c (by simp); omega))) (fun x hx => hl x (by simp [hx]))
theorem reg_append (r : Nat) (l m : List Nat) : reg r (l ++ m) = reg (reg r l) m := by
  induction l generalizing r with
  | nil => rfl
  | cons c l ih => exact ih _
theorem reg_snoc (r : Nat) (l : List Nat) (c : Nat) : reg r (l ++ [c]) = sh8 (reg r l ^^^ c) := by rw [reg_append]; rfl

theorem not32 (s : Nat) (h : s < 4294967296) : 4294967295 ^^^ s = 4294967295 - s := by
  apply Nat.eq_of_testBit_eq
  intro i
  rw [Nat.testBit_xor, show 4294967295 - s = 2 ^ 32 - (s + 1) by omega, Nat.testBit_two_pow_sub_succ (n := 32) h i, show 4294967295 = 2 ^ 32 - 1 by rfl, Nat.testBit_two_pow_sub_one]
  by_cases hi : i < 32
  · simp [hi]
  · rw [Nat.testBit_lt_two_pow (x := s) (Nat.lt_of_lt_of_le (n := s) (m := 2 ^ 32) h (Nat.pow_le_pow_right (by omega) (by omega)))]
    simp [hi]

theorem on_lt (s : Nat) (l : List Nat) : on s l < 4294967296 := by unfold on; omega
theorem on_append (s : Nat) (hs : s < 4294967296) (l m : List Nat) (hl : ∀ x ∈ l, x < 256) : on (on s l) m = on s (l ++ m) := by
  have := reg_lt (r := 4294967295 - s) (by omega) hl
  unfold on
  rw [reg_append, show 4294967295 - (4294967295 - reg (4294967295 - s) l) = reg (4294967295 - s) l by omega]
theorem on_nil (s : Nat) (hs : s < 4294967296) : on s [] = s := by unfold on reg; omega

theorem reg_xor (r s : Nat) : ∀ (l m : List Nat), l.length = m.length → reg (r ^^^ s) (List.zipWith (· ^^^ ·) l m) = reg r l ^^^ reg s m := by
  intro l
  induction l generalizing r s with
  | nil => intro m h; cases m with
    | nil => rfl
    | cons d m => simp at h
  | cons c l ih => intro m h; cases m with
    | nil => simp at h
    | cons d m =>
      simp only [List.zipWith_cons_cons, reg]
      rw [← ih (sh8 (r ^^^ c)) (sh8 (s ^^^ d)) m (by simpa using h), ← sh8_xor]
      congr 2
      rw [Nat.xor_assoc, Nat.xor_assoc, ← Nat.xor_assoc s c d, Nat.xor_comm s c, Nat.xor_assoc c s d]
theorem on_not (s : Nat) (hs : s < 4294967296) (l : List Nat) (hl : ∀ x ∈ l, x < 256) : on s l = 4294967295 ^^^ reg (4294967295 - s) l := by
  rw [not32 _ (reg_lt (by omega) hl)]; rfl
/-- The sum of three rows added bit by bit is the sums added. -/
theorem on_add3 (l m k : List Nat) (hl : ∀ x ∈ l, x < 256) (hm : ∀ x ∈ m, x < 256) (hk : ∀ x ∈ k, x < 256) (h1 : l.length = m.length) (h2 : l.length = k.length) (hz : ∀ x ∈ List.zipWith (· ^^^ ·) (List.zipWith (· ^^^ ·) l m) k, x < 256) :
    on 0 (List.zipWith (· ^^^ ·) (List.zipWith (· ^^^ ·) l m) k) = on 0 l ^^^ on 0 m ^^^ on 0 k := by
  rw [on_not 0 (by omega) _ hz, on_not 0 (by omega) _ hl, on_not 0 (by omega) _ hm, on_not 0 (by omega) _ hk]
  have e := reg_xor (4294967295 ^^^ 4294967295) 4294967295 (List.zipWith (· ^^^ ·) l m) k (by simp [List.length_zipWith]; omega)
  rw [reg_xor 4294967295 4294967295 l m h1, Nat.xor_self, Nat.zero_xor] at e
  rw [show 4294967295 - 0 = 4294967295 by rfl, e]
  generalize reg 4294967295 l = p
  generalize reg 4294967295 m = q
  generalize reg 4294967295 k = r
  generalize 4294967295 = F
  apply Nat.eq_of_testBit_eq
  intro i
  simp only [Nat.testBit_xor]
  cases F.testBit i <;> cases p.testBit i <;> cases q.testBit i <;> cases r.testBit i <;> rfl

/-- The register is k steps from the number. -/
def shs : Nat → Nat → Nat
  | 0, r => r
  | k + 1, r => shs k (sh r)
theorem shs_add (j k r : Nat) : shs (j + k) r = shs k (shs j r) := by
  induction j generalizing r with
  | zero => simp [shs]
  | succ j ih => rw [show j + 1 + k = (j + k) + 1 by omega]; exact ih _
theorem shs_xor (k a b : Nat) : shs k (a ^^^ b) = shs k a ^^^ shs k b := by
  induction k generalizing a b with
  | zero => rfl
  | succ k ih => simp only [shs, sh_xor, ih]
theorem shs_pow (k x : Nat) : shs k (2 ^ k * x) = x := by
  induction k generalizing x with
  | zero => simp [shs]
  | succ k ih => simp only [shs]; rw [show 2 ^ (k + 1) * x = 2 * (2 ^ k * x) by rw [Nat.pow_succ]; rw [Nat.mul_comm (2 ^ k) 2, Nat.mul_assoc], sh_double, ih]
theorem shs_zero (k : Nat) : shs k 0 = 0 := by
  induction k with
  | zero => rfl
  | succ k ih => simp only [shs, sh_zero, ih]
theorem sh8_shs (r : Nat) : sh8 r = shs 8 r := rfl
theorem shs_lt (k : Nat) {r : Nat} (h : r < 4294967296) : shs k r < 4294967296 := by
  induction k generalizing r with
  | zero => exact h
  | succ k ih => exact ih (sh_lt h)
theorem xor_eq0 {a b : Nat} (h : a ^^^ b = 0) : a = b := by
  have e : (a ^^^ b) ^^^ b = 0 ^^^ b := by rw [h]
  rwa [Nat.xor_assoc, Nat.xor_self, Nat.xor_zero, Nat.zero_xor] at e
theorem sh_ne {r : Nat} (h : r < 4294967296) (hr : r ≠ 0) : sh r ≠ 0 := by
  unfold sh poly
  intro e
  by_cases h1 : r % 2 = 1
  · rw [if_pos h1] at e
    have := xor_eq0 e
    omega
  · rw [if_neg h1, Nat.xor_zero] at e
    omega
theorem shs_ne (k : Nat) {r : Nat} (h : r < 4294967296) (hr : r ≠ 0) : shs k r ≠ 0 := by
  induction k generalizing r with
  | zero => exact hr
  | succ k ih => exact ih (sh_lt h) (sh_ne h hr)
theorem shs_inj (k : Nat) {a b : Nat} (ha : a < 4294967296) (hb : b < 4294967296) (h : shs k a = shs k b) : a = b := by
  have e : shs k (a ^^^ b) = 0 := by rw [shs_xor, h, Nat.xor_self]
  rcases Nat.eq_zero_or_pos (a ^^^ b) with h0 | h0
  · exact xor_eq0 h0
  · exact absurd e (shs_ne k (xor_lt ha hb) (by omega))

theorem reg_num (r : Nat) (l : List Nat) (hl : ∀ x ∈ l, x < 256) : reg r l = shs (8 * l.length) (r ^^^ num l) := by
  induction l generalizing r with
  | nil => simp [reg, num, shs]
  | cons c l ih =>
    have hc : c < 2 ^ 8 := hl c (by simp)
    have e : num (c :: l) = c ^^^ 2 ^ 8 * num l := add_xor 8 (num l) c hc
    rw [reg, ih _ (fun x hx => hl x (by simp [hx])), List.length_cons, show 8 * (l.length + 1) = 8 + 8 * l.length by omega, shs_add, e, ← Nat.xor_assoc, shs_xor 8, shs_pow 8]
    rfl

theorem num_lt (l : List Nat) (hl : ∀ x ∈ l, x < 256) : num l < 256 ^ l.length := by
  induction l with
  | nil => simp [num]
  | cons c l ih =>
    have hc := hl c (by simp)
    have := ih (fun x hx => hl x (by simp [hx]))
    simp only [num, List.length_cons, Nat.pow_succ]
    omega
theorem num_append (l m : List Nat) : num (l ++ m) = num l + 256 ^ l.length * num m := by
  induction l with
  | nil => simp [num]
  | cons c l ih =>
    simp only [List.cons_append, num, ih, List.length_cons, Nat.pow_succ]
    rw [Nat.mul_add, ← Nat.mul_assoc, Nat.mul_comm 256 (256 ^ l.length)]
    omega
theorem num_inj {l m : List Nat} (hl : ∀ x ∈ l, x < 256) (hm : ∀ x ∈ m, x < 256) (hlen : l.length = m.length) (h : num l = num m) : l = m := by
  induction l generalizing m with
  | nil => cases m with
    | nil => rfl
    | cons d m => simp at hlen
  | cons c l ih => cases m with
    | nil => simp at hlen
    | cons d m =>
      have hc := hl c (by simp)
      have hd := hm d (by simp)
      simp only [num] at h
      have e1 : c = d := by omega
      have e2 : num l = num m := by omega
      rw [e1, ih (fun x hx => hl x (by simp [hx])) (fun x hx => hm x (by simp [hx])) (by simpa using hlen) e2]
theorem num_row {s : Nat} (h : s < 4294967296) : num (row s) = s := by simp only [row, num]; omega
theorem row_byt (s : Nat) : ∀ x ∈ row s, x < 256 := by
  intro x hx
  simp only [row, List.mem_cons, List.not_mem_nil, or_false] at hx
  omega
theorem row_inj {s t : Nat} (hs : s < 4294967296) (ht : t < 4294967296) (h : row s = row t) : s = t := by
  rw [← num_row hs, ← num_row ht, h]
theorem length_row (s : Nat) : (row s).length = 4 := rfl

/-- A bit of a byte turned is that bit of the number turned. -/
theorem num_turn (l : List Nat) (j t : Nat) (hl : ∀ x ∈ l, x < 256) (hj : j < l.length) (ht : t < 8) :
    num (l.set j (l[j] ^^^ 2 ^ t)) = num l ^^^ 2 ^ (8 * j + t) := by
  induction l generalizing j with
  | nil => simp at hj
  | cons c l ih =>
    have hc : c < 2 ^ 8 := hl c (by simp)
    have h2 : 2 ^ t < 2 ^ 8 := Nat.pow_lt_pow_right (by omega) ht
    cases j with
    | zero =>
      have hx : c ^^^ 2 ^ t < 2 ^ 8 := Nat.xor_lt_two_pow hc h2
      have e1 : num ((c ^^^ 2 ^ t) :: l) = (c ^^^ 2 ^ t) ^^^ 2 ^ 8 * num l := add_xor 8 (num l) _ hx
      have e2 : num (c :: l) = c ^^^ 2 ^ 8 * num l := add_xor 8 (num l) c hc
      simp only [List.set_cons_zero, List.getElem_cons_zero]
      rw [e1, e2, Nat.mul_zero, Nat.zero_add, Nat.xor_assoc, Nat.xor_comm (2 ^ t), ← Nat.xor_assoc]
    | succ j =>
      have hj' : j < l.length := by simpa using hj
      have e0 := ih j (fun x hx => hl x (by simp [hx])) hj'
      simp only [List.set_cons_succ, List.getElem_cons_succ]
      have e1 : num (c :: l.set j (l[j] ^^^ 2 ^ t)) = c ^^^ 2 ^ 8 * num (l.set j (l[j] ^^^ 2 ^ t)) := add_xor 8 _ c hc
      have e2 : num (c :: l) = c ^^^ 2 ^ 8 * num l := add_xor 8 (num l) c hc
      have e3 : 2 ^ (8 * (j + 1) + t) = 2 ^ 8 * 2 ^ (8 * j + t) := by rw [← Nat.pow_add]; congr 1; omega
      rw [e1, e2, e0, e3, Nat.xor_assoc]
      congr 1
      have : ∀ a b : Nat, 2 ^ 8 * (a ^^^ b) = 2 ^ 8 * a ^^^ 2 ^ 8 * b := fun a b => by
        apply Nat.eq_of_testBit_eq
        intro i
        simp only [Nat.testBit_xor, Nat.testBit_two_pow_mul]
        by_cases hi : 8 ≤ i <;> simp [hi]
      rw [this]

theorem mul_xor (k a b : Nat) : 2 ^ k * (a ^^^ b) = 2 ^ k * a ^^^ 2 ^ k * b := by
  apply Nat.eq_of_testBit_eq
  intro i
  simp only [Nat.testBit_xor, Nat.testBit_two_pow_mul]
  by_cases hi : k ≤ i <;> simp [hi]
theorem xor_cancel (a b : Nat) : a ^^^ (a ^^^ b) = b := by rw [← Nat.xor_assoc, Nat.xor_self, Nat.zero_xor]
/-- Bytes fit their sum. -/
def Fits (n : Nat) (z : List Nat) : Prop := row (on 0 (z.take n)) = z.drop n
theorem fits_iff (n : Nat) (z : List Nat) (hz : ∀ x ∈ z, x < 256) (hlen : z.length = n + 4) : Fits n z ↔ reg 4294967295 z = shs 32 4294967295 := by
  have ht : ∀ x ∈ z.take n, x < 256 := fun x hx => hz x (List.mem_of_mem_take hx)
  have hd : ∀ x ∈ z.drop n, x < 256 := fun x hx => hz x (List.mem_of_mem_drop hx)
  have hl : (z.drop n).length = 4 := by rw [List.length_drop]; omega
  have e : reg 4294967295 z = shs 32 (reg 4294967295 (z.take n) ^^^ num (z.drop n)) := by
    have h0 : reg 4294967295 z = reg 4294967295 (z.take n ++ z.drop n) := by rw [List.take_append_drop]
    rw [h0, reg_append, reg_num _ _ hd, hl]
  have hr := reg_lt (r := 4294967295) (by omega) ht
  have hnum : num (z.drop n) < 4294967296 := by have := num_lt _ hd; rw [hl] at this; exact this
  have ho : on 0 (z.take n) = 4294967295 ^^^ reg 4294967295 (z.take n) := on_not 0 (by omega) _ ht
  have ho2 := on_lt 0 (z.take n)
  rw [e]
  unfold Fits
  constructor
  · intro h
    have h2 : num (z.drop n) = on 0 (z.take n) := by rw [← h, num_row ho2]
    rw [h2, ho, Nat.xor_comm 4294967295, xor_cancel]
  · intro h
    have h2 := shs_inj 32 (xor_lt hr hnum) (by omega) h
    apply num_inj (row_byt _) hd (by rw [hl]; rfl)
    rw [num_row ho2, ho]
    generalize reg 4294967295 (z.take n) = R at *
    rw [← h2, Nat.xor_comm, xor_cancel]
theorem fits_row (x : List Nat) : Fits x.length (x ++ row (on 0 x)) := by
  unfold Fits
  rw [List.take_left, List.drop_left]
/-- If some of 32 bits that stand one behind the other are turned, bytes do not fit any more. -/
theorem fits_turned (n at_ p : Nat) (y z : List Nat) (hy : ∀ x ∈ y, x < 256) (hz : ∀ x ∈ z, x < 256) (ly : y.length = n + 4) (lz : z.length = n + 4) (hf : Fits n y)
    (hat : at_ ≤ 8 * (n + 4)) (hp : p < 4294967296) (hn : num z = num y ^^^ 2 ^ at_ * p) : Fits n z ↔ p = 0 := by
  rw [fits_iff n z hz lz]
  have hfy := (fits_iff n y hy ly).1 hf
  rw [reg_num _ _ hz, lz, hn, ← Nat.xor_assoc, shs_xor, ← ly, ← reg_num _ _ hy, hfy, ly]
  have e : shs (8 * (n + 4)) (2 ^ at_ * p) = shs (8 * (n + 4) - at_) p := by
    have : 8 * (n + 4) = at_ + (8 * (n + 4) - at_) := by omega
    rw [this, shs_add, shs_pow]
    congr 1
    omega
  rw [e]
  constructor
  · intro h
    rcases Nat.eq_zero_or_pos p with h0 | h0
    · exact h0
    · have h1 := shs_ne (8 * (n + 4) - at_) hp (by omega)
      have h2 : shs 32 4294967295 ^^^ (shs 32 4294967295 ^^^ shs (8 * (n + 4) - at_) p) = shs 32 4294967295 ^^^ shs 32 4294967295 := by rw [h]
      rw [xor_cancel, Nat.xor_self] at h2
      exact absurd h2 h1
  · intro h
    rw [h, shs_zero, Nat.xor_zero]
/-- Which bits are turned, of the first k. -/
def pat (bits at_ top : Nat) : Nat → Nat
  | 0 => 0
  | k + 1 => if at_ + k < top ∧ bits / 2 ^ k % 2 = 1 then pat bits at_ top k ^^^ 2 ^ k else pat bits at_ top k
theorem pat_lt (bits at_ top k : Nat) : pat bits at_ top k < 2 ^ k := by
  induction k with
  | zero => simp [pat]
  | succ k ih =>
    have h2 : 2 ^ k < 2 ^ (k + 1) := Nat.pow_lt_pow_right (by omega) (by omega)
    simp only [pat]
    split
    · exact Nat.xor_lt_two_pow (Nat.lt_trans ih h2) h2
    · exact Nat.lt_trans ih h2
theorem pat_turn (bits at_ top k : Nat) (h : at_ + k < top) (hb : bits / 2 ^ k % 2 = 1) : pat bits at_ top (k + 1) = pat bits at_ top k ^^^ 2 ^ k := by simp [pat, h, hb]
theorem pat_ne (bits at_ top k : Nat) (h : at_ + k < top) (hb : bits / 2 ^ k % 2 = 1) : pat bits at_ top (k + 1) ≠ 0 := by
  rw [pat_turn _ _ _ _ h hb]
  intro e
  have := xor_eq0 e
  have := pat_lt bits at_ top k
  omega
theorem pat_stay (bits at_ top k : Nat) (hb : ¬ bits / 2 ^ k % 2 = 1) : pat bits at_ top (k + 1) = pat bits at_ top k := by simp [pat, hb]
theorem pat_end (bits at_ top k : Nat) (h : ¬ at_ + k < top) : ∀ j, pat bits at_ top (k + j) = pat bits at_ top k := by
  intro j
  induction j with
  | zero => rfl
  | succ j ih =>
    rw [← ih, ← Nat.add_assoc]
    simp only [pat]
    rw [if_neg (by omega)]
/-- Behind any bytes unlike four make unlike sums. -/
theorem on_four (s : Nat) (hs : s < 4294967296) (x y : List Nat) (hx : ∀ a ∈ x, a < 256) (hy : ∀ a ∈ y, a < 256) (lx : x.length = 4) (ly : y.length = 4) (h : on s x = on s y) : x = y := by
  have h1 := reg_lt (r := 4294967295 - s) (by omega) hx
  have h2 := reg_lt (r := 4294967295 - s) (by omega) hy
  unfold on at h
  have h3 : reg (4294967295 - s) x = reg (4294967295 - s) y := by omega
  have n1 := num_lt x hx
  have n2 := num_lt y hy
  rw [lx] at n1
  rw [ly] at n2
  rw [reg_num _ _ hx, reg_num _ _ hy, lx, ly] at h3
  have h4 := shs_inj _ (xor_lt (by omega) n1) (xor_lt (by omega) n2) h3
  have h5 : num x = num y := by
    rw [← xor_cancel (4294967295 - s) (num x), h4, xor_cancel]
  exact num_inj hx hy (by rw [lx, ly]) h5
end Go.Proofs.Ytmnabhennibddaa.Crc
