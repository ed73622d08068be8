/- Numbers as bytes, and back, as plain functions on lists; their laws. No conditions. -/
import Derived.Lib.BitFns
set_option linter.unusedSimpArgs false
set_option linter.unusedVariables false
namespace Go.Proofs.Ytmnabhennibddaa.Dig

/-- In how many bytes a number is written. -/
def sz (n : Nat) : Nat :=
  if n < 128 then 1 else if n < 16384 then 2 else if n < 2097152 then 3 else if n < 268435456 then 4 else if n < 34359738368 then 5 else if n < 4398046511104 then 6 else if n < 562949953421312 then 7 else 8
theorem sz_pos (n : Nat) : 1 ≤ sz n := by unfold sz; (repeat' split) <;> omega
theorem sz_le (n : Nat) : sz n ≤ 8 := by unfold sz; (repeat' split) <;> omega
theorem sz_cases (n : Nat) (h : n < 72057594037927936) :
    (sz n = 1 ∧ n < 128) ∨ (sz n = 2 ∧ 128 ≤ n ∧ n < 16384) ∨ (sz n = 3 ∧ 16384 ≤ n ∧ n < 2097152) ∨ (sz n = 4 ∧ 2097152 ≤ n ∧ n < 268435456) ∨ (sz n = 5 ∧ 268435456 ≤ n ∧ n < 34359738368) ∨
    (sz n = 6 ∧ 34359738368 ≤ n ∧ n < 4398046511104) ∨ (sz n = 7 ∧ 4398046511104 ≤ n ∧ n < 562949953421312) ∨ (sz n = 8 ∧ 562949953421312 ≤ n ∧ n < 72057594037927936) := by
  by_cases h0 : n < 128
  · exact .inl ⟨by unfold sz; rw [if_pos h0], h0⟩
  by_cases h1 : n < 16384
  · exact .inr (.inl ⟨by unfold sz; rw [if_neg h0, if_pos h1], by omega, h1⟩)
  by_cases h2 : n < 2097152
  · exact .inr (.inr (.inl ⟨by unfold sz; rw [if_neg h0, if_neg h1, if_pos h2], by omega, h2⟩))
  by_cases h3 : n < 268435456
  · exact .inr (.inr (.inr (.inl ⟨by unfold sz; rw [if_neg h0, if_neg h1, if_neg h2, if_pos h3], by omega, h3⟩)))
  by_cases h4 : n < 34359738368
  · exact .inr (.inr (.inr (.inr (.inl ⟨by unfold sz; rw [if_neg h0, if_neg h1, if_neg h2, if_neg h3, if_pos h4], by omega, h4⟩))))
  by_cases h5 : n < 4398046511104
  · exact .inr (.inr (.inr (.inr (.inr (.inl ⟨by unfold sz; rw [if_neg h0, if_neg h1, if_neg h2, if_neg h3, if_neg h4, if_pos h5], by omega, h5⟩)))))
  by_cases h6 : n < 562949953421312
  · exact .inr (.inr (.inr (.inr (.inr (.inr (.inl ⟨by unfold sz; rw [if_neg h0, if_neg h1, if_neg h2, if_neg h3, if_neg h4, if_neg h5, if_pos h6], by omega, h6⟩))))))
  · exact .inr (.inr (.inr (.inr (.inr (.inr (.inr (⟨by unfold sz; rw [if_neg h0, if_neg h1, if_neg h2, if_neg h3, if_neg h4, if_neg h5, if_neg h6], by omega, h⟩)))))))

theorem bitLen_zero : Lib.bitLen 0 = 0 := by decide
theorem bitLen_bounds (x k : Nat) (hk : k ≤ 63) (h1 : 2 ^ k ≤ x) (h2 : x < 2 ^ (k + 1)) : Lib.bitLen x = k + 1 := by
  have hx : x < 2 ^ 64 := Nat.lt_of_lt_of_le h2 (Nat.pow_le_pow_right (by omega) (by omega))
  rw [Lib.bitLen_shift k x h1 hx]
  have h3 : x / 2 ^ k = 1 := by
    have hp : 0 < 2 ^ k := Nat.pow_pos (by omega)
    have a : 1 ≤ x / 2 ^ k := (Nat.le_div_iff_mul_le hp).2 (by omega)
    have b : x / 2 ^ k < 2 := (Nat.div_lt_iff_lt_mul hp).2 (by rw [Nat.pow_succ] at h2; omega)
    omega
  rw [h3]
  rfl
theorem bitLen_is (x : Nat) (h : x < 2 ^ 64) (h0 : x ≠ 0) : ∃ k, k ≤ 63 ∧ 2 ^ k ≤ x ∧ x < 2 ^ (k + 1) ∧ Lib.bitLen x = k + 1 := by
  have h1 := Nat.log2_self_le h0
  have h2 := Nat.lt_log2_self (n := x)
  have h3 : Nat.log2 x < 64 := (Nat.log2_lt h0).2 h
  exact ⟨Nat.log2 x, by omega, h1, h2, bitLen_bounds x _ (by omega) h1 h2⟩
theorem bitLen_mono (x k : Nat) (hk : k ≤ 64) (h : x < 2 ^ k) : Lib.bitLen x ≤ k := Lib.bitLen_le x k hk h
theorem bitLen_ge (x k : Nat) (h : x < 2 ^ 64) (h1 : 2 ^ k ≤ x) : k + 1 ≤ Lib.bitLen x := by
  have h0 : x ≠ 0 := by have : 0 < 2 ^ k := Nat.pow_pos (by omega); omega
  obtain ⟨j, hj, h3, h4, h5⟩ := bitLen_is x h h0
  rw [h5]
  rcases Nat.lt_or_ge j k with hlt | hge
  · have : 2 ^ (j + 1) ≤ 2 ^ k := Nat.pow_le_pow_right (by omega) hlt
    omega
  · omega
/-- The program's own reckoning of it. -/
theorem sz_bits (n : Nat) (h : n < 72057594037927936) : max ((Lib.bitLen n + 6) / 7) 1 = sz n := by
  have g := fun k (h1 : 2 ^ k ≤ n) => bitLen_ge n k (by omega) h1
  have l := fun k (hk : k ≤ 64) (h1 : n < 2 ^ k) => bitLen_mono n k hk h1
  rcases sz_cases n h with ⟨e, h2⟩ | ⟨e, h1, h2⟩ | ⟨e, h1, h2⟩ | ⟨e, h1, h2⟩ | ⟨e, h1, h2⟩ | ⟨e, h1, h2⟩ | ⟨e, h1, h2⟩ | ⟨e, h1, h2⟩
  · have := l 7 (by omega) (by omega); omega
  · have := l 14 (by omega) (by omega); have := g 7 (by omega); omega
  · have := l 21 (by omega) (by omega); have := g 14 (by omega); omega
  · have := l 28 (by omega) (by omega); have := g 21 (by omega); omega
  · have := l 35 (by omega) (by omega); have := g 28 (by omega); omega
  · have := l 42 (by omega) (by omega); have := g 35 (by omega); omega
  · have := l 49 (by omega) (by omega); have := g 42 (by omega); omega
  · have := l 56 (by omega) (by omega); have := g 49 (by omega); omega

/-- k bytes of a number, the most significant one ahead. -/
def be : Nat → Nat → List Nat
  | 0, _ => []
  | k + 1, n => be k (n / 256) ++ [n % 256]
theorem length_be (k n : Nat) : (be k n).length = k := by
  induction k generalizing n with
  | zero => rfl
  | succ k ih => simp [be, ih]
theorem be_byt (k n : Nat) : ∀ x ∈ be k n, x < 256 := by
  induction k generalizing n with
  | zero => intro x hx; simp [be] at hx
  | succ k ih =>
    intro x hx
    simp only [be, List.mem_append, List.mem_singleton] at hx
    rcases hx with h | h
    · exact ih _ x h
    · omega
/-- The bytes' own places. -/
theorem be_get (k n j : Nat) (h : j < k) : (be k n)[k - 1 - j]? = some (n / 256 ^ j % 256) := by
  induction k generalizing n j with
  | zero => omega
  | succ k ih =>
    simp only [be]
    cases j with
    | zero =>
      rw [show k + 1 - 1 - 0 = k by omega, List.getElem?_append_right (by rw [length_be]; omega), length_be]
      simp
    | succ j =>
      rw [List.getElem?_append_left (by rw [length_be]; omega), show k + 1 - 1 - (j + 1) = k - 1 - j by omega, ih _ _ (by omega), Nat.pow_succ, Nat.mul_comm, Nat.div_div_eq_div_mul]
theorem be_ext (k n : Nat) (l : List Nat) (hl : l.length = k) (h : ∀ j, j < k → l.getD (k - 1 - j) 0 = n / 256 ^ j % 256) : l = be k n := by
  apply List.ext_getElem (by rw [hl, length_be])
  intro i h1 h2
  have hk : i < k := by omega
  have e := h (k - 1 - i) (by omega)
  have e2 := be_get k n (k - 1 - i) (by omega)
  rw [show k - 1 - (k - 1 - i) = i by omega] at e e2
  rw [List.getElem?_eq_getElem h2] at e2
  rw [List.getD_eq_getElem?_getD, List.getElem?_eq_getElem h1] at e
  simp only [Option.getD_some] at e
  injection e2 with e2
  rw [e, e2]
/-- Bytes as a number. -/
def val (a : Nat) (l : List Nat) : Nat := l.foldl (fun a b => a * 256 + b) a
theorem val_snoc (a : Nat) (l : List Nat) (b : Nat) : val a (l ++ [b]) = val a l * 256 + b := by simp [val]
theorem val_be (k n : Nat) (h : n < 256 ^ k) : val 0 (be k n) = n := by
  induction k generalizing n with
  | zero => simp [be, val] at *; omega
  | succ k ih =>
    simp only [be]
    rw [val_snoc, ih _ (by rw [Nat.pow_succ] at h; exact Nat.div_lt_of_lt_mul (by rw [Nat.mul_comm]; exact h))]
    omega
theorem val_cons (c : Nat) (l : List Nat) : val 0 (c :: l) = val c l := by simp [val]
theorem val_lt (a : Nat) (l : List Nat) (hl : ∀ x ∈ l, x < 256) (b : Nat) (h : a < b) : val a l < b * 256 ^ l.length := by
  induction l generalizing a b with
  | nil => simpa [val] using h
  | cons c l ih =>
    have hc := hl c (by simp)
    have := ih (a * 256 + c) (fun x hx => hl x (by simp [hx])) (b * 256) (by omega)
    rw [List.length_cons, Nat.pow_succ, Nat.mul_comm (256 ^ l.length), ← Nat.mul_assoc]
    exact this
theorem be_val (l : List Nat) (hl : ∀ x ∈ l, x < 256) : be l.length (val 0 l) = l := by
  generalize hn : l.length = n
  induction n generalizing l with
  | zero => have : l = [] := List.length_eq_zero_iff.1 hn; subst this; rfl
  | succ n ih =>
    have hne : l ≠ [] := by intro h; subst h; simp at hn
    have e := List.dropLast_concat_getLast hne
    generalize l.dropLast = m at e
    generalize l.getLast hne = b at e
    subst e
    have hb := hl b (by simp)
    simp only [be]
    rw [val_snoc, show (val 0 m * 256 + b) / 256 = val 0 m by omega, show (val 0 m * 256 + b) % 256 = b by omega, ih m (fun x hx => hl x (by simp [hx])) (by simpa using hn)]

/-- The first byte's mark: k - 1 bits 1 ahead. -/
def hdr (k : Nat) : Nat := 256 - 2 ^ (9 - k)
/-- A number's bytes. -/
def enc (n : Nat) : List Nat :=
  match be (sz n) n with
  | [] => []
  | b :: t => (hdr (sz n) + b) :: t
theorem length_enc (n : Nat) : (enc n).length = sz n := by
  have h := length_be (sz n) n
  unfold enc
  cases hb : be (sz n) n with
  | nil => rw [hb] at h; simp at h; have := sz_pos n; omega
  | cons b t => rw [hb] at h; simpa using h
/-- How a number's first byte is bounded. -/
theorem be_head {k n b : Nat} {t : List Nat} (hk : 1 ≤ k) (hk8 : k ≤ 8) (hn : n < 128 ^ k) (h : be k n = b :: t) : b < 2 ^ (8 - k) ∧ val b t = n ∧ t.length = k - 1 ∧ (∀ x ∈ t, x < 256) := by
  have hl := length_be k n
  have hby := be_byt k n
  have hv := val_be k n (Nat.lt_of_lt_of_le hn (Nat.pow_le_pow_left (by omega) k))
  rw [h] at hl hby hv
  rw [val_cons] at hv
  simp only [List.length_cons] at hl
  have ht : t.length = k - 1 := by omega
  refine ⟨?_, hv, ht, fun x hx => hby x (by simp [hx])⟩
  have hbt : b * 256 ^ t.length ≤ n := by
    rw [← hv]
    clear hv h hl ht hby hn
    induction t generalizing b with
    | nil => simp [val]
    | cons c t ih =>
      have := ih (b := b * 256 + c)
      rw [List.length_cons, Nat.pow_succ]
      have e : val b (c :: t) = val (b * 256 + c) t := rfl
      rw [e]
      refine Nat.le_trans ?_ this
      rw [Nat.add_mul, Nat.mul_comm (256 ^ t.length), ← Nat.mul_assoc]
      exact Nat.le_add_right _ _
  rw [ht] at hbt
  have e : 128 ^ k = 2 ^ (8 - k) * 256 ^ (k - 1) := by
    rw [show 128 = 2 ^ 7 by rfl, show 256 = 2 ^ 8 by rfl, ← Nat.pow_mul, ← Nat.pow_mul, ← Nat.pow_add]
    congr 1
    omega
  rw [e] at hn
  exact Nat.lt_of_mul_lt_mul_right (Nat.lt_of_le_of_lt hbt hn)
theorem sz_lt (n : Nat) (h : n < 72057594037927936) : n < 128 ^ sz n := by
  rcases sz_cases n h with ⟨e, h2⟩ | ⟨e, h1, h2⟩ | ⟨e, h1, h2⟩ | ⟨e, h1, h2⟩ | ⟨e, h1, h2⟩ | ⟨e, h1, h2⟩ | ⟨e, h1, h2⟩ | ⟨e, h1, h2⟩ <;> rw [e] <;> omega
theorem sz_of_lt (n k : Nat) (hk : 1 ≤ k) (hk8 : k ≤ 8) (h : n < 128 ^ k) : sz n ≤ k := by
  rcases (show k = 1 ∨ k = 2 ∨ k = 3 ∨ k = 4 ∨ k = 5 ∨ k = 6 ∨ k = 7 ∨ k = 8 by omega) with rfl | rfl | rfl | rfl | rfl | rfl | rfl | rfl <;> simp only [Nat.reducePow] at h <;> unfold sz <;> (repeat' split) <;> omega
theorem sz_ge (n k : Nat) (hk : 2 ≤ k) (hk8 : k ≤ 8) (h : 128 ^ (k - 1) ≤ n) : k ≤ sz n := by
  rcases (show k = 2 ∨ k = 3 ∨ k = 4 ∨ k = 5 ∨ k = 6 ∨ k = 7 ∨ k = 8 by omega) with rfl | rfl | rfl | rfl | rfl | rfl | rfl <;> simp only [Nat.reducePow, Nat.reduceSub] at h <;> unfold sz <;> (repeat' split) <;> omega
theorem enc_form (n : Nat) (h : n < 72057594037927936) : ∃ b t, enc n = (hdr (sz n) + b) :: t ∧ b < 2 ^ (8 - sz n) ∧ val b t = n ∧ t.length = sz n - 1 ∧ (∀ x ∈ t, x < 256) ∧ be (sz n) n = b :: t := by
  have hl := length_be (sz n) n
  cases hb : be (sz n) n with
  | nil => rw [hb] at hl; simp at hl; have := sz_pos n; omega
  | cons b t =>
    obtain ⟨h1, h2, h3, h4⟩ := be_head (sz_pos n) (sz_le n) (sz_lt n h) hb
    exact ⟨b, t, by simp [enc, hb], h1, h2, h3, h4, rfl⟩
theorem hdr_lt (k b : Nat) (hk : 1 ≤ k) (hk8 : k ≤ 8) (hb : b < 2 ^ (8 - k)) : hdr k + b < 256 := by
  unfold hdr
  have e : 2 ^ (9 - k) = 2 * 2 ^ (8 - k) := by rw [show 9 - k = (8 - k) + 1 by omega, Nat.pow_succ, Nat.mul_comm]
  have : 2 ^ (8 - k) ≤ 2 ^ 7 := Nat.pow_le_pow_right (by omega) (by omega)
  omega
theorem enc_byt (n : Nat) (h : n < 72057594037927936) : ∀ x ∈ enc n, x < 256 := by
  obtain ⟨b, t, e, h1, _, _, h4, _⟩ := enc_form n h
  rw [e]
  intro x hx
  simp only [List.mem_cons] at hx
  rcases hx with rfl | hx
  · exact hdr_lt _ _ (sz_pos n) (sz_le n) h1
  · exact h4 x hx

/-- How many bits 1 stand ahead in a byte. -/
def lead (c : Nat) : Nat :=
  if c < 128 then 0 else if c < 192 then 1 else if c < 224 then 2 else if c < 240 then 3 else if c < 248 then 4 else if c < 252 then 5 else if c < 254 then 6 else if c < 255 then 7 else 8
theorem lead_le (c : Nat) : lead c ≤ 8 := by unfold lead; (repeat' split) <;> omega
theorem lead_bits (c : Nat) (h : c < 256) : 8 - (Lib.bitLen (255 - c) : Int) = (lead c : Int) := by
  have : ∀ c : Fin 256, 8 - (Lib.bitLen (255 - c.val) : Int) = (lead c.val : Int) := by decide +kernel
  exact this ⟨c, h⟩
theorem lead_hdr (k b : Nat) (hk : 1 ≤ k) (hk8 : k ≤ 8) (hb : b < 2 ^ (8 - k)) : lead (hdr k + b) = k - 1 ∧ (hdr k + b) % 2 ^ (8 - k) = b := by
  rcases (show k = 1 ∨ k = 2 ∨ k = 3 ∨ k = 4 ∨ k = 5 ∨ k = 6 ∨ k = 7 ∨ k = 8 by omega) with rfl | rfl | rfl | rfl | rfl | rfl | rfl | rfl <;> simp only [hdr, Nat.reducePow, Nat.reduceSub] at hb ⊢ <;> refine ⟨?_, by omega⟩ <;> unfold lead <;> (repeat' split) <;> omega
theorem lead_split (c : Nat) (h : c < 256) (hl : lead c + 1 ≤ 8) : c = hdr (lead c + 1) + c % 2 ^ (8 - (lead c + 1)) := by
  have : ∀ c : Fin 256, lead c.val + 1 ≤ 8 → c.val = hdr (lead c.val + 1) + c.val % 2 ^ (8 - (lead c.val + 1)) := by decide +kernel
  exact this ⟨c, h⟩ hl

/-- A number off bytes, up to a greatest one: the number, the error, what is left (of no use behind an error). -/
def num1 (most : Nat) (l : List Nat) : Nat × Nat × List Nat :=
  match l with
  | [] => (0, 3, [])
  | c :: t =>
    if 8 < lead c + 1 then (0, 4, []) else
    if t.length < lead c then (0, 3, []) else
    if sz (val (c % 2 ^ (8 - (lead c + 1))) (t.take (lead c))) ≠ lead c + 1 ∨ most < val (c % 2 ^ (8 - (lead c + 1))) (t.take (lead c)) then (0, 4, []) else
    (val (c % 2 ^ (8 - (lead c + 1))) (t.take (lead c)), 0, t.drop (lead c))
/-- What was written is read. -/
theorem num1_enc (most n : Nat) (h : n < 72057594037927936) (hm : n ≤ most) (l : List Nat) : num1 most (enc n ++ l) = (n, 0, l) := by
  obtain ⟨b, t, e, h1, h2, h3, h4, _⟩ := enc_form n h
  obtain ⟨h5, h6⟩ := lead_hdr (sz n) b (sz_pos n) (sz_le n) h1
  have hp := sz_pos n
  have h8 := sz_le n
  rw [e, List.cons_append]
  simp only [num1]
  rw [h5, show sz n - 1 + 1 = sz n by omega, h6, if_neg (by omega), if_neg (by rw [List.length_append]; omega), List.take_append_of_le_length (by omega), List.take_of_length_le (by omega), h2, if_neg (by omega), List.drop_append_of_le_length (by omega), List.drop_of_length_le (by omega)]
  rfl
/-- What was read, written again, is what was taken off. -/
theorem num1_ok (most n : Nat) (l r : List Nat) (hl : ∀ x ∈ l, x < 256) (h : num1 most l = (n, 0, r)) : l = enc n ++ r ∧ n ≤ most ∧ n < 72057594037927936 := by
  cases l with
  | nil => simp [num1] at h
  | cons c t =>
    simp only [num1] at h
    by_cases h1 : 8 < lead c + 1
    · rw [if_pos h1] at h; simp at h
    · rw [if_neg h1] at h
      by_cases h2 : t.length < lead c
      · rw [if_pos h2] at h; simp at h
      · rw [if_neg h2] at h
        have hc := hl c (by simp)
        have ht : ∀ x ∈ t.take (lead c), x < 256 := fun x hx => hl x (by simp [List.mem_of_mem_take hx])
        have hb : c % 2 ^ (8 - (lead c + 1)) < 2 ^ (8 - (lead c + 1)) := Nat.mod_lt _ (Nat.pow_pos (by omega))
        have hlt := val_lt _ _ ht _ hb
        have hlen : (t.take (lead c)).length = lead c := by rw [List.length_take]; omega
        rw [hlen] at hlt
        generalize hk : lead c = k at *
        generalize hv : val (c % 2 ^ (8 - (k + 1))) (t.take k) = v at *
        have h56 : v < 72057594037927936 := by
          have e : 2 ^ (8 - (k + 1)) * 256 ^ k = 128 ^ (k + 1) := by
            rw [show 128 = 2 ^ 7 by rfl, show 256 = 2 ^ 8 by rfl, ← Nat.pow_mul, ← Nat.pow_mul, ← Nat.pow_add]
            congr 1
            omega
          rw [e] at hlt
          exact Nat.lt_of_lt_of_le hlt (Nat.le_trans (Nat.pow_le_pow_right (by omega) (show k + 1 ≤ 8 by omega)) (by decide))
        by_cases h3 : sz v ≠ k + 1 ∨ most < v
        · rw [if_pos h3] at h; simp at h
        · rw [if_neg h3] at h
          simp only [Prod.mk.injEq, true_and] at h
          obtain ⟨rfl, rfl⟩ := h
          have hs : sz v = k + 1 := by omega
          refine ⟨?_, by omega, h56⟩
          have hcs := lead_split c hc (by rw [hk]; omega)
          rw [hk] at hcs
          have hbe : be (k + 1) v = c % 2 ^ (8 - (k + 1)) :: t.take k := by
            have hcb : c % 2 ^ (8 - (k + 1)) < 256 := Nat.lt_of_le_of_lt (Nat.mod_le _ _) hc
            have := be_val (c % 2 ^ (8 - (k + 1)) :: t.take k) (by intro x hx; simp only [List.mem_cons] at hx; rcases hx with rfl | hx; exact hcb; exact ht x hx)
            rwa [val_cons, hv, List.length_cons, hlen] at this
          unfold enc
          rw [hs, hbe]
          simp only [List.cons_append, List.take_append_drop]
          rw [← hcs]
end Go.Proofs.Ytmnabhennibddaa.Dig
