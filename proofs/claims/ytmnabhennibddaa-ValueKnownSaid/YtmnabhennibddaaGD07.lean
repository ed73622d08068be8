/- Contracts of digits' writers: size, row, U, S, Text. No conditions. -/
import Derived.Test.YtmnabhennibddaaGD03
import Derived.Test.YtmnabhennibddaaGD06
import Derived.Test.YtmnabhennibddaaGD04
import Derived.BigRegion
import Derived.RegionTactic
import Derived.ChangeAlike
set_option linter.unusedSimpArgs false
set_option linter.unusedVariables false
namespace Go.Proofs.Ytmnabhennibddaa
open Go.RowKit
attribute [local go_sem] max2_mx max_2

set_option maxHeartbeats 4000000 in
theorem size_any (n : Nat) (h : n < 72057594037927936) (w : World) :
    Calls Try.prog 83 #[.int .u64 n] w fun e w' => e = .returned (.int .i64 (Dig.sz n : Int)) ∧ w = w' := by
  have hb : Lib.bitLen n ≤ 56 := Dig.bitLen_mono n 56 (by omega) h
  have he := Dig.sz_bits n h
  have hmx : mxI (((Lib.bitLen n : Int) + 7 - 1) / 7) 1 = (Dig.sz n : Int) := by
    unfold mxI
    rw [← he]
    split <;> omega
  have HE := Lib.hid he
  clear he
  go_enter Try.func83, Try.ntmps83
  go_wp2_with fail
  refine (Try.bits_Len64 n _ (by omega) (by omega)).mono ?_
  rintro e w' ⟨rfl, rfl⟩
  rw [Int.toNat_natCast]
  generalize Lib.bitLen n = b at *
  go_wp2
  go_ret
  exact ⟨by rw [← hmx]; rfl, rfl⟩

theorem hdr_or (k b : Nat) (h1 : 1 ≤ k) (h8 : k ≤ 8) (hb : b < 2 ^ (8 - k)) : bits .or .u8 (b : Int) (255 * 2 ^ (9 - k) % 256) = ((Dig.hdr k + b : Nat) : Int) := by
  have : ∀ k : Fin 9, ∀ b : Fin 128, 1 ≤ k.val → b.val < 2 ^ (8 - k.val) → bits .or .u8 (b.val : Int) (255 * 2 ^ (9 - k.val) % 256) = ((Dig.hdr k.val + b.val : Nat) : Int) := by decide +kernel
  have hb2 : b < 128 := Nat.lt_of_lt_of_le hb (Nat.pow_le_pow_right (by omega) (show 8 - k ≤ 7 by omega))
  exact this ⟨k, by omega⟩ ⟨b, hb2⟩ h1 hb

set_option maxHeartbeats 8000000 in
set_option maxRecDepth 100000 in
theorem digRow_any (n : Nat) (h : n < 72057594037927936) (w : World) :
    Calls Try.prog 69 #[.int .u64 n] w fun e w' => ∃ v, e = .returned v ∧ w'.ownsRow w.heap.size 5 1 v (Dig.enc n).length (bv (Dig.enc n)) ∧ Below w.heap.size w w' := by
  obtain ⟨i5, hi5, hz5, hs5, hb5⟩ := info_parts infoU8
  have hk1 := Dig.sz_pos n
  have hk8 := Dig.sz_le n
  go_enter Try.func69, Try.ntmps69
  go_wp2_with fail
  refine (size_any n h _).mono ?_
  rintro e w' ⟨rfl, rfl⟩
  obtain ⟨k, hk⟩ : ∃ k, k = Dig.sz n := ⟨_, rfl⟩
  rw [← hk] at hk1 hk8
  rw [← hk]
  have HK := Lib.hid hk
  clear hk
  go_wp2_with (first | (at_make; refine wpList_make_full _ rfl (.tmp 8) (.tmp 8) 22 rfl w.heap.size 5 i5 (.int .u8 0) 1 Try.underlying22 hi5 hz5 hs5 .i64 .i64 k k k rfl rfl rfl rfl (by rw [hb5]; omega) (by unfold maxLen; omega) (Nat.le_refl _) ?_; intro w2 ho hg; have hb2 := grown_below (bel0 w) hg (by intro k hk; cases hk); have HO := Lib.hid ho; clear ho hg) | fail)
  have hz : (madeCells (Value.int .u8 0).cells (k * 1)).toList = bv (List.replicate k 0) := by
    rw [Nat.mul_one]
    show (madeCells #[Value.int .u8 0] k).toList = _
    rw [toList_madeCells_one, bv, List.map_replicate]; rfl
  rw [hz] at HO
  clear hz
  obtain ⟨g, hg⟩ : ∃ g, g = w.heap.size := ⟨_, rfl⟩
  have HO' : Hid (w2.ownsRow w.heap.size 5 1 (.slice (some ⟨g, 0, none⟩) k k) k (bv (List.replicate k 0))) := by rw [hg]; exact HO
  have hgB : w.heap.size ≤ g := by omega
  rw [← hg]
  clear hg HO
  go_loopw [11] (fun i wr => ∃ j : Nat, ∃ L : List Nat, j ≤ k ∧ i = .int .i64 j ∧ Hid (wr.ownsRow w.heap.size 5 1 (.slice (some ⟨g, 0, none⟩) k k) k (bv L)) ∧ Hid (Byt L) ∧ Hid (∀ t, t < j → L.getD (k - 1 - t) 0 = n / 256 ^ t % 256) ∧ Below w.heap.size w wr) (fun i _ => k - (intOf i).toNat)
  case atStart => exact ⟨0, _, Nat.zero_le _, rfl, HO', Lib.hid (fun x hx => by rw [(List.mem_replicate.1 hx).2]; decide), Lib.hid (fun t ht => absurd ht (by omega)), hb2⟩
  case round =>
    clear HO' hb2
    obtain ⟨j, L, hj, rfl, HO, HL, HX, hb⟩ := hrel
    have HLn := Lib.hid (own_len HO.out)
    by_cases hlt : j < k
    · have hjl : k - 1 - j < L.length := by rw [← HLn.out]; omega
      have hc4 := own_cell HO.out hjl
      have hf4 := HO.out.frozenAt (k - 1 - j)
      generalize L[k - 1 - j] = old at *
      clear hjl
      have hsh : (n : Int) / 2 ^ (8 * j) % 256 = ((n / 256 ^ j % 256 : Nat) : Int) := by
        rw [show 256 ^ j = 2 ^ (8 * j) by rw [Nat.pow_mul]]
        push_cast
        rfl
      have hx : n / 256 ^ j % 256 < 256 := Nat.mod_lt _ (by omega)
      generalize hxe : n / 256 ^ j % 256 = x at *
      have HXE := Lib.hid hxe
      clear hxe
      go_wp2_with fail
      exact ⟨⟨j + 1, L.set (k - 1 - j) x, by omega, by go_num, Lib.hid (own_store HO.out _ _), Lib.hid (by
          intro t ht
          rcases List.mem_or_eq_of_mem_set ht with h | h
          · exact HL.out t h
          · rw [h]; exact hx), Lib.hid (by
          intro t ht
          by_cases htj : t = j
          · subst htj
            rw [List.getD_eq_getElem?_getD, List.getElem?_set_self (by rw [← HLn.out]; omega), HXE.out]; rfl
          · have := HX.out t (by omega)
            rw [List.getD_eq_getElem?_getD] at this ⊢
            rw [List.getElem?_set_ne (by omega)]; exact this), hb.setCell (p := ⟨g, k - 1 - j, none⟩) hgB _⟩, by simp [intOf]; omega⟩
    · obtain rfl : j = k := by omega
      have hbe := Dig.be_ext j n L HLn.out.symm HX.out
      obtain ⟨b, t, he, hb8, _, htl, _, hbt⟩ := Dig.enc_form n h
      rw [← HK.out] at hb8 hbt he
      have hLc : L = b :: t := hbe.trans hbt
      subst hLc
      have hc4 := own_cell HO.out (k := 0) (by simp)
      have hf4 := HO.out.frozenAt 0
      simp only [List.getElem_cons_zero] at hc4
      have hbb : b < 256 := HL.out b (by simp)
      have hor := hdr_or j b hk1 hk8 hb8
      have HE := Lib.hid he
      have hlt256 := Dig.hdr_lt j b hk1 hk8 hb8
      clear he hbe hbt htl
      generalize Dig.hdr j + b = y at *
      go_wp2_with fail
      go_region
      go_wp2
      go_ret
      have hst := own_store HO.out 0 y
      rw [List.set_cons_zero, ← HE.out] at hst
      have hl := own_len hst
      rw [hl] at hst
      exact ⟨_, rfl, by rw [hl]; exact hst.drew, (hb.setCell (p := ⟨g, 0, none⟩) hgB _).drew⟩

/-- A result of bytes and an error number. -/
def TwoB (w w' : World) (e : Ending) (l : List Nat) (k : Int) : Prop :=
  ∃ v, e = .returned (.tuple #[v, .int .i64 k]) ∧ w'.ownsRow w.heap.size 5 1 v l.length (bv l) ∧ Below w.heap.size w w'

set_option maxHeartbeats 4000000 in
theorem U_any (n : Int) (w : World) (h1 : 0 ≤ n) (h2 : n ≤ 9007199254740991) :
    Calls Try.prog 37 #[.int .i64 n] w fun e w' => TwoB w w' e (Dig.enc n.toNat) 0 := by
  obtain ⟨m, rfl⟩ := Int.eq_ofNat_of_zero_le h1
  rw [Int.toNat_natCast]
  go_enter Try.func37, Try.ntmps37
  go_wp2_with fail
  refine (digRow_any m (by omega) _).mono ?_
  rintro e w1 ⟨v, rfl, ho, hb⟩
  go_wp2_with fail
  go_ret2
  exact ⟨v, rfl, ho, hb⟩
set_option maxHeartbeats 4000000 in
theorem U_no (n : Int) (w : World) (h : n < 0 ∨ 9007199254740991 < n) :
    Calls Try.prog 37 #[.int .i64 n] w fun e w' => e = .returned (.tuple #[.slice none 0 0, .int .i64 9]) ∧ w = w' := by
  by_cases h1 : n < 0
  · go_enter Try.func37, Try.ntmps37
    go_wp2_with fail
    go_ret2
    exact ⟨rfl, rfl⟩
  · have h2 : 9007199254740991 < n := by omega
    go_enter Try.func37, Try.ntmps37
    go_wp2_with fail
    go_ret2
    exact ⟨rfl, rfl⟩
/-- A signed number's number. -/
def zig (n : Int) : Nat := if 0 ≤ n then (2 * n).toNat else (-2 * n - 1).toNat
theorem zig_pos (n : Int) (h0 : 0 ≤ n) (h2 : n ≤ 9007199254740991) : bits .xor .u64 (n * 2) (n / 9223372036854775808) = (zig n : Int) := by
  obtain ⟨m, rfl⟩ := Int.eq_ofNat_of_zero_le h0
  have e1 : (m : Int) * 2 = ((2 * m : Nat) : Int) := by omega
  have e2 : (m : Int) / 9223372036854775808 = ((0 : Nat) : Int) := by omega
  rw [e1, e2, u64_xor_nat _ _ (by omega) (by omega), Nat.xor_zero]
  unfold zig
  rw [if_pos h0]
  omega
theorem xor_ones (k a : Nat) (h : a < 2 ^ k) : a ^^^ (2 ^ k - 1) = 2 ^ k - 1 - a := by
  apply Nat.eq_of_testBit_eq
  intro i
  rw [Nat.testBit_xor, show 2 ^ k - 1 - a = 2 ^ k - (a + 1) by omega, Nat.testBit_two_pow_sub_succ h i, Nat.testBit_two_pow_sub_one]
  by_cases hi : i < k
  · simp [hi]
  · rw [Nat.testBit_lt_two_pow (x := a) (Nat.lt_of_lt_of_le h (Nat.pow_le_pow_right (by omega) (by omega)))]
    simp [hi]
theorem zig_neg (n : Int) (h0 : n < 0) (h2 : -9007199254740991 ≤ n) : bits .xor .u64 (IntKind.u64.wrap (IntKind.u64.wrap n * 2)) (IntKind.u64.wrap (n / 9223372036854775808)) = (zig n : Int) := by
  have w64 : ∀ x : Int, IntKind.u64.wrap x = x % 18446744073709551616 := fun x => by simp [IntKind.wrap, IntKind.bits, IntKind.signed]
  rw [w64, w64, w64]
  obtain ⟨m, hm⟩ : ∃ m : Nat, n = -(m : Int) := ⟨n.natAbs, by omega⟩
  subst hm
  have e1 : (-(m : Int)) % 18446744073709551616 * 2 % 18446744073709551616 = ((18446744073709551616 - 2 * m : Nat) : Int) := by omega
  have e2 : (-(m : Int)) / 9223372036854775808 % 18446744073709551616 = ((18446744073709551615 : Nat) : Int) := by omega
  rw [e1, e2, u64_xor_nat _ _ (by omega) (by omega), xor_ones 64 _ (by omega)]
  unfold zig
  rw [if_neg (by omega)]
  omega
set_option maxHeartbeats 4000000 in
theorem S_any (n : Int) (w : World) (h1 : -9007199254740991 ≤ n) (h2 : n ≤ 9007199254740991) :
    Calls Try.prog 71 #[.int .i64 n] w fun e w' => TwoB w w' e (Dig.enc (zig n)) 0 := by
  by_cases h0 : 0 ≤ n
  · have hz : bits .xor .u64 (n * 2) (n / 9223372036854775808) = (zig n : Int) := zig_pos n h0 h2
    have hzl : zig n < 72057594037927936 := by unfold zig; split <;> omega
    go_enter Try.func71, Try.ntmps71
    go_wp2_with fail
    refine (digRow_any _ hzl _).mono ?_
    rintro e w1 ⟨v, rfl, ho, hb⟩
    go_wp2_with fail
    go_ret2
    exact ⟨v, rfl, ho, hb⟩
  · have hzl : zig n < 72057594037927936 := by unfold zig; split <;> omega
    go_enter Try.func71, Try.ntmps71
    go_wp2_with fail
    rw [zig_neg n (by omega) h1]
    refine (digRow_any _ hzl _).mono ?_
    rintro e w1 ⟨v, rfl, ho, hb⟩
    go_wp2_with fail
    go_ret2
    exact ⟨v, rfl, ho, hb⟩
set_option maxHeartbeats 4000000 in
theorem S_no (n : Int) (w : World) (h : n < -9007199254740991 ∨ 9007199254740991 < n) :
    Calls Try.prog 71 #[.int .i64 n] w fun e w' => e = .returned (.tuple #[.slice none 0 0, .int .i64 9]) ∧ w = w' := by
  by_cases h1 : n < -9007199254740991
  · go_enter Try.func71, Try.ntmps71
    go_wp2_with fail
    go_ret2
    exact ⟨rfl, rfl⟩
  · have h2 : 9007199254740991 < n := by omega
    go_enter Try.func71, Try.ntmps71
    go_wp2_with fail
    go_ret2
    exact ⟨rfl, rfl⟩
set_option maxHeartbeats 4000000 in
theorem Text_any (s : ByteArray) (w : World) (h : s.size ≤ 65535) :
    Calls Try.prog 48 #[.string s] w fun e w' => TwoB w w' e (Dig.enc s.size ++ sb s) 0 := by
  go_enter Try.func48, Try.ntmps48
  go_wp2_with fail
  refine (digRow_any s.size (by omega) _).mono ?_
  rintro e w1 ⟨v, rfl, ho, hb⟩
  obtain ⟨i5, hi5, hz5, hs5, hb5⟩ := info_parts infoU8
  have HL := Dig.length_enc s.size
  have HK := Dig.sz_le s.size
  go_wp2_with (first | (at_builtin; refine Lib.wpList_append_own_string w1 rfl _ _ 22 9 rfl w.heap.size 5 i5 Try.underlying22 Try.underlying9 hi5 hz5 hs5 hb5 v _ _ rfl ho s rfl (by unfold maxLen; omega) (by omega) hb.size ?_; intro v' w' ho' hg _) | fail)
  go_ret2
  refine ⟨v', rfl, ?_, grown_below hb hg (own_block ho)⟩
  rw [strCells_bv, ← bv_append] at ho'
  rw [List.length_append, sb_length]
  exact ho'
set_option maxHeartbeats 4000000 in
theorem Text_no (s : ByteArray) (w : World) (h : ¬ s.size ≤ 65535) :
    Calls Try.prog 48 #[.string s] w fun e w' => e = .returned (.tuple #[.slice none 0 0, .int .i64 5]) ∧ w = w' := by
  have h' : 65535 < s.size := by omega
  go_enter Try.func48, Try.ntmps48
  go_wp2_with fail
  go_ret2
  exact ⟨rfl, rfl⟩
end Go.Proofs.Ytmnabhennibddaa
