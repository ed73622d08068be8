/- Contracts of the document's own writers of numbers and texts: size, row, U, S, Text. No conditions. -/
import Derived.Test.YtnaijnbdhojhaaaGA08
set_option linter.unusedSimpArgs false
set_option linter.unusedVariables false
namespace Go.Proofs.Ytnaijnbdhojhaaa
open Go.RowKit

set_option maxHeartbeats 4000000 in
theorem refSize_any (n : Nat) (h : n < 72057594037927936) (w : World) :
    Calls Try.prog 97 #[.int .i64 n] w fun e w' => e = .returned (.int .i64 (Dig.sz n : Int)) ∧ w = w' := by
  have hk1 := Dig.sz_pos n
  have hk8 := Dig.sz_le n
  go_enter Try.func97, Try.ntmps97
  go_wp2
  go_loopw [3, 4] (fun k m wr => ∃ j : Nat, 1 ≤ j ∧ j ≤ Dig.sz n ∧ k = .int .i64 j ∧ m = .int .i64 ((128 ^ j : Nat) : Int) ∧ wr = w) (fun k _ _ => 9 - (intOf k).toNat)
  case atStart => exact ⟨1, by omega, by omega, rfl, rfl, rfl⟩
  case round =>
    obtain ⟨j, hj1, hj, rfl, rfl, rfl⟩ := hrel
    have hp : 128 ^ j ≤ 128 ^ 8 := Nat.pow_le_pow_right (by omega) (by omega)
    have hs : 128 ^ (j + 1) = 128 ^ j * 128 := Nat.pow_succ ..
    have hlt : n < 128 ^ j → Dig.sz n ≤ j := Dig.sz_of_lt n j hj1 (by omega)
    have hge : j < 8 → 128 ^ j ≤ n → j + 1 ≤ Dig.sz n := fun h8 => Dig.sz_ge n (j + 1) (by omega) (by omega)
    by_cases hc : 128 ^ j ≤ n
    · have h8 : j < 8 := by
        rcases Nat.lt_or_ge j 8 with h | h
        · exact h
        · have : 128 ^ 8 ≤ 128 ^ j := Nat.pow_le_pow_right (by omega) h
          omega
      have h9 := hge h8 hc
      have HS := Lib.hid hs
      clear hs hge hlt
      generalize hpe : 128 ^ j = p at *
      have HPE := Lib.hid hpe
      clear hpe
      go_wp2
      exact ⟨⟨j + 1, by omega, h9, by go_num, by rw [HS.out]; push_cast; rfl, trivial⟩, by simp [intOf]; omega⟩
    · have h9 := hlt (by omega)
      have hjs : j = Dig.sz n := by omega
      have HJ := Lib.hid hjs
      clear hs hge hlt hjs
      generalize hpe : 128 ^ j = p at *
      have HPE := Lib.hid hpe
      clear hpe
      go_wp2
      go_ret
      exact ⟨by rw [← HJ.out]; rfl, rfl⟩

theorem ref_or (k j b : Nat) (h1 : j + 1 < k) (h8 : k ≤ 8) (hb : b < 2 ^ (8 - k)) : bits .or .u8 ((256 - 2 ^ (8 - j) + b : Nat) : Int) ((128 / 2 ^ j : Nat) : Int) = ((256 - 2 ^ (8 - (j + 1)) + b : Nat) : Int) := by
  have : ∀ k : Fin 9, ∀ j : Fin 8, ∀ b : Fin 128, j.val + 1 < k.val → b.val < 2 ^ (8 - k.val) → bits .or .u8 ((256 - 2 ^ (8 - j.val) + b.val : Nat) : Int) ((128 / 2 ^ j.val : Nat) : Int) = ((256 - 2 ^ (8 - (j.val + 1)) + b.val : Nat) : Int) := by decide +kernel
  have hb2 : b < 128 := Nat.lt_of_lt_of_le hb (Nat.pow_le_pow_right (by omega) (show 8 - k ≤ 7 by omega))
  exact this ⟨k, by omega⟩ ⟨j, by omega⟩ ⟨b, hb2⟩ h1 hb

set_option maxHeartbeats 8000000 in
set_option maxRecDepth 100000 in
theorem digRefRow_any (n : Nat) (h : n < 72057594037927936) (w : World) :
    Calls Try.prog 101 #[.int .i64 n] w fun e w' => ∃ v, e = .returned v ∧ w'.ownsRow w.heap.size 5 1 v (Dig.enc n).length (bv (Dig.enc n)) ∧ Below w.heap.size w w' := by
  obtain ⟨i5, hi5, hz5, hs5, hb5⟩ := info_parts infoU8
  have hk1 := Dig.sz_pos n
  have hk8 := Dig.sz_le n
  go_enter Try.func101, Try.ntmps101
  go_wp2_with fail
  refine (refSize_any n h _).mono ?_
  rintro e w' ⟨rfl, rfl⟩
  obtain ⟨k, hk⟩ : ∃ k, k = Dig.sz n := ⟨_, rfl⟩
  rw [← hk] at hk1 hk8
  rw [← hk]
  have HK := Lib.hid hk
  clear hk
  go_wp2_with (first | (at_make; refine wpList_make_full _ rfl (.tmp 9) (.tmp 9) 22 rfl w.heap.size 5 i5 (.int .u8 0) 1 Try.underlying22 hi5 hz5 hs5 .i64 .i64 k k k rfl rfl rfl rfl (by rw [hb5]; omega) (by unfold maxLen; omega) (Nat.le_refl _) ?_; intro w2 ho hg; have hb2 := grown_below (bel0 w) hg (by intro k hk; cases hk); have HO := Lib.hid ho; clear ho hg) | fail)
  have hz : (madeCells (Value.int .u8 0).cells (k * 1)).toList = bv (List.replicate k 0) := by
    rw [Nat.mul_one]
    show (madeCells #[Value.int .u8 0] k).toList = _
    rw [toList_madeCells_one, bv, List.map_replicate]; rfl
  rw [hz] at HO
  clear hz
  obtain ⟨g, hg⟩ : ∃ g, g = w.heap.size := ⟨_, rfl⟩
  have HO' : Hid (w2.ownsRow w.heap.size 5 1 (.slice (some ⟨g, 0, none⟩) k k) k (bv (List.replicate k 0))) := by rw [hg]; exact HO
  have hgB : w.heap.size ≤ g := by omega
  rw [← hg]
  clear hg HO
  go_loopw [0, 5] (fun m i wr => ∃ j : Nat, ∃ L : List Nat, j ≤ k ∧ i = .int .i64 ((k : Int) - 1 - j) ∧ m = .int .i64 ((n / 256 ^ j : Nat) : Int) ∧ Hid (wr.ownsRow w.heap.size 5 1 (.slice (some ⟨g, 0, none⟩) k k) k (bv L)) ∧ Hid (Byt L) ∧ Hid (∀ t, t < j → L.getD (k - 1 - t) 0 = n / 256 ^ t % 256) ∧ Below w.heap.size w wr) (fun _ i _ => (intOf i + 1).toNat)
  case atStart => exact ⟨0, _, Nat.zero_le _, by go_num, by simp, HO', Lib.hid (fun x hx => by rw [(List.mem_replicate.1 hx).2]; decide), Lib.hid (fun t ht => absurd ht (by omega)), hb2⟩
  case round =>
    clear HO' hb2
    obtain ⟨j, L, hj, rfl, rfl, HO, HL, HX, hb⟩ := hrel
    have HLn := Lib.hid (own_len HO.out)
    by_cases hlt : j < k
    · have hjl : k - 1 - j < L.length := by rw [← HLn.out]; omega
      have hc4 := own_cell HO.out hjl
      have hf4 := HO.out.frozenAt (k - 1 - j)
      generalize L[k - 1 - j] = old at *
      clear hjl
      have hmd : n / 256 ^ (j + 1) = n / 256 ^ j / 256 := by rw [Nat.pow_succ, Nat.div_div_eq_div_mul]
      have hmn : n / 256 ^ j ≤ n := Nat.div_le_self ..
      have HM := Lib.hid hmd
      have HXE : Hid (n / 256 ^ j % 256 = n / 256 ^ j % 256) := Lib.hid rfl
      clear hmd
      obtain ⟨x, hx⟩ : ∃ x, x = n / 256 ^ j := ⟨_, rfl⟩
      rw [← hx] at HM hmn ⊢
      have HX1 := Lib.hid hx
      clear hx HXE
      have hidx : (k : Int) - 1 - j = ((k - 1 - j : Nat) : Int) := by omega
      rw [hidx]
      have hp : k - 1 - j < k := by omega
      obtain ⟨p, hpe⟩ : ∃ p, p = k - 1 - j := ⟨_, rfl⟩
      rw [← hpe] at hc4 hf4 hp ⊢
      have HP := Lib.hid hpe
      clear hpe hidx
      go_wp2_with fail
      have hst := own_store HO.out p x
      refine ⟨⟨j + 1, L.set p (x % 256), by omega, by have := HP.out; go_num, by rw [HM.out]; rfl, ?_, ?_, ?_, hb.setCell (p := ⟨g, p, none⟩) hgB _⟩, by simp [intOf]⟩
      · exact Lib.hid (own_store HO.out _ _)
      · refine Lib.hid fun t ht => ?_
        rcases List.mem_or_eq_of_mem_set ht with h | h
        · exact HL.out t h
        · omega
      · refine Lib.hid fun t ht => ?_
        have HPo := HP.out
        by_cases htj : t = j
        · subst htj
          rw [← HPo, List.getD_eq_getElem?_getD, List.getElem?_set_self (by rw [← HLn.out]; omega), HX1.out]; rfl
        · have := HX.out t (by omega)
          rw [List.getD_eq_getElem?_getD] at this ⊢
          rw [List.getElem?_set_ne (by omega)]; exact this
    · obtain rfl : j = k := by omega
      have hbe := Dig.be_ext j n L HLn.out.symm HX.out
      obtain ⟨b, t, he, hb8, _, htl, _, hbt⟩ := Dig.enc_form n h
      rw [← HK.out] at hb8 hbt he
      have hLc : L = b :: t := hbe.trans hbt
      subst hLc
      have HE := Lib.hid he
      have hlt256 := Dig.hdr_lt j b hk1 hk8 hb8
      have HB8 := Lib.hid hb8
      have hbj : b < 256 := HL.out b (by simp)
      clear he hbe hbt htl HL HX HLn hlt hb8
      go_wp2_with fail
      go_loopw [6] (fun i wr => ∃ q : Nat, q ≤ j - 1 ∧ i = .int .i64 q ∧ Hid (wr.ownsRow w.heap.size 5 1 (.slice (some ⟨g, 0, none⟩) j j) j (bv ((256 - 2 ^ (8 - q) + b) :: t))) ∧ Below w.heap.size w wr) (fun i _ => j - (intOf i).toNat)
      case atStart =>
        refine ⟨0, by omega, rfl, ?_, hb⟩
        rw [show 256 - 2 ^ (8 - 0) + b = b by omega]; exact HO
      case round =>
        clear HO hb
        obtain ⟨q, hq, rfl, HO, hb⟩ := hrel
        have hc4 := own_cell HO.out (k := 0) (by simp)
        have hf4 := HO.out.frozenAt 0
        simp only [List.getElem_cons_zero] at hc4
        by_cases hqj : q + 1 < j
        · have hor := ref_or j q b hqj hk8 HB8.out
          have hsh : (128 : Int) / 2 ^ q = ((128 / 2 ^ q : Nat) : Int) := by push_cast; rfl
          have hs1 : 128 / 2 ^ q < 256 := Nat.lt_of_le_of_lt (Nat.div_le_self ..) (by omega)
          have hle : 256 - 2 ^ (8 - q) + b < 256 := by
            have := Nat.pow_le_pow_right (n := 2) (by omega) (show 8 - j ≤ 8 - q by omega)
            have := HB8.out
            omega
          generalize 256 - 2 ^ (8 - q) + b = y at *
          generalize hze : 256 - 2 ^ (8 - (q + 1)) + b = z at *
          have HZ := Lib.hid hze
          clear hze
          generalize 128 / 2 ^ q = x at *
          go_wp2_with fail
          go_region
          go_wp2
          have hst := own_store HO.out 0 z
          rw [List.set_cons_zero] at hst
          exact ⟨⟨q + 1, by omega, by go_num, Lib.hid (by rw [HZ.out]; exact hst.drew), (hb.setCell (p := ⟨g, 0, none⟩) hgB _).drew⟩, by simp [intOf]; omega⟩
        · have hqe : q = j - 1 := by omega
          have HQ := Lib.hid hqe
          clear hqe
          have HE1 := Lib.hid HE.out
          have hl : (bv ((256 - 2 ^ (8 - q) + b) :: t)) = bv (Dig.enc n) := by
            rw [HE.out, Dig.hdr, HQ.out, show 8 - (j - 1) = 9 - j by omega]
          rw [hl] at HO
          clear hl
          go_wp2_with fail
          go_ret
          have hl := own_len HO.out
          rw [hl] at HO
          exact ⟨_, rfl, by rw [hl]; exact HO.out, hb⟩

set_option maxHeartbeats 4000000 in
theorem refU_any (n : Int) (w : World) (h1 : 0 ≤ n) (h2 : n ≤ 9007199254740991) :
    Calls Try.prog 100 #[.int .i64 n] w fun e w' => TwoB w w' e (Dig.enc n.toNat) 0 := by
  obtain ⟨m, rfl⟩ := Int.eq_ofNat_of_zero_le h1
  rw [Int.toNat_natCast]
  go_enter Try.func100, Try.ntmps100
  go_wp2_with fail
  refine (digRefRow_any m (by omega) _).mono ?_
  rintro e w1 ⟨v, rfl, ho, hb⟩
  go_wp2_with fail
  go_ret2
  exact ⟨v, rfl, ho, hb⟩
set_option maxHeartbeats 4000000 in
theorem refU_no (n : Int) (w : World) (h : n < 0 ∨ 9007199254740991 < n) :
    Calls Try.prog 100 #[.int .i64 n] w fun e w' => e = .returned (.tuple #[.slice none 0 0, .int .i64 9]) ∧ w = w' := by
  by_cases h1 : n < 0
  · go_enter Try.func100, Try.ntmps100
    go_wp2_with fail
    go_ret2
    exact ⟨rfl, rfl⟩
  · have h2 : 9007199254740991 < n := by omega
    go_enter Try.func100, Try.ntmps100
    go_wp2_with fail
    go_ret2
    exact ⟨rfl, rfl⟩
set_option maxHeartbeats 4000000 in
theorem refS_any (n : Int) (w : World) (h1 : -9007199254740991 ≤ n) (h2 : n ≤ 9007199254740991) :
    Calls Try.prog 114 #[.int .i64 n] w fun e w' => TwoB w w' e (Dig.enc (zig n)) 0 := by
  have hzl : zig n < 72057594037927936 := by unfold zig; split <;> omega
  by_cases h0 : 0 ≤ n
  · have hz : 2 * n = (zig n : Int) := by unfold zig; rw [if_pos h0]; omega
    have hz' : n * 2 = (zig n : Int) := by omega
    generalize zig n = z at *
    go_enter Try.func114, Try.ntmps114
    go_wp2_with fail
    refine (digRefRow_any z hzl _).mono ?_
    rintro e w1 ⟨v, rfl, ho, hb⟩
    go_wp2_with fail
    go_ret2
    exact ⟨v, rfl, ho, hb⟩
  · have hz : -2 * n - 1 = (zig n : Int) := by unfold zig; rw [if_neg h0]; omega
    have hz' : n * (-2) - 1 = (zig n : Int) := by omega
    generalize zig n = z at *
    go_enter Try.func114, Try.ntmps114
    go_wp2_with fail
    refine (digRefRow_any z hzl _).mono ?_
    rintro e w1 ⟨v, rfl, ho, hb⟩
    go_wp2_with fail
    go_ret2
    exact ⟨v, rfl, ho, hb⟩
set_option maxHeartbeats 4000000 in
theorem refS_no (n : Int) (w : World) (h : n < -9007199254740991 ∨ 9007199254740991 < n) :
    Calls Try.prog 114 #[.int .i64 n] w fun e w' => e = .returned (.tuple #[.slice none 0 0, .int .i64 9]) ∧ w = w' := by
  by_cases h1 : n < -9007199254740991
  · go_enter Try.func114, Try.ntmps114
    go_wp2_with fail
    go_ret2
    exact ⟨rfl, rfl⟩
  · have h2 : 9007199254740991 < n := by omega
    go_enter Try.func114, Try.ntmps114
    go_wp2_with fail
    go_ret2
    exact ⟨rfl, rfl⟩

set_option maxHeartbeats 4000000 in
theorem refText_any (s : ByteArray) (w : World) (h : s.size ≤ 65535) :
    Calls Try.prog 77 #[.string s] w fun e w' => TwoB w w' e (Dig.enc s.size ++ sb s) 0 := by
  go_enter Try.func77, Try.ntmps77
  go_wp2_with fail
  refine (digRefRow_any s.size (by omega) _).mono ?_
  rintro e w1 ⟨v, rfl, ho, hb⟩
  obtain ⟨c, w2, hcv, hB, hb2⟩ := conv_str w1 s (by omega)
  have HB := Lib.hid hB
  clear hB
  have HL := Dig.length_enc s.size
  have HK := Dig.sz_le s.size
  have HO := Lib.hid (ownsRow_below ho hb2)
  clear ho
  go_wp2_with (first | (at_builtin; refine append_bytes rfl (.tmp 9) (.tmp 11) rfl w.heap.size v _ _ rfl HO.out _ _ _ rfl HB.out (by rw [sb_length]; omega) (nx hb hb2).size ?_; intro v' w' ho' hg _) | fail)
  go_ret2
  exact ⟨v', rfl, ho', grown_below (nx hb hb2) hg (own_block HO.out)⟩
set_option maxHeartbeats 4000000 in
theorem refText_no (s : ByteArray) (w : World) (h : ¬ s.size ≤ 65535) :
    Calls Try.prog 77 #[.string s] w fun e w' => e = .returned (.tuple #[.slice none 0 0, .int .i64 5]) ∧ w = w' := by
  have h' : 65535 < s.size := by omega
  go_enter Try.func77, Try.ntmps77
  go_wp2_with fail
  go_ret2
  exact ⟨rfl, rfl⟩
end Go.Proofs.Ytnaijnbdhojhaaa
/- U, S and Text, and the document's, of all numbers and texts. No conditions. -/
set_option linter.unusedSimpArgs false
set_option linter.unusedVariables false
namespace Go.Proofs.Ytnaijnbdhojhaaa
open Go.RowKit

/-- What U tells. -/
def uP (n : Int) : List Nat × Int := if 0 ≤ n ∧ n ≤ 9007199254740991 then (Dig.enc n.toNat, 0) else ([], 9)
def sP (n : Int) : List Nat × Int := if -9007199254740991 ≤ n ∧ n ≤ 9007199254740991 then (Dig.enc (zig n), 0) else ([], 9)
def tP (s : ByteArray) : List Nat × Int := if s.size ≤ 65535 then (Dig.enc s.size ++ sb s, 0) else ([], 5)
theorem zig_le (n : Int) (h1 : -9007199254740991 ≤ n) (h2 : n ≤ 9007199254740991) : zig n ≤ 18014398509481982 := by unfold zig; split <;> omega
theorem uP_ok (n : Int) : Byt (uP n).1 ∧ (uP n).1.length ≤ 8 := by
  unfold uP
  split
  · rename_i h
    exact ⟨Dig.enc_byt _ (by omega), by simp only [Dig.length_enc]; exact Dig.sz_le _⟩
  · exact ⟨(fun x hx => absurd hx (by simp)), by simp⟩
theorem sP_ok (n : Int) : Byt (sP n).1 ∧ (sP n).1.length ≤ 8 := by
  unfold sP
  split
  · rename_i h
    have := zig_le n h.1 h.2
    exact ⟨Dig.enc_byt _ (by omega), by simp only [Dig.length_enc]; exact Dig.sz_le _⟩
  · exact ⟨(fun x hx => absurd hx (by simp)), by simp⟩
theorem tP_ok (s : ByteArray) : Byt (tP s).1 ∧ (tP s).1.length ≤ 65543 := by
  unfold tP
  split
  · rename_i h
    refine ⟨Byt.append (Dig.enc_byt _ (by omega)) (sb_byt s), ?_⟩
    have := Dig.sz_le s.size
    simp only [List.length_append, Dig.length_enc, sb_length]
    omega
  · exact ⟨(fun x hx => absurd hx (by simp)), by simp⟩
theorem two_no {w w' : World} {e : Ending} {k : Int} (h : e = .returned (.tuple #[.slice none 0 0, .int .i64 k]) ∧ w = w') : TwoB w w' e [] k := by
  obtain ⟨rfl, rfl⟩ := h
  exact ⟨_, rfl, World.ownsRow_nil .., bel0 _⟩
theorem U_all (n : Int) (w : World) : Calls Try.prog 80 #[.int .i64 n] w fun e w' => TwoB w w' e (uP n).1 (uP n).2 := by
  unfold uP
  by_cases h : 0 ≤ n ∧ n ≤ 9007199254740991
  · rw [if_pos h]; exact U_any n w h.1 h.2
  · rw [if_neg h]; exact (U_no n w (by omega)).mono fun e w' h => two_no h
theorem refU_all (n : Int) (w : World) : Calls Try.prog 100 #[.int .i64 n] w fun e w' => TwoB w w' e (uP n).1 (uP n).2 := by
  unfold uP
  by_cases h : 0 ≤ n ∧ n ≤ 9007199254740991
  · rw [if_pos h]; exact refU_any n w h.1 h.2
  · rw [if_neg h]; exact (refU_no n w (by omega)).mono fun e w' h => two_no h
theorem S_all (n : Int) (w : World) : Calls Try.prog 107 #[.int .i64 n] w fun e w' => TwoB w w' e (sP n).1 (sP n).2 := by
  unfold sP
  by_cases h : -9007199254740991 ≤ n ∧ n ≤ 9007199254740991
  · rw [if_pos h]; exact S_any n w h.1 h.2
  · rw [if_neg h]; exact (S_no n w (by omega)).mono fun e w' h => two_no h
theorem refS_all (n : Int) (w : World) : Calls Try.prog 114 #[.int .i64 n] w fun e w' => TwoB w w' e (sP n).1 (sP n).2 := by
  unfold sP
  by_cases h : -9007199254740991 ≤ n ∧ n ≤ 9007199254740991
  · rw [if_pos h]; exact refS_any n w h.1 h.2
  · rw [if_neg h]; exact (refS_no n w (by omega)).mono fun e w' h => two_no h
theorem Text_all (s : ByteArray) (w : World) : Calls Try.prog 81 #[.string s] w fun e w' => TwoB w w' e (tP s).1 (tP s).2 := by
  unfold tP
  by_cases h : s.size ≤ 65535
  · rw [if_pos h]; exact Text_any s w h
  · rw [if_neg h]; exact (Text_no s w h).mono fun e w' h => two_no h
theorem refText_all (s : ByteArray) (w : World) : Calls Try.prog 77 #[.string s] w fun e w' => TwoB w w' e (tP s).1 (tP s).2 := by
  unfold tP
  by_cases h : s.size ≤ 65535
  · rw [if_pos h]; exact refText_any s w h
  · rw [if_neg h]; exact (refText_no s w h).mono fun e w' h => two_no h
/-- A result of bytes and an error number, opened. -/
theorem TwoB.open {w w' : World} {e : Ending} {l : List Nat} {k : Int} (h : TwoB w w' e l k) (hb : Byt l) (hl : l.length ≤ 140737488354304) :
    ∃ A n c, e = .returned (.tuple #[.slice A n c, .int .i64 k]) ∧ BS w' A n c l ∧ Below w.heap.size w w' := by
  obtain ⟨v, rfl, ho, hbl⟩ := h
  obtain ⟨A, n, c, rfl, hB, _⟩ := ownsRow_bs ho hb hl
  exact ⟨A, n, c, rfl, hB, hbl⟩
end Go.Proofs.Ytnaijnbdhojhaaa
