/- Contracts of tally.Of, tally.Row, the document's On, Of, Row. No conditions. -/
import Derived.Test.YtmnabhennibddaaGC12
import Derived.Test.YtmnabhennibddaaGC02
import Derived.Lib.SlBytesConst
set_option linter.unusedSimpArgs false
set_option linter.unusedVariables false
namespace Go.Proofs.Ytmnabhennibddaa
open Go.RowKit

set_option maxHeartbeats 4000000 in
theorem of_any (A : Option Addr) (n c : Nat) (l : List Nat) (w : World) (hl : BS w A n c l) :
    Calls Try.prog 36 #[.slice A n c] w fun e w' => e = .returned (.int .u32 (Crc.on 0 l : Int)) ∧ Below w.heap.size w w' := by
  have HL := Lib.hid hl
  clear hl
  go_enter Try.func36, Try.ntmps36
  go_wp2_with (go_at_call 68; refine (on_any 0 (by omega) A n c l _ HL.out).mono ?_; rintro e w1 ⟨rfl, hb⟩)
  go_ret
  exact ⟨rfl, hb⟩

theorem row_vals (s : Nat) (h : s < 4294967296) : (#[.int .u8 ((s : Int) % 256), .int .u8 ((s : Int) / 256 % 256), .int .u8 ((s : Int) / 65536 % 256), .int .u8 ((s : Int) / 16777216)] : Array Value).toList = bv (Crc.row s) := by
  have h4 : (s : Int) / 16777216 = (s / 16777216 % 256 : Nat) := by omega
  rw [h4]
  rfl

set_option maxHeartbeats 4000000 in
theorem row_any (s : Nat) (h : s < 4294967296) (w : World) :
    Calls Try.prog 35 #[.int .u32 s] w fun e w' => ∃ v, e = .returned v ∧ w'.ownsRow w.heap.size 5 1 v (Crc.row s).length (bv (Crc.row s)) ∧ Below w.heap.size w w' := by
  have hmk : ∀ w, (Instr.makeSlice 22 (.int .i64 4) (.int .i64 4)).run Try.prog w = .ok (.slice (some ⟨w.heap.size, 0, none⟩) 4 4) (w.alloc (.cells #[.int .u8 0, .int .u8 0, .int .u8 0, .int .u8 0] 5)) := fun _ => by kernel_rfl
  go_enter Try.func35, Try.ntmps35
  go_wp2
  refine wp_loop_rounds 5 ?_
  iterate 5 (rw [rounds_succ]; go_wp2)
  go_ret
  refine ⟨_, rfl, ?_, (Below.refl _ _).alloc (Nat.le_refl _) _⟩
  rw [← row_vals s h]
  exact World.ownsRow_lit w _ 4 (Nat.le_refl _) (by decide) rfl
set_option maxHeartbeats 4000000 in
theorem refRow_any (s : Nat) (h : s < 4294967296) (w : World) :
    Calls Try.prog 32 #[.int .u32 s] w fun e w' => ∃ v, e = .returned v ∧ w'.ownsRow w.heap.size 5 1 v (Crc.row s).length (bv (Crc.row s)) ∧ Below w.heap.size w w' := by
  go_enter Try.func32, Try.ntmps32
  go_wp2
  go_ret
  refine ⟨_, rfl, ?_, (Below.refl _ _).alloc (Nat.le_refl _) _⟩
  rw [← row_vals s h]
  exact World.ownsRow_lit w _ 4 (Nat.le_refl _) (by decide) rfl

theorem u32_bit (r : Nat) (h : r < 4294967296) : bits .and .u32 (r : Int) 1 = ((r % 2 : Nat) : Int) := by
  have := u32_and_nat r 1 h (by omega)
  rw [nat_mask1] at this
  exact this
theorem u32_poly (r : Nat) (h : r < 4294967296) : bits .xor .u32 (r : Int) 3988292384 = ((r ^^^ 3988292384 : Nat) : Int) := u32_xor_nat r 3988292384 h (by omega)

set_option maxHeartbeats 4000000 in
set_option maxRecDepth 100000 in
theorem refOn_any (s : Nat) (h1 : s < 4294967296) (A : Option Addr) (n c : Nat) (l : List Nat) (w : World) (hl : BS w A n c l) :
    Calls Try.prog 66 #[.int .u32 s, .slice A n c] w fun e w' => e = .returned (.int .u32 (Crc.on s l : Int)) ∧ w = w' := by
  obtain rfl := hl.len
  have HL := Lib.hid hl
  have hn := hl.lim
  clear hl
  have hx0 := u32_not s h1
  go_enter Try.func66, Try.ntmps66
  go_wp2
  go_loop [5, 6] (fun r i => ∃ k : Nat, k ≤ l.length ∧ i = .int .i64 k ∧ r = .int .u32 (Crc.reg (4294967295 - s) (l.take k) : Nat)) (fun _ i => l.length - (intOf i).toNat)
  case atStart => exact ⟨0, Nat.zero_le _, rfl, rfl⟩
  case round =>
    clear hx0
    obtain ⟨k, hk, rfl, rfl⟩ := hrel
    by_cases hlt : k < l.length
    · obtain ⟨ad, hA, hc⟩ := HL.out.cellAt (Below.refl _ _) hlt
      subst hA
      have hlk : l[k] < 256 := HL.out.byt.at hlt
      have hR : Crc.reg (4294967295 - s) (l.take k) < 4294967296 := Crc.reg_lt (by omega) (HL.out.byt.take k)
      have hstep : Crc.reg (4294967295 - s) (l.take (k + 1)) = Crc.shs 8 (Crc.reg (4294967295 - s) (l.take k) ^^^ l[k]) := by
        rw [take_snoc l k hlt, Crc.reg_snoc, Crc.sh8_shs]
      obtain ⟨b, hbe⟩ : ∃ b, b = l[k] := ⟨_, rfl⟩
      rw [← hbe] at hc hlk hstep
      generalize Crc.reg (4294967295 - s) (l.take k) = R at *
      have hx1 : bits .xor .u32 (R : Int) (b : Int) = ((R ^^^ b : Nat) : Int) := u32_xor_nat R b hR (by omega)
      have hX1 : R ^^^ b < 4294967296 := Crc.xor_lt hR (by omega)
      generalize R ^^^ b = X at *
      have HS := Lib.hid hstep
      clear hstep hbe
      go_wp2
      go_loop [5, 7] (fun r i => ∃ j : Nat, j ≤ 8 ∧ i = .int .i64 j ∧ r = .int .u32 (Crc.shs j X : Nat)) (fun _ i => 8 - (intOf i).toNat)
      case atStart => exact ⟨0, Nat.zero_le _, rfl, rfl⟩
      case round =>
        clear hx1
        obtain ⟨j, hj, rfl, rfl⟩ := hrel
        by_cases hj8 : j < 8
        · have hY : Crc.shs j X < 4294967296 := Crc.shs_lt j hX1
          have hst : Crc.shs (j + 1) X = Crc.sh (Crc.shs j X) := by rw [Crc.shs_add]; rfl
          generalize Crc.shs j X = Y at *
          have hb1 := u32_bit Y hY
          have hp1 : bits .xor .u32 ((Y : Int) / 2) 3988292384 = ((Y / 2 ^^^ 3988292384 : Nat) : Int) := u32_poly (Y / 2) (by omega)
          have HST := Lib.hid hst
          clear hst
          by_cases hodd : Y % 2 = 1
          · have hsh : Crc.sh Y = Y / 2 ^^^ 3988292384 := by unfold Crc.sh Crc.poly; rw [if_pos hodd]
            have HSH := Lib.hid hsh
            have hod2 : (((Y % 2 : Nat) : Int) == 1) = true := by simp; omega
            generalize Y / 2 ^^^ 3988292384 = Z at *
            clear hsh
            go_wp2
            exact ⟨⟨j + 1, by omega, by go_num, by rw [HST.out, HSH.out]⟩, by simp [intOf]; omega⟩
          · have hsh : Crc.sh Y = Y / 2 := by unfold Crc.sh Crc.poly; rw [if_neg hodd, Nat.xor_zero]
            have HSH := Lib.hid hsh
            have hod2 : (((Y % 2 : Nat) : Int) == 1) = false := by simp; omega
            clear hsh hp1
            go_wp2
            exact ⟨⟨j + 1, by omega, by go_num, by rw [HST.out, HSH.out]; rfl⟩, by simp [intOf]; omega⟩
        · obtain rfl : j = 8 := by omega
          rw [← HS.out]
          go_wp2
          exact ⟨⟨k + 1, by omega, by go_num, rfl⟩, by simp [intOf]; omega⟩
    · obtain rfl : k = l.length := by omega
      rw [List.take_length]
      have hR : Crc.reg (4294967295 - s) l < 4294967296 := Crc.reg_lt (by omega) HL.out.byt
      have hon : Crc.on s l = 4294967295 - Crc.reg (4294967295 - s) l := rfl
      have HON := Lib.hid hon
      clear hon
      generalize Crc.reg (4294967295 - s) l = R at *
      have hx := u32_not R hR
      go_wp2
      go_ret
      exact ⟨by rw [HON.out]; rfl, rfl⟩

set_option maxHeartbeats 4000000 in
theorem refOf_any (A : Option Addr) (n c : Nat) (l : List Nat) (w : World) (hl : BS w A n c l) :
    Calls Try.prog 33 #[.slice A n c] w fun e w' => e = .returned (.int .u32 (Crc.on 0 l : Int)) ∧ w = w' := by
  have HL := Lib.hid hl
  clear hl
  go_enter Try.func33, Try.ntmps33
  go_wp2_with (go_at_call 66; refine (refOn_any 0 (by omega) A n c l _ HL.out).mono ?_; rintro e w1 ⟨rfl, rfl⟩)
  go_ret
  exact ⟨rfl, rfl⟩
end Go.Proofs.Ytmnabhennibddaa
