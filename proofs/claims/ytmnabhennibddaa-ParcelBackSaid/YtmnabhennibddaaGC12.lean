/- Contracts of tally's functions: the table, On and Of. No conditions. -/
import Derived.Test.YtmnabhennibddaaProg
import Derived.Test.YtmnabhennibddaaGC00
import Derived.Test.YtmnabhennibddaaGC10
import Derived.Test.YtmnabhennibddaaGC11
import Derived.WalkKit
import Derived.Outline
import Derived.KernelRfl
import Derived.RowKit
import Derived.WalkLawsBesides
import Derived.WalkSpells
import Derived.Handy
set_option linter.unusedSimpArgs false
set_option linter.unusedVariables false
namespace Go.Proofs.Ytmnabhennibddaa
open Go.RowKit

theorem u32_not (s : Nat) (h : s < 4294967296) : bits .xor .u32 IntKind.u32.max (s : Int) = ((4294967295 - s : Nat) : Int) := by
  rw [show IntKind.u32.max = ((4294967295 : Nat) : Int) from by decide, u32_xor_nat 4294967295 s (by omega) h, Crc.not32 s h]

set_option maxHeartbeats 4000000 in
set_option maxRecDepth 100000 in
theorem on_any (s : Nat) (h1 : s < 4294967296) (A : Option Addr) (n c : Nat) (l : List Nat) (w : World) (hbs : BS w A n c l) :
    Calls Try.prog 68 #[.int .u32 s, .slice A n c] w fun e w' => e = .returned (.int .u32 (Crc.on s l : Int)) ∧ Below w.heap.size w w' := by
  obtain rfl := hbs.len
  have hn := hbs.lim
  have HL := Lib.hid hbs.lies
  have HB8 := Lib.hid hbs.byt
  clear hbs
  go_enter Try.func68, Try.ntmps68
  go_wp2_with (go_at_call 82; refine (made_any _).mono ?_; rintro e w1 ⟨rfl, hb⟩)
  obtain ⟨w2, hw2⟩ : ∃ w2, w2 = w1.alloc (Obj.cells #[.int .u32 0, .int .u32 498536548, .int .u32 997073096, .int .u32 651767980, .int .u32 1994146192, .int .u32 1802195444, .int .u32 1303535960, .int .u32 1342533948, .int .u32 3988292384, .int .u32 4027552580, .int .u32 3604390888, .int .u32 3412177804, .int .u32 2607071920, .int .u32 2262029012, .int .u32 2685067896, .int .u32 3183342108] 123) := ⟨_, rfl⟩
  rw [← hw2]
  have hb2 : Below w.heap.size w w2 := by rw [hw2]; exact hb.alloc hb.size _
  have hT : ∀ m, m < 16 → w2.cell? ⟨w1.heap.size, m, none⟩ = some (.int .u32 (Crc.tab.getD m 0 : Int)) := by
    rw [hw2]
    intro m hm
    rw [World.cell?_alloc_new]
    match m, hm with
    | 0, _ => rfl
    | 1, _ => rfl
    | 2, _ => rfl
    | 3, _ => rfl
    | 4, _ => rfl
    | 5, _ => rfl
    | 6, _ => rfl
    | 7, _ => rfl
    | 8, _ => rfl
    | 9, _ => rfl
    | 10, _ => rfl
    | 11, _ => rfl
    | 12, _ => rfl
    | 13, _ => rfl
    | 14, _ => rfl
    | 15, _ => rfl
    | m + 16, h => exact absurd h (by omega)
  have HT := Lib.hid hT
  clear hw2 hT hb
  go_loop [6, 14] (fun r i => ∃ k : Nat, k ≤ l.length ∧ i = .int .i64 k ∧ r = .int .u32 (Crc.reg (4294967295 - s) (l.take k) : Nat)) (fun _ i => l.length - (intOf i).toNat)
  case atStart =>
    refine ⟨0, Nat.zero_le _, rfl, ?_⟩
    rw [u32_not s h1]; rfl
  case round =>
    obtain ⟨k, hk, rfl, rfl⟩ := hrel
    by_cases hlt : k < l.length
    · obtain ⟨ad, hA, hc⟩ := HL.out.byte hlt
      subst hA
      have hc2 : w2.cell? (ad.add k) = some (.int .u8 (l[k] : Int)) := by rw [← hc]; exact hb2.cell (p := ad.add k) (World.block_lt_of_cell? w _ hc)
      clear hc
      have hlk : l[k] < 256 := HB8.out.at hlt
      have hR : Crc.reg (4294967295 - s) (l.take k) < 4294967296 := Crc.reg_lt (by omega) (HB8.out.take k)
      have hstep : Crc.reg (4294967295 - s) (l.take (k + 1)) = Crc.nib (Crc.nib (Crc.reg (4294967295 - s) (l.take k) ^^^ l[k])) := by
        rw [take_snoc l k hlt, Crc.reg_snoc, Crc.nib_eq, Crc.nib_eq]; rfl
      obtain ⟨b, hbe⟩ : ∃ b, b = l[k] := ⟨_, rfl⟩
      rw [← hbe] at hc2 hlk hstep
      generalize Crc.reg (4294967295 - s) (l.take k) = R at *
      have hx1 : bits .xor .u32 (R : Int) (b : Int) = ((R ^^^ b : Nat) : Int) := u32_xor_nat R b hR (by omega)
      have hX1 : R ^^^ b < 4294967296 := Crc.xor_lt hR (by omega)
      generalize R ^^^ b = X1 at *
      have hc3 := HT.out (X1 % 16) (by omega)
      have hT1 : Crc.tab.getD (X1 % 16) 0 < 4294967296 := by rw [Crc.tab_at _ (by omega)]; exact Crc.sh4_lt (by omega)
      have hn1 : Crc.nib X1 = X1 / 16 ^^^ Crc.tab.getD (X1 % 16) 0 := rfl
      have hX2 : Crc.nib X1 < 4294967296 := Crc.nib_lt hX1
      rw [hn1] at hstep hX2
      generalize Crc.tab.getD (X1 % 16) 0 = T1 at *
      have hx2 : bits .xor .u32 ((X1 : Int) / 16) (T1 : Int) = ((X1 / 16 ^^^ T1 : Nat) : Int) := u32_xor_nat (X1 / 16) T1 (by omega) hT1
      generalize X1 / 16 ^^^ T1 = X2 at *
      have hc4 := HT.out (X2 % 16) (by omega)
      have hT2 : Crc.tab.getD (X2 % 16) 0 < 4294967296 := by rw [Crc.tab_at _ (by omega)]; exact Crc.sh4_lt (by omega)
      have hn2 : Crc.nib X2 = X2 / 16 ^^^ Crc.tab.getD (X2 % 16) 0 := rfl
      rw [hn2] at hstep
      generalize Crc.tab.getD (X2 % 16) 0 = T2 at *
      have hx3 : bits .xor .u32 ((X2 : Int) / 16) (T2 : Int) = ((X2 / 16 ^^^ T2 : Nat) : Int) := u32_xor_nat (X2 / 16) T2 (by omega) hT2
      generalize X2 / 16 ^^^ T2 = X3 at *
      have HS := Lib.hid hstep
      clear hstep hn1 hn2 hbe
      go_wp2
      exact ⟨⟨k + 1, by omega, by go_num, by rw [HS.out]⟩, by simp [intOf]; omega⟩
    · obtain rfl : k = l.length := by omega
      rw [List.take_length]
      have hR : Crc.reg (4294967295 - s) l < 4294967296 := Crc.reg_lt (by omega) HB8.out
      have hon : Crc.on s l = 4294967295 - Crc.reg (4294967295 - s) l := rfl
      have HON := Lib.hid hon
      clear hon
      generalize Crc.reg (4294967295 - s) l = R at *
      have hx := u32_not R hR
      go_wp2
      go_ret
      exact ⟨by rw [HON.out]; rfl, hb2⟩
end Go.Proofs.Ytmnabhennibddaa
