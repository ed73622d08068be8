/- The walk of the law ValueKnown. No conditions. -/
import Derived.Test.YtmnabhennibddaaGD30
import Derived.Test.YtmnabhennibddaaGD32
import Derived.Test.YtmnabhennibddaaGD01
set_option linter.unusedSimpArgs false
set_option linter.unusedVariables false
namespace Go.Proofs.Ytmnabhennibddaa
open Go.RowKit

set_option maxHeartbeats 64000000 in
set_option maxRecDepth 100000 in
theorem valueKnown_walk (w : World) : Calls Try.prog 6 #[] w fun e w' => e = .returned (.bool true) ∧ Below w.heap.size w w' := by
  have C0 := Lib.hid (show ∀ w, Calls Try.prog 18 #[.agg #[.int .i64 1, .int .i64 9007199254740991, .string ⟨#[]⟩]] w fun e w' => e = .returned (.int .i64 0) ∧ Below w.heap.size w w' from fun w => by have h := check_any ⟨1, 9007199254740991, ⟨#[]⟩⟩ w; rw [show chkV ⟨1, 9007199254740991, ⟨#[]⟩⟩ = 0 from by decide +kernel] at h; exact h)
  have C1 := Lib.hid (show ∀ w, Calls Try.prog 18 #[.agg #[.int .i64 1, .int .i64 (-9007199254740991), .string ⟨#[]⟩]] w fun e w' => e = .returned (.int .i64 0) ∧ Below w.heap.size w w' from fun w => by have h := check_any ⟨1, (-9007199254740991), ⟨#[]⟩⟩ w; rw [show chkV ⟨1, (-9007199254740991), ⟨#[]⟩⟩ = 0 from by decide +kernel] at h; exact h)
  have C2 := Lib.hid (show ∀ w, Calls Try.prog 19 #[.agg #[.int .i64 1, .int .i64 9007199254740992, .string ⟨#[]⟩]] w fun e w' => e = .returned (.bool true) ∧ Below w.heap.size w w' from fun w => noneV_any ⟨1, 9007199254740992, ⟨#[]⟩⟩ (by decide +kernel) w)
  have C3 := Lib.hid (show ∀ w, Calls Try.prog 19 #[.agg #[.int .i64 1, .int .i64 (-9007199254740992), .string ⟨#[]⟩]] w fun e w' => e = .returned (.bool true) ∧ Below w.heap.size w w' from fun w => noneV_any ⟨1, (-9007199254740992), ⟨#[]⟩⟩ (by decide +kernel) w)
  obtain ⟨R64, hR64⟩ : ∃ r, r = bs (List.replicate 64 120) := ⟨_, rfl⟩
  have C4 := Lib.hid (show ∀ w, Calls Try.prog 20 #[.string ⟨#[120]⟩, .int .i64 64] w fun e w' => e = .returned (.string R64) ∧ Below w.heap.size w w' from fun w => by rw [hR64]; exact Try.strings_Repeat ⟨#[120]⟩ 64 w (by omega) (by decide))
  have C5 := Lib.hid (show ∀ w, Calls Try.prog 18 #[.agg #[.int .i64 2, .int .i64 0, .string R64]] w fun e w' => e = .returned (.int .i64 0) ∧ Below w.heap.size w w' from fun w => by have h := check_any ⟨2, 0, R64⟩ w; rw [show chkV ⟨2, 0, R64⟩ = 0 from by rw [hR64]; decide +kernel] at h; exact h)
  obtain ⟨R65, hR65⟩ : ∃ r, r = bs (List.replicate 65 120) := ⟨_, rfl⟩
  have C6 := Lib.hid (show ∀ w, Calls Try.prog 20 #[.string ⟨#[120]⟩, .int .i64 65] w fun e w' => e = .returned (.string R65) ∧ Below w.heap.size w w' from fun w => by rw [hR65]; exact Try.strings_Repeat ⟨#[120]⟩ 65 w (by omega) (by decide))
  have C7 := Lib.hid (show ∀ w, Calls Try.prog 19 #[.agg #[.int .i64 2, .int .i64 0, .string R65]] w fun e w' => e = .returned (.bool true) ∧ Below w.heap.size w w' from fun w => noneV_any ⟨2, 0, R65⟩ (by rw [hR65]; decide +kernel) w)
  have C8 := Lib.hid (show ∀ w, Calls Try.prog 19 #[.agg #[.int .i64 2, .int .i64 1, .string ⟨#[]⟩]] w fun e w' => e = .returned (.bool true) ∧ Below w.heap.size w w' from fun w => noneV_any ⟨2, 1, ⟨#[]⟩⟩ (by decide +kernel) w)
  have C9 := Lib.hid (show ∀ w, Calls Try.prog 19 #[.agg #[.int .i64 3, .int .i64 (-1), .string ⟨#[]⟩]] w fun e w' => e = .returned (.bool true) ∧ Below w.heap.size w w' from fun w => noneV_any ⟨3, (-1), ⟨#[]⟩⟩ (by decide +kernel) w)
  have C10 := Lib.hid (show ∀ w, Calls Try.prog 19 #[.agg #[.int .i64 0, .int .i64 0, .string ⟨#[]⟩]] w fun e w' => e = .returned (.bool true) ∧ Below w.heap.size w w' from fun w => noneV_any ⟨0, 0, ⟨#[]⟩⟩ (by decide +kernel) w)
  have C11 := Lib.hid (show ∀ w, Calls Try.prog 19 #[.agg #[.int .i64 3, .int .i64 0, .string ⟨#[120]⟩]] w fun e w' => e = .returned (.bool true) ∧ Below w.heap.size w w' from fun w => noneV_any ⟨3, 0, ⟨#[120]⟩⟩ (by decide +kernel) w)
  clear hR64 hR65
  go_enter Try.func6, Try.ntmps6
  go_wp2_with fail
  refine (C0.out _).mono ?_
  rintro e w0 ⟨rfl, hb0⟩
  have hx0 := hb0
  clear C0
  go_wp2_with fail
  refine (C1.out _).mono ?_
  rintro e w1 ⟨rfl, hb1⟩
  have hx1 := nx hx0 hb1
  clear hx0 hb1
  clear C1
  go_wp2_with fail
  refine (C2.out _).mono ?_
  rintro e w2 ⟨rfl, hb2⟩
  have hx2 := nx hx1 hb2
  clear hx1 hb2
  clear C2
  go_wp2_with fail
  refine (C3.out _).mono ?_
  rintro e w3 ⟨rfl, hb3⟩
  have hx3 := nx hx2 hb3
  clear hx2 hb3
  clear C3
  go_wp2_with fail
  refine (C4.out _).mono ?_
  rintro e w4 ⟨rfl, hb4⟩
  have hx4 := nx hx3 hb4
  clear hx3 hb4
  clear C4
  go_wp2_with fail
  refine (C5.out _).mono ?_
  rintro e w5 ⟨rfl, hb5⟩
  have hx5 := nx hx4 hb5
  clear hx4 hb5
  clear C5
  go_wp2_with fail
  refine (C6.out _).mono ?_
  rintro e w6 ⟨rfl, hb6⟩
  have hx6 := nx hx5 hb6
  clear hx5 hb6
  clear C6
  go_wp2_with fail
  refine (C7.out _).mono ?_
  rintro e w7 ⟨rfl, hb7⟩
  have hx7 := nx hx6 hb7
  clear hx6 hb7
  clear C7
  go_wp2_with fail
  refine (C8.out _).mono ?_
  rintro e w8 ⟨rfl, hb8⟩
  have hx8 := nx hx7 hb8
  clear hx7 hb8
  clear C8
  go_wp2_with fail
  refine (C9.out _).mono ?_
  rintro e w9 ⟨rfl, hb9⟩
  have hx9 := nx hx8 hb9
  clear hx8 hb9
  clear C9
  go_wp2_with fail
  refine (C10.out _).mono ?_
  rintro e w10 ⟨rfl, hb10⟩
  have hx10 := nx hx9 hb10
  clear hx9 hb10
  clear C10
  go_wp2_with fail
  refine (C11.out _).mono ?_
  rintro e w11 ⟨rfl, hb11⟩
  have hx11 := nx hx10 hb11
  clear hx10 hb11
  clear C11
  go_upto_region 5 with (fail)
  have hq2 := (bel1' (w11.alloc (.cells #[.string ⟨#[97]⟩, .int .i64 0, .int .u32 0, .int .i64 3, .int .i64 0, .string ⟨#[]⟩] 49)) (.cells #[.string ⟨#[98]⟩, .int .i64 0, .int .u32 0, .int .i64 3, .int .i64 0, .string ⟨#[]⟩] 49)).block w11.heap.size (by rw [World.size_alloc]; omega)
  have hq2 := hq2.trans (heap_alloc_new w11 (.cells #[.string ⟨#[97]⟩, .int .i64 0, .int .u32 0, .int .i64 3, .int .i64 0, .string ⟨#[]⟩] 49))
  have hq3 := heap_alloc_new (w11.alloc (.cells #[.string ⟨#[97]⟩, .int .i64 0, .int .u32 0, .int .i64 3, .int .i64 0, .string ⟨#[]⟩] 49)) (.cells #[.string ⟨#[98]⟩, .int .i64 0, .int .u32 0, .int .i64 3, .int .i64 0, .string ⟨#[]⟩] 49)
  rw [World.size_alloc] at hq3
  have hbw := nx hx11 (nx (bel1' w11 (.cells #[.string ⟨#[97]⟩, .int .i64 0, .int .u32 0, .int .i64 3, .int .i64 0, .string ⟨#[]⟩] 49)) (bel1' (w11.alloc (.cells #[.string ⟨#[97]⟩, .int .i64 0, .int .u32 0, .int .i64 3, .int .i64 0, .string ⟨#[]⟩] 49)) (.cells #[.string ⟨#[98]⟩, .int .i64 0, .int .u32 0, .int .i64 3, .int .i64 0, .string ⟨#[]⟩] 49)))
  obtain ⟨W, hW⟩ : ∃ W, W = (w11.alloc (.cells #[.string ⟨#[97]⟩, .int .i64 0, .int .u32 0, .int .i64 3, .int .i64 0, .string ⟨#[]⟩] 49)).alloc (.cells #[.string ⟨#[98]⟩, .int .i64 0, .int .u32 0, .int .i64 3, .int .i64 0, .string ⟨#[]⟩] 49) := ⟨_, rfl⟩
  obtain ⟨q, hqq⟩ : ∃ q, q = w11.heap.size := ⟨_, rfl⟩
  rw [← hW] at hq2 hq3 hbw ⊢
  rw [← hqq] at hq2 hq3 ⊢
  clear hW hqq hx11
  have HQ2 := Lib.hid hq2
  have HBW := Lib.hid hbw
  have x0 : W.cell? ⟨q, 0, none⟩ = some (.string ⟨#[97]⟩) := cell_of hq2 0
  have y0 : W.cell? ⟨q + 1, 0, none⟩ = some (.string ⟨#[98]⟩) := cell_of hq3 0
  have x1 : W.cell? ⟨q, 1, none⟩ = some (.int .i64 0) := cell_of hq2 1
  have y1 : W.cell? ⟨q + 1, 1, none⟩ = some (.int .i64 0) := cell_of hq3 1
  have x2 : W.cell? ⟨q, 2, none⟩ = some (.int .u32 0) := cell_of hq2 2
  have y2 : W.cell? ⟨q + 1, 2, none⟩ = some (.int .u32 0) := cell_of hq3 2
  have x3 : W.cell? ⟨q, 3, none⟩ = some (.int .i64 3) := cell_of hq2 3
  have y3 : W.cell? ⟨q + 1, 3, none⟩ = some (.int .i64 3) := cell_of hq3 3
  have x4 : W.cell? ⟨q, 4, none⟩ = some (.int .i64 0) := cell_of hq2 4
  have y4 : W.cell? ⟨q + 1, 4, none⟩ = some (.int .i64 0) := cell_of hq3 4
  have x5 : W.cell? ⟨q, 5, none⟩ = some (.string ⟨#[]⟩) := cell_of hq2 5
  have y5 : W.cell? ⟨q + 1, 5, none⟩ = some (.string ⟨#[]⟩) := cell_of hq3 5
  have hlW := (Array.getElem?_eq_some_iff.1 hq3).1
  have hl0 : q < W.heap.size := by omega
  have hl1 : q < W.heap.size + 1 := by omega
  have hl2 : q < W.heap.size + 1 + 1 := by omega
  have hl3 : q < W.heap.size + 1 + 1 + 1 := by omega
  have hl4 : q < W.heap.size + 1 + 1 + 1 + 1 := by omega
  have hm1 : q + 1 < W.heap.size + 1 := by omega
  clear hq2 hq3 hbw
  go_upto_region 6 with (fail)
  clear hlW hl0 hl1 hl2 hl3 hl4 hm1
  obtain ⟨hT, hbT⟩ := ats5 W [twoA, oneA] [oneA, oneA] [⟨⟨#[65]⟩, ⟨0, 0⟩, ⟨3, 0, ⟨#[]⟩⟩⟩] [⟨⟨#[97]⟩, ⟨0, 0⟩, ⟨0, 0, ⟨#[]⟩⟩⟩] [⟨⟨#[97]⟩, ⟨8, 0⟩, ⟨3, 0, ⟨#[]⟩⟩⟩] ⟨(by intro y hy; simp [twoA, oneA] at hy; (first | (rcases hy with rfl | rfl <;> decide) | (subst hy; decide))), by decide⟩ ⟨(by intro y hy; simp [twoA, oneA] at hy; (first | (rcases hy with rfl | rfl <;> decide) | (subst hy; decide))), by decide⟩ ⟨(by intro y hy; simp [twoA, oneA] at hy; (first | (rcases hy with rfl | rfl <;> decide) | (subst hy; decide))), by decide⟩ ⟨(by intro y hy; simp [twoA, oneA] at hy; (first | (rcases hy with rfl | rfl <;> decide) | (subst hy; decide))), by decide⟩ ⟨(by intro y hy; simp [twoA, oneA] at hy; (first | (rcases hy with rfl | rfl <;> decide) | (subst hy; decide))), by decide⟩
  change Code.wp _ _ _ _ ((layA (layA (layA (layA (layA W [twoA, oneA]) [oneA, oneA]) [⟨⟨#[65]⟩, ⟨0, 0⟩, ⟨3, 0, ⟨#[]⟩⟩⟩]) [⟨⟨#[97]⟩, ⟨0, 0⟩, ⟨0, 0, ⟨#[]⟩⟩⟩]) [⟨⟨#[97]⟩, ⟨8, 0⟩, ⟨3, 0, ⟨#[]⟩⟩⟩]).alloc (.cells #[.slice (some ⟨W.heap.size, 0, none⟩) 2 2, .slice (some ⟨W.heap.size + 1, 0, none⟩) 2 2, .slice (some ⟨W.heap.size + 1 + 1, 0, none⟩) 1 1, .slice (some ⟨W.heap.size + 1 + 1 + 1, 0, none⟩) 1 1, .slice (some ⟨W.heap.size + 1 + 1 + 1 + 1, 0, none⟩) 1 1] 50))
  change Ats ((layA (layA (layA (layA (layA W [twoA, oneA]) [oneA, oneA]) [⟨⟨#[65]⟩, ⟨0, 0⟩, ⟨3, 0, ⟨#[]⟩⟩⟩]) [⟨⟨#[97]⟩, ⟨0, 0⟩, ⟨0, 0, ⟨#[]⟩⟩⟩]) [⟨⟨#[97]⟩, ⟨8, 0⟩, ⟨3, 0, ⟨#[]⟩⟩⟩]).alloc (.cells #[.slice (some ⟨W.heap.size, 0, none⟩) 2 2, .slice (some ⟨W.heap.size + 1, 0, none⟩) 2 2, .slice (some ⟨W.heap.size + 1 + 1, 0, none⟩) 1 1, .slice (some ⟨W.heap.size + 1 + 1 + 1, 0, none⟩) 1 1, .slice (some ⟨W.heap.size + 1 + 1 + 1 + 1, 0, none⟩) 1 1] 50)) _ _ at hT
  change Below _ W ((layA (layA (layA (layA (layA W [twoA, oneA]) [oneA, oneA]) [⟨⟨#[65]⟩, ⟨0, 0⟩, ⟨3, 0, ⟨#[]⟩⟩⟩]) [⟨⟨#[97]⟩, ⟨0, 0⟩, ⟨0, 0, ⟨#[]⟩⟩⟩]) [⟨⟨#[97]⟩, ⟨8, 0⟩, ⟨3, 0, ⟨#[]⟩⟩⟩]).alloc (.cells #[.slice (some ⟨W.heap.size, 0, none⟩) 2 2, .slice (some ⟨W.heap.size + 1, 0, none⟩) 2 2, .slice (some ⟨W.heap.size + 1 + 1, 0, none⟩) 1 1, .slice (some ⟨W.heap.size + 1 + 1 + 1, 0, none⟩) 1 1, .slice (some ⟨W.heap.size + 1 + 1 + 1 + 1, 0, none⟩) 1 1] 50)) at hbT
  obtain ⟨W6, hW⟩ : ∃ W6, W6 = (layA (layA (layA (layA (layA W [twoA, oneA]) [oneA, oneA]) [⟨⟨#[65]⟩, ⟨0, 0⟩, ⟨3, 0, ⟨#[]⟩⟩⟩]) [⟨⟨#[97]⟩, ⟨0, 0⟩, ⟨0, 0, ⟨#[]⟩⟩⟩]) [⟨⟨#[97]⟩, ⟨8, 0⟩, ⟨3, 0, ⟨#[]⟩⟩⟩]).alloc (.cells #[.slice (some ⟨W.heap.size, 0, none⟩) 2 2, .slice (some ⟨W.heap.size + 1, 0, none⟩) 2 2, .slice (some ⟨W.heap.size + 1 + 1, 0, none⟩) 1 1, .slice (some ⟨W.heap.size + 1 + 1 + 1, 0, none⟩) 1 1, .slice (some ⟨W.heap.size + 1 + 1 + 1 + 1, 0, none⟩) 1 1] 50) := ⟨_, rfl⟩
  rw [← hW] at hT hbT ⊢
  obtain ⟨g5, hg5⟩ : ∃ g, g = W.heap.size + 1 + 1 + 1 + 1 + 1 := ⟨_, rfl⟩
  rw [← hg5] at hT ⊢
  clear hW hg5
  have HT := Lib.hid (show Ats W6 g5 badsA from hT)
  have HB6 := Lib.hid (nx HBW.out hbT)
  have HO := Lib.hid (blk_obj HQ2.out hbT)
  clear hT hbT HQ2 HBW x0 x1 x2 x3 x4 x5 y0 y1 y2 y3 y4 y5
  go_wp2_with fail
  go_loopw [5] (fun i wr => ∃ k : Nat, i = .int .i64 k ∧ k ≤ 5 ∧ Hid (Below W6.heap.size W6 wr)) (fun i _ => 5 - (intOf i).toNat)
  case atStart => exact ⟨0, rfl, Nat.zero_le _, Lib.hid (bel0 _)⟩
  case round =>
    obtain ⟨k, rfl, hk, HB⟩ := hrel
    by_cases hlt : k < 5
    · obtain ⟨A, c, hc, hAS⟩ := (HT.out.below HB.out).at' k hlt
      have hno := badsA_no k hlt
      have hki : (k : Int) < 5 := by omega
      have haa : (⟨g5, 0, none⟩ : Addr).add k = ⟨g5, k, none⟩ := by rw [addr_add, Nat.zero_add]
      generalize badsA[k] = l at *
      have HAS := Lib.hid hAS
      clear hAS
      obtain ⟨n, hn⟩ : ∃ n, n = l.length := ⟨_, rfl⟩
      rw [← hn] at hc HAS
      have HNO := Lib.hid hno
      clear hn hno
      go_wp2_with fail
      refine (attrs_any HAS.out).mono ?_
      rw [HNO.out]
      rintro e w2 ⟨v, rfl, ho, hb2⟩
      have HB2 := Lib.hid (nx HB.out hb2)
      clear ho hb2 HAS HB hc
      go_wp2_with fail
      exact ⟨⟨k + 1, by go_num, by omega, HB2⟩, by simp [intOf] <;> omega⟩
    · obtain rfl : k = 5 := by omega
      simp only [show ((5 : Nat) : Int) = 5 from rfl]
      go_wp2_with fail
      have HF := Lib.hid (show FAt W6 wr (.slice none 0 0) 0 from ⟨HB.out, World.ownsRow_nil _ _ _ _⟩)
      clear HB
      go_loopw [8, 9] (fun v i wr => ∃ (vo : Value) (k : Nat), vo = v ∧ i = .int .i64 k ∧ k ≤ 9 ∧ Hid (FAt W6 wr vo k)) (fun _ i _ => 9 - (intOf i).toNat)
      case atStart => exact ⟨_, 0, rfl, rfl, Nat.zero_le _, HF⟩
      case round =>
        clear HF
        obtain ⟨v, k, rfl, rfl, hk, HF⟩ := hrel
        by_cases hkm : k < 9
        · skip
          have hO := blk_obj HO.out HF.out.bw
          have hki : (k : Int) < 9 := by omega
          obtain ⟨m, hm⟩ : ∃ m, m = 97 + k := ⟨_, rfl⟩
          have HM := Lib.hid hm
          have ekm : (97 : Int) + (k : Int) = (m : Int) := by omega
          have hm8 : m < 256 := by omega
          have ew64 : IntKind.i64.wrap (m : Int) = (m : Int) := by
            rw [IntKind.wrap_i64]
            omega
          have ew8 : IntKind.u8.wrap (m : Int) = (m : Int) := by
            rw [IntKind.wrap_u8]
            omega
          clear hm
          have x0 : wr.cell? ⟨q, 0, none⟩ = some (.string ⟨#[97]⟩) := cell_of hO 0
          have x1 : wr.cell? ⟨q, 1, none⟩ = some (.int .i64 0) := cell_of hO 1
          have x2 : wr.cell? ⟨q, 2, none⟩ = some (.int .u32 0) := cell_of hO 2
          have x3 : wr.cell? ⟨q, 3, none⟩ = some (.int .i64 3) := cell_of hO 3
          have x4 : wr.cell? ⟨q, 4, none⟩ = some (.int .i64 0) := cell_of hO 4
          have x5 : wr.cell? ⟨q, 5, none⟩ = some (.string ⟨#[]⟩) := cell_of hO 5
          have hq4 := heap_alloc_new wr (.cells #[.string ⟨#[97]⟩, .int .i64 0, .int .u32 0, .int .i64 3, .int .i64 0, .string ⟨#[]⟩] 49)
          have hF4 := HF.out.below (bel1' wr (.cells #[.string ⟨#[97]⟩, .int .i64 0, .int .u32 0, .int .i64 3, .int .i64 0, .string ⟨#[]⟩] 49))
          go_upto_region 17 with (fail)
          obtain ⟨Wa, hW⟩ : ∃ Wa, Wa = wr.alloc (.cells #[.string ⟨#[97]⟩, .int .i64 0, .int .u32 0, .int .i64 3, .int .i64 0, .string ⟨#[]⟩] 49) := ⟨_, rfl⟩
          obtain ⟨p, hp⟩ : ∃ p, p = wr.heap.size := ⟨_, rfl⟩
          have hpw : W6.heap.size ≤ p := by have := HF.out.bw.size; omega
          have HNE := Lib.hid (show v.ownBlock ≠ some p from fun e => by have := (HF.out.o.lt _ e).2; omega)
          rw [← hW] at hq4 hF4 ⊢
          rw [← hp] at hq4 ⊢
          have HQ4 := Lib.hid hq4
          have HF4 := Lib.hid hF4
          clear hW hp hO HF x0 x1 x2 x3 x4 x5 hF4
          have hcv : (convert 22 9 (.slice (some ⟨Wa.heap.size, 0, none⟩) 1 1)).run Try.prog (Wa.alloc (.cells #[.int .u8 (m : Int)] 5)) = .ok (.string (bs [m])) (Wa.alloc (.cells #[.int .u8 (m : Int)] 5)) := conv_back (l := [m]) (show BS (Wa.alloc (.cells #[.int .u8 (m : Int)] 5)) (some ⟨Wa.heap.size, 0, none⟩) 1 1 [m] from BS.alloc Wa [m] 5 (0, 0) (by intro x hx; simp only [List.mem_singleton] at hx; omega) (by simp))
          have hq5 := blk_obj HQ4.out (bel1' Wa (.cells #[.int .u8 (m : Int)] 5))
          have hF5 := HF4.out.below (bel1' Wa (.cells #[.int .u8 (m : Int)] 5))
          have z0 : (Wa.alloc (.cells #[.int .u8 (m : Int)] 5)).cell? ⟨p, 0, none⟩ = some (.string ⟨#[97]⟩) := cell_of hq5 0
          have f0 : (Wa.alloc (.cells #[.int .u8 (m : Int)] 5)).frozen? ⟨p, 0, none⟩ = false := frozen_of hq5 0
          clear hq4
          go_upto_region 18 with (fail)
          obtain ⟨nn, hnn⟩ : ∃ n, n = bs [m] := ⟨_, rfl⟩
          have HNN := Lib.hid hnn
          change Code.wp _ _ _ _ ((Wa.alloc (.cells #[.int .u8 (m : Int)] 5)).setCell ⟨p, 0, none⟩ (.string (bs [m])))
          rw [← hnn]
          have hq6 := heap_set hq5 0 (.string nn)
          have hF6 : FAt W6 ((Wa.alloc (.cells #[.int .u8 (m : Int)] 5)).setCell ⟨p, 0, none⟩ (.string nn)) v k := hF5.put hq5 hpw 0 (.string nn) HNE.out
          obtain ⟨Wb, hW⟩ : ∃ Wb, Wb = (Wa.alloc (.cells #[.int .u8 (m : Int)] 5)).setCell ⟨p, 0, none⟩ (.string nn) := ⟨_, rfl⟩
          rw [← hW] at hq6 hF6 ⊢
          clear hnn hW hcv z0 f0 hq5 hF5 HF4 HQ4
          have x0 : Wb.cell? ⟨p, 0, none⟩ = some (.string nn) := cell_of hq6 0
          have x1 : Wb.cell? ⟨p, 1, none⟩ = some (.int .i64 0) := cell_of hq6 1
          have x2 : Wb.cell? ⟨p, 2, none⟩ = some (.int .u32 0) := cell_of hq6 2
          have x3 : Wb.cell? ⟨p, 3, none⟩ = some (.int .i64 3) := cell_of hq6 3
          have x4 : Wb.cell? ⟨p, 4, none⟩ = some (.int .i64 0) := cell_of hq6 4
          have x5 : Wb.cell? ⟨p, 5, none⟩ = some (.string ⟨#[]⟩) := cell_of hq6 5
          have HF6 := Lib.hid hF6
          have HA := Lib.hid (heap_alloc_new Wb (.cells #[.string nn, .int .i64 0, .int .u32 0, .int .i64 3, .int .i64 0, .string ⟨#[]⟩] 49))
          have HF7 := Lib.hid (hF6.below (bel1' Wb (.cells #[.string nn, .int .i64 0, .int .u32 0, .int .i64 3, .int .i64 0, .string ⟨#[]⟩] 49)))
          clear hq6 hF6
          go_wp2_with (first | (refine wpList_bs rfl _ _ _ rfl #[(0, .agg #[.string nn, .int .i64 0, .int .u32 0, .int .i64 3, .int .i64 0, .string ⟨#[]⟩])] _ (by simp [Act.eval, Act.put]) (bslice_at1 nn 0 0 3 0 ⟨#[]⟩ Wb) ?_) | (at_builtin; refine append_att rfl (.tmp 113) (.tmp 115) rfl W6.heap.size v (fulA k) ⟨nn, ⟨0, 0⟩, ⟨3, 0, ⟨#[]⟩⟩⟩ rfl HF7.out.o Wb.heap.size rfl HA.out (by rw [fulA_len]; omega) HF7.out.bw.size ?_; intro v' w' ho hg hv; have HF8 := Lib.hid (FAt.push HF7.out ho hg HNN.out HM.out); clear ho hg hv HF7 HA HF6))
          exact ⟨⟨_, k + 1, rfl, by go_num, by omega, HF8⟩, by simp [intOf] <;> omega⟩
        · obtain rfl : k = 9 := by omega
          simp only [show ((9 : Nat) : Int) = 9 from rfl]
          obtain ⟨g8, c8, rfl, hc8⟩ : ∃ g c, v = .slice (some ⟨g, 0, none⟩) 9 c ∧ 9 ≤ c := by
            obtain ⟨A, c, e, h1, _⟩ := ownsRow_lies HF.out.o
            rcases HF.out.o.2 with ⟨e2, h0⟩ | ⟨g, cap, cur, e2, _⟩
            · rw [fulA_len] at h0; omega
            · rw [e2] at e
              injection e with e3 e4 e5
              rw [fulA_len] at h1 e2
              exact ⟨g, cap, e2, by rw [e5]; exact h1⟩
          obtain ⟨A, n, c, e, hAS⟩ := own_asL HF.out.o (fulA_pt 9) (by rw [fulA_len]; omega)
          injection e with e1 e2 e3
          subst e1 e2 e3
          have HB := Lib.hid HF.out.bw
          have HAS := Lib.hid hAS
          have hc8i : (8 : Int) ≤ (c8 : Int) := by omega
          clear hAS HF
          go_wp2_with fail
          refine (attrs_any HAS.out).mono ?_
          rw [fulA_9]
          rintro e wa ⟨va, rfl, hoa, hba⟩
          have HAS2 := Lib.hid (show AS wa (some ⟨g8, 0, none⟩) 8 c8 (fulA 8) from (HAS.out.below hba).cut (k := 8) (by rw [fulA_len]; omega))
          have HB2 := Lib.hid (nx HB.out hba)
          clear hoa hba HAS HB
          go_wp2_with fail
          refine (attrs_any HAS2.out).mono ?_
          rw [fulA_8]
          rintro e wb ⟨vb, rfl, hob, hbb⟩
          have HB3 := Lib.hid (nx HB6.out (nx HB2.out hbb))
          clear hob hbb HAS2 HB2 HT HO HB6
          go_upto_region 22 with (first | (refine wpList_bs rfl 22 1 #[(0, .const (.int .u8 0))] rfl #[(0, .int .u8 0)] _ (by simp [Act.eval, Act.put]) (bsl_w0 _) ?_) | (refine wpList_bs rfl 22 2 #[(0, .const (.int .u8 4)), (1, .const (.int .u8 0))] rfl #[(0, .int .u8 4), (1, .int .u8 0)] _ (by simp [Act.eval, Act.put]) (bsl_w1 _) ?_) | (refine wpList_bs rfl 22 2 #[(0, .const (.int .u8 3)), (1, .const (.int .u8 2))] rfl #[(0, .int .u8 3), (1, .int .u8 2)] _ (by simp [Act.eval, Act.put]) (bsl_w2 _) ?_) | (refine wpList_bs rfl 22 2 #[(0, .const (.int .u8 2)), (1, .const (.int .u8 65))] rfl #[(0, .int .u8 2), (1, .int .u8 65)] _ (by simp [Act.eval, Act.put]) (bsl_w3 _) ?_) | (refine wpList_bs rfl 28 4 _ rfl #[(0, .slice (some ⟨wb.heap.size, 0, none⟩) 1 1), (1, .slice (some ⟨wb.heap.size + 1, 0, none⟩) 2 2), (2, .slice (some ⟨wb.heap.size + 1 + 1, 0, none⟩) 2 2), (3, .slice (some ⟨wb.heap.size + 1 + 1 + 1, 0, none⟩) 2 2)] _ (by simp [Act.eval, Act.put]) (bsl_row _ _ _ _ _ _ _ _ _) ?_))
          obtain ⟨hR, hbR⟩ := rws4 wb [0] [4, 0] [3, 2] [2, 65] (by intro x hx; simp at hx; omega) (by intro x hx; simp at hx; omega) (by intro x hx; simp at hx; omega) (by intro x hx; simp at hx; omega) (by decide)
          change Code.wp _ _ _ _ ((lay (lay (lay (lay wb [0]) [4, 0]) [3, 2]) [2, 65]).alloc (.cells #[.slice (some ⟨wb.heap.size, 0, none⟩) 1 1, .slice (some ⟨wb.heap.size + 1, 0, none⟩) 2 2, .slice (some ⟨wb.heap.size + 1 + 1, 0, none⟩) 2 2, .slice (some ⟨wb.heap.size + 1 + 1 + 1, 0, none⟩) 2 2] 22))
          change Rws ((lay (lay (lay (lay wb [0]) [4, 0]) [3, 2]) [2, 65]).alloc (.cells #[.slice (some ⟨wb.heap.size, 0, none⟩) 1 1, .slice (some ⟨wb.heap.size + 1, 0, none⟩) 2 2, .slice (some ⟨wb.heap.size + 1 + 1, 0, none⟩) 2 2, .slice (some ⟨wb.heap.size + 1 + 1 + 1, 0, none⟩) 2 2] 22)) _ _ at hR
          change Below _ wb ((lay (lay (lay (lay wb [0]) [4, 0]) [3, 2]) [2, 65]).alloc (.cells #[.slice (some ⟨wb.heap.size, 0, none⟩) 1 1, .slice (some ⟨wb.heap.size + 1, 0, none⟩) 2 2, .slice (some ⟨wb.heap.size + 1 + 1, 0, none⟩) 2 2, .slice (some ⟨wb.heap.size + 1 + 1 + 1, 0, none⟩) 2 2] 22)) at hbR
          obtain ⟨W7, hW⟩ : ∃ W7, W7 = ((lay (lay (lay (lay wb [0]) [4, 0]) [3, 2]) [2, 65]).alloc (.cells #[.slice (some ⟨wb.heap.size, 0, none⟩) 1 1, .slice (some ⟨wb.heap.size + 1, 0, none⟩) 2 2, .slice (some ⟨wb.heap.size + 1 + 1, 0, none⟩) 2 2, .slice (some ⟨wb.heap.size + 1 + 1 + 1, 0, none⟩) 2 2] 22)) := ⟨_, rfl⟩
          rw [← hW] at hR hbR ⊢
          obtain ⟨g7, hg7⟩ : ∃ g, g = wb.heap.size + 1 + 1 + 1 + 1 := ⟨_, rfl⟩
          rw [← hg7] at hR ⊢
          clear hW hg7
          have HR := Lib.hid (show Rws W7 g7 wrongL from hR)
          have HB7 := Lib.hid (nx HB3.out hbR)
          clear hR hbR HB3
          go_wp2_with fail
          go_loopw [16] (fun i wr => ∃ k : Nat, i = .int .i64 k ∧ k ≤ 4 ∧ Hid (Below W7.heap.size W7 wr)) (fun i _ => 4 - (intOf i).toNat)
          case atStart => exact ⟨0, rfl, Nat.zero_le _, Lib.hid (bel0 _)⟩
          case round =>
            obtain ⟨k, rfl, hk, HB⟩ := hrel
            by_cases hlt : k < 4
            · rcases (show k = 0 ∨ k = 1 ∨ k = 2 ∨ k = 3 by omega) with rfl | rfl | rfl | rfl
              · as_aux_lemma =>
                  obtain ⟨b, hc, hB⟩ := (HR.out.below HB.out).at' 0 (by decide)
                  change wr.cell? ⟨g7, 0, none⟩ = some (.slice (some ⟨b, 0, none⟩) 1 1) at hc
                  obtain ⟨cz, wz, hrz, hBz, hbz⟩ := growZ (n := 1) (l := [0]) hB (by omega)
                  have HBZ := Lib.hid hBz
                  have HBz := Lib.hid (nx HB.out hbz)
                  clear hB hBz hbz HB
                  have haa : (⟨g7, 0, none⟩ : Addr).add 0 = ⟨g7, 0, none⟩ := addr_add _ _ _
                  go_wp2_with (at_builtin; refine Lib.wpList_append_run _ rfl _ _ _ _ rfl _ _ rfl rfl _ _ (hrz _) ?_)
                  refine (New_any _ _ _ _ _ HBZ.out).mono ?_
                  rintro r w1 ⟨g, rfl, hr, hb1⟩
                  have HBy := Lib.hid (nx HBz.out hb1)
                  have HGW := Lib.hid (show W7.heap.size ≤ g by have := hr.lt.1; have := HBz.out.size; omega)
                  have HR1 := Lib.hid hr
                  clear hr hb1 HBz HBZ hc hrz
                  go_wp2_with fail
                  refine (take_wrong0 HR1.out).mono ?_
                  rintro r w2 ⟨rfl, ⟨ml, hr⟩, hg⟩
                  have HR2 := Lib.hid hr
                  have HBx := Lib.hid (grown_bel HBy.out hg HGW.out)
                  clear hr hg HR1 HBy HGW
                  go_wp2_with fail
                  refine (Err_any HR2.out).mono ?_
                  rintro r w3 ⟨rfl, rfl⟩
                  go_wp2_with fail
                  exact ⟨⟨1, rfl, by omega, HBx⟩, by simp [intOf]⟩
              · as_aux_lemma =>
                  obtain ⟨b, hc, hB⟩ := (HR.out.below HB.out).at' 1 (by decide)
                  change wr.cell? ⟨g7, 1, none⟩ = some (.slice (some ⟨b, 0, none⟩) 2 2) at hc
                  obtain ⟨cz, wz, hrz, hBz, hbz⟩ := growZ (n := 2) (l := [4, 0]) hB (by omega)
                  have HBZ := Lib.hid hBz
                  have HBz := Lib.hid (nx HB.out hbz)
                  clear hB hBz hbz HB
                  have haa : (⟨g7, 0, none⟩ : Addr).add 1 = ⟨g7, 1, none⟩ := addr_add _ _ _
                  go_wp2_with (at_builtin; refine Lib.wpList_append_run _ rfl _ _ _ _ rfl _ _ rfl rfl _ _ (hrz _) ?_)
                  refine (New_any _ _ _ _ _ HBZ.out).mono ?_
                  rintro r w1 ⟨g, rfl, hr, hb1⟩
                  have HBy := Lib.hid (nx HBz.out hb1)
                  have HGW := Lib.hid (show W7.heap.size ≤ g by have := hr.lt.1; have := HBz.out.size; omega)
                  have HR1 := Lib.hid hr
                  clear hr hb1 HBz HBZ hc hrz
                  go_wp2_with fail
                  refine (take_wrong1 HR1.out).mono ?_
                  rintro r w2 ⟨rfl, ⟨ml, hr⟩, hg⟩
                  have HR2 := Lib.hid hr
                  have HBx := Lib.hid (grown_bel HBy.out hg HGW.out)
                  clear hr hg HR1 HBy HGW
                  go_wp2_with fail
                  refine (Err_any HR2.out).mono ?_
                  rintro r w3 ⟨rfl, rfl⟩
                  go_wp2_with fail
                  exact ⟨⟨2, rfl, by omega, HBx⟩, by simp [intOf]⟩
              · as_aux_lemma =>
                  obtain ⟨b, hc, hB⟩ := (HR.out.below HB.out).at' 2 (by decide)
                  change wr.cell? ⟨g7, 2, none⟩ = some (.slice (some ⟨b, 0, none⟩) 2 2) at hc
                  obtain ⟨cz, wz, hrz, hBz, hbz⟩ := growZ (n := 2) (l := [3, 2]) hB (by omega)
                  have HBZ := Lib.hid hBz
                  have HBz := Lib.hid (nx HB.out hbz)
                  clear hB hBz hbz HB
                  have haa : (⟨g7, 0, none⟩ : Addr).add 2 = ⟨g7, 2, none⟩ := addr_add _ _ _
                  go_wp2_with (at_builtin; refine Lib.wpList_append_run _ rfl _ _ _ _ rfl _ _ rfl rfl _ _ (hrz _) ?_)
                  refine (New_any _ _ _ _ _ HBZ.out).mono ?_
                  rintro r w1 ⟨g, rfl, hr, hb1⟩
                  have HBy := Lib.hid (nx HBz.out hb1)
                  have HGW := Lib.hid (show W7.heap.size ≤ g by have := hr.lt.1; have := HBz.out.size; omega)
                  have HR1 := Lib.hid hr
                  clear hr hb1 HBz HBZ hc hrz
                  go_wp2_with fail
                  refine (take_wrong2 HR1.out).mono ?_
                  rintro r w2 ⟨rfl, ⟨ml, hr⟩, hg⟩
                  have HR2 := Lib.hid hr
                  have HBx := Lib.hid (grown_bel HBy.out hg HGW.out)
                  clear hr hg HR1 HBy HGW
                  go_wp2_with fail
                  refine (Err_any HR2.out).mono ?_
                  rintro r w3 ⟨rfl, rfl⟩
                  go_wp2_with fail
                  exact ⟨⟨3, rfl, by omega, HBx⟩, by simp [intOf]⟩
              · as_aux_lemma =>
                  obtain ⟨b, hc, hB⟩ := (HR.out.below HB.out).at' 3 (by decide)
                  change wr.cell? ⟨g7, 3, none⟩ = some (.slice (some ⟨b, 0, none⟩) 2 2) at hc
                  obtain ⟨cz, wz, hrz, hBz, hbz⟩ := growZ (n := 2) (l := [2, 65]) hB (by omega)
                  have HBZ := Lib.hid hBz
                  have HBz := Lib.hid (nx HB.out hbz)
                  clear hB hBz hbz HB
                  have haa : (⟨g7, 0, none⟩ : Addr).add 3 = ⟨g7, 3, none⟩ := addr_add _ _ _
                  go_wp2_with (at_builtin; refine Lib.wpList_append_run _ rfl _ _ _ _ rfl _ _ rfl rfl _ _ (hrz _) ?_)
                  refine (New_any _ _ _ _ _ HBZ.out).mono ?_
                  rintro r w1 ⟨g, rfl, hr, hb1⟩
                  have HBy := Lib.hid (nx HBz.out hb1)
                  have HGW := Lib.hid (show W7.heap.size ≤ g by have := hr.lt.1; have := HBz.out.size; omega)
                  have HR1 := Lib.hid hr
                  clear hr hb1 HBz HBZ hc hrz
                  go_wp2_with fail
                  refine (take_wrong3 HR1.out).mono ?_
                  rintro r w2 ⟨rfl, ⟨ml, hr⟩, hg⟩
                  have HR2 := Lib.hid hr
                  have HBx := Lib.hid (grown_bel HBy.out hg HGW.out)
                  clear hr hg HR1 HBy HGW
                  go_wp2_with fail
                  refine (Err_any HR2.out).mono ?_
                  rintro r w3 ⟨rfl, rfl⟩
                  go_wp2_with fail
                  refine (Err_any HR2.out).mono ?_
                  rintro r w3 ⟨rfl, rfl⟩
                  go_wp2_with fail
                  exact ⟨⟨4, rfl, by omega, HBx⟩, by simp [intOf]⟩
            · obtain rfl : k = 4 := by omega
              simp only [show ((4 : Nat) : Int) = 4 from rfl]
              have HB8 := Lib.hid (nx HB7.out HB.out)
              clear HB HB7 HR
              go_upto_region 29 with (first | (refine wpList_bs rfl 22 1 #[(0, .const (.int .u8 9))] rfl #[(0, .int .u8 9)] _ (by simp [Act.eval, Act.put]) (bsl_l0 _) ?_) | (refine wpList_bs rfl 22 13 #[(0, .const (.int .u8 2)), (1, .const (.int .u8 1)), (2, .const (.int .u8 98)), (3, .const (.int .u8 0)), (4, .const (.int .u8 0)), (5, .const (.int .u8 3)), (6, .const (.int .u8 0)), (7, .const (.int .u8 1)), (8, .const (.int .u8 97)), (9, .const (.int .u8 0)), (10, .const (.int .u8 0)), (11, .const (.int .u8 3)), (12, .const (.int .u8 0))] rfl #[(0, .int .u8 2), (1, .int .u8 1), (2, .int .u8 98), (3, .int .u8 0), (4, .int .u8 0), (5, .int .u8 3), (6, .int .u8 0), (7, .int .u8 1), (8, .int .u8 97), (9, .int .u8 0), (10, .int .u8 0), (11, .int .u8 3), (12, .int .u8 0)] _ (by simp [Act.eval, Act.put]) (bsl_l1 _) ?_) | (refine wpList_bs rfl 22 7 #[(0, .const (.int .u8 1)), (1, .const (.int .u8 1)), (2, .const (.int .u8 65)), (3, .const (.int .u8 0)), (4, .const (.int .u8 0)), (5, .const (.int .u8 3)), (6, .const (.int .u8 0))] rfl #[(0, .int .u8 1), (1, .int .u8 1), (2, .int .u8 65), (3, .int .u8 0), (4, .int .u8 0), (5, .int .u8 3), (6, .int .u8 0)] _ (by simp [Act.eval, Act.put]) (bsl_l2 _) ?_) | (refine wpList_bs rfl 22 7 #[(0, .const (.int .u8 1)), (1, .const (.int .u8 1)), (2, .const (.int .u8 97)), (3, .const (.int .u8 8)), (4, .const (.int .u8 0)), (5, .const (.int .u8 3)), (6, .const (.int .u8 0))] rfl #[(0, .int .u8 1), (1, .int .u8 1), (2, .int .u8 97), (3, .int .u8 8), (4, .int .u8 0), (5, .int .u8 3), (6, .int .u8 0)] _ (by simp [Act.eval, Act.put]) (bsl_l3 _) ?_) | (refine wpList_bs rfl 28 4 _ rfl #[(0, .slice (some ⟨wr.heap.size, 0, none⟩) 1 1), (1, .slice (some ⟨wr.heap.size + 1, 0, none⟩) 13 13), (2, .slice (some ⟨wr.heap.size + 1 + 1, 0, none⟩) 7 7), (3, .slice (some ⟨wr.heap.size + 1 + 1 + 1, 0, none⟩) 7 7)] _ (by simp [Act.eval, Act.put]) (bsl_row _ _ _ _ _ _ _ _ _) ?_))
              obtain ⟨hR, hbR⟩ := rws4 wr [9] [2, 1, 98, 0, 0, 3, 0, 1, 97, 0, 0, 3, 0] [1, 1, 65, 0, 0, 3, 0] [1, 1, 97, 8, 0, 3, 0] (by intro x hx; simp at hx; omega) (by intro x hx; simp at hx; omega) (by intro x hx; simp at hx; omega) (by intro x hx; simp at hx; omega) (by decide)
              change Code.wp _ _ _ _ ((lay (lay (lay (lay wr [9]) [2, 1, 98, 0, 0, 3, 0, 1, 97, 0, 0, 3, 0]) [1, 1, 65, 0, 0, 3, 0]) [1, 1, 97, 8, 0, 3, 0]).alloc (.cells #[.slice (some ⟨wr.heap.size, 0, none⟩) 1 1, .slice (some ⟨wr.heap.size + 1, 0, none⟩) 13 13, .slice (some ⟨wr.heap.size + 1 + 1, 0, none⟩) 7 7, .slice (some ⟨wr.heap.size + 1 + 1 + 1, 0, none⟩) 7 7] 22))
              change Rws ((lay (lay (lay (lay wr [9]) [2, 1, 98, 0, 0, 3, 0, 1, 97, 0, 0, 3, 0]) [1, 1, 65, 0, 0, 3, 0]) [1, 1, 97, 8, 0, 3, 0]).alloc (.cells #[.slice (some ⟨wr.heap.size, 0, none⟩) 1 1, .slice (some ⟨wr.heap.size + 1, 0, none⟩) 13 13, .slice (some ⟨wr.heap.size + 1 + 1, 0, none⟩) 7 7, .slice (some ⟨wr.heap.size + 1 + 1 + 1, 0, none⟩) 7 7] 22)) _ _ at hR
              change Below _ wr ((lay (lay (lay (lay wr [9]) [2, 1, 98, 0, 0, 3, 0, 1, 97, 0, 0, 3, 0]) [1, 1, 65, 0, 0, 3, 0]) [1, 1, 97, 8, 0, 3, 0]).alloc (.cells #[.slice (some ⟨wr.heap.size, 0, none⟩) 1 1, .slice (some ⟨wr.heap.size + 1, 0, none⟩) 13 13, .slice (some ⟨wr.heap.size + 1 + 1, 0, none⟩) 7 7, .slice (some ⟨wr.heap.size + 1 + 1 + 1, 0, none⟩) 7 7] 22)) at hbR
              obtain ⟨W8, hW⟩ : ∃ W8, W8 = ((lay (lay (lay (lay wr [9]) [2, 1, 98, 0, 0, 3, 0, 1, 97, 0, 0, 3, 0]) [1, 1, 65, 0, 0, 3, 0]) [1, 1, 97, 8, 0, 3, 0]).alloc (.cells #[.slice (some ⟨wr.heap.size, 0, none⟩) 1 1, .slice (some ⟨wr.heap.size + 1, 0, none⟩) 13 13, .slice (some ⟨wr.heap.size + 1 + 1, 0, none⟩) 7 7, .slice (some ⟨wr.heap.size + 1 + 1 + 1, 0, none⟩) 7 7] 22)) := ⟨_, rfl⟩
              rw [← hW] at hR hbR ⊢
              obtain ⟨g8, hg8⟩ : ∃ g, g = wr.heap.size + 1 + 1 + 1 + 1 := ⟨_, rfl⟩
              rw [← hg8] at hR ⊢
              clear hW hg8
              have HR := Lib.hid (show Rws W8 g8 listsL from hR)
              have HB9 := Lib.hid (nx HB8.out hbR)
              clear hR hbR HB8
              go_wp2_with fail
              go_loopw [19] (fun i wr => ∃ k : Nat, i = .int .i64 k ∧ k ≤ 4 ∧ Hid (Below W8.heap.size W8 wr)) (fun i _ => 4 - (intOf i).toNat)
              case atStart => exact ⟨0, rfl, Nat.zero_le _, Lib.hid (bel0 _)⟩
              case round =>
                obtain ⟨k, rfl, hk, HB⟩ := hrel
                by_cases hlt : k < 4
                · obtain ⟨b, hc, hB⟩ := (HR.out.below HB.out).at' k hlt
                  have HTL := Lib.hid (fun (lo g : Nat) (w : World) h => take_lists (lo := lo) (g := g) (w := w) hlt rfl h)
                  have hki : (k : Int) < 4 := by omega
                  have haa : (⟨g8, 0, none⟩ : Addr).add k = ⟨g8, k, none⟩ := by rw [addr_add, Nat.zero_add]
                  generalize listsL[k] = l at *
                  have HBS := Lib.hid hB
                  obtain ⟨n, hn⟩ : ∃ n, n = l.length := ⟨_, rfl⟩
                  rw [← hn] at hc HBS
                  clear hn hB
                  go_wp2_with fail
                  refine (New_any _ _ _ _ _ HBS.out).mono ?_
                  rintro r w1 ⟨g, rfl, hr, hb1⟩
                  have HBy := Lib.hid (nx HB.out hb1)
                  have HGW := Lib.hid (show W8.heap.size ≤ g by have := hr.lt.1; have := HB.out.size; omega)
                  have HR1 := Lib.hid hr
                  clear hr hb1 HBS hc HB
                  go_wp2_with fail
                  refine (HTL.out _ _ _ HR1.out).mono ?_
                  rintro r w2 ⟨⟨A, c, rfl⟩, ⟨ml, hr⟩, hg⟩
                  have HR2 := Lib.hid hr
                  have HBx := Lib.hid (grown_bel HBy.out hg HGW.out)
                  clear hr hg HR1 HBy HGW HTL
                  go_wp2_with fail
                  refine (Err_any HR2.out).mono ?_
                  rintro r w3 ⟨rfl, rfl⟩
                  go_wp2_with fail
                  exact ⟨⟨k + 1, by go_num, by omega, HBx⟩, by simp [intOf] <;> omega⟩
                · obtain rfl : k = 4 := by omega
                  have HBa := Lib.hid (nx HB9.out HB.out)
                  clear HB HB9 HR
                  go_wp2_with fail
                  refine (works08_any _).mono ?_
                  rintro e wx ⟨rfl, hbx⟩
                  have HBb := Lib.hid (nx HBa.out hbx)
                  clear hbx HBa
                  go_wp2_with fail
                  refine (take_nil _).mono ?_
                  rintro e wy ⟨rfl, hby⟩
                  have HBc := Lib.hid (nx HBb.out hby)
                  clear hby HBb
                  go_wp2_with fail
                  refine (takeAs_nil _).mono ?_
                  rintro e wz ⟨rfl, hbz⟩
                  have HBd := Lib.hid (nx HBc.out hbz)
                  clear hbz HBc
                  go_wp2_with fail
                  go_ret
                  exact ⟨rfl, HBd.out⟩
end Go.Proofs.Ytmnabhennibddaa
