/- The statements' own helpers on lists of numbers: is, works. No conditions. -/
import Derived.Test.YthikhoamodcggaaPoE
set_option linter.unusedSimpArgs false
set_option linter.unusedVariables false
namespace Go.Proofs.Ythikhoamodcggaa
open Go.RowKit

theorem fitD {l : List Int} (h : l.all (fun z => decide (-9223372036854775808 ≤ z ∧ z ≤ 9223372036854775807)) = true) : Fit l := fun z hz => by
  have := List.all_eq_true.1 h z hz
  simpa [I64] using this
theorem TwoI.open {w w' : World} {e : Ending} {l : List Int} {k : Int} (h : TwoI w w' e l k) (hf : Fit l) (hl : l.length ≤ 17592186044416) :
    ∃ A n c, e = .returned (.tuple #[.slice A n c, .int .i64 k]) ∧ IL w' A n c l ∧ (∀ ad, A = some ad → w.heap.size ≤ ad.block ∧ ad.block < w'.heap.size) ∧ Below w.heap.size w w' := by
  obtain ⟨v, rfl, ho, hb⟩ := h
  obtain ⟨A, n, c, rfl, hI, hA⟩ := ownsRow_il ho hf hl
  exact ⟨A, n, c, rfl, hI, hA, hb⟩
theorem ThreeI.open {w w' : World} {e : Ending} {p : List Int × Int × Int} (h : ThreeI w w' e p) (hf : Fit p.1) (hl : p.1.length ≤ 17592186044416) :
    ∃ A n c, e = .returned (.tuple #[.slice A n c, .int .i64 p.2.1, .int .i64 p.2.2]) ∧ IL w' A n c p.1 ∧ (∀ ad, A = some ad → w.heap.size ≤ ad.block ∧ ad.block < w'.heap.size) ∧ Below w.heap.size w w' := by
  obtain ⟨v, rfl, ho, hb⟩ := h
  obtain ⟨A, n, c, rfl, hI, hA⟩ := ownsRow_il ho hf hl
  exact ⟨A, n, c, rfl, hI, hA, hb⟩

set_option maxHeartbeats 4000000 in
theorem is21_any {A B : Option Addr} {n c m d : Nat} {l k : List Int} {w : World} (h : IL w A n c l) (h2 : IL w B m d k) (e : l = k) :
    Calls Try.prog 31 #[.slice A n c, .int .i64 0, .slice B m d] w fun e w' => e = .returned (.bool true) ∧ Below w.heap.size w w' := by
  have HE := Lib.hid (eqInts_any A B n c m d l k w h h2)
  rw [decide_eq_true e] at HE
  clear h h2
  go_enter Try.func31, Try.ntmps31
  go_wp2_with fail
  refine HE.out.mono ?_
  rintro e w1 ⟨rfl, hb⟩
  go_wp2_with fail
  go_ret
  exact ⟨rfl, hb⟩

theorem works_or : orP [[1, 2], [2, 5]] = ([1, 2, 5], 0) := by
  have h : allI [[1, 2], [2, 5]] = true := by decide +kernel
  unfold orP
  rw [if_pos h]
  congr 1
  obtain ⟨h1, h2⟩ := orL_ok h
  refine inc_ext h1 (by decide +kernel) (fun x => (h2 x).trans ?_)
  simp only [List.mem_cons, List.not_mem_nil, or_false]
  constructor
  · rintro ⟨l, rfl | rfl, hx⟩
    · simp at hx; omega
    · simp at hx; omega
  · rintro (rfl | rfl | rfl)
    · exact ⟨_, .inl rfl, by simp⟩
    · exact ⟨_, .inl rfl, by simp⟩
    · exact ⟨_, .inr rfl, by simp⟩
set_option maxHeartbeats 32000000 in
set_option maxRecDepth 100000 in
theorem works21_any (w : World) : Calls Try.prog 18 #[] w fun e w' => e = .returned (.bool true) ∧ Below w.heap.size w w' := by
  have P1 : putP [1, 4] 3 = ([1, 3, 4], 0) := by decide +kernel
  have P2 : cutP [1, 3, 4] 3 = ([1, 4], 0) := by decide +kernel
  have P3 : cutP [1] 2 = ([1], 0) := by decide +kernel
  have P4 : andP [[1, 2, 3], [2, 3, 4]] = ([2, 3], 0) := by decide +kernel
  have P5 : orP [[1, 2], [2, 5]] = ([1, 2, 5], 0) := works_or
  have P6 : butP [1, 2, 3] [2] = ([1, 3], 0) := by decide +kernel
  have P7 : pageP [1, 4, 6, 9] 2 2 = ([4, 6], 9, 0) := by decide +kernel
  have P8 : pageP [1, 4] 5 1 = ([], 0, 0) := by decide +kernel
  have P9 : putP [] (-1) = ([], 9) := by decide +kernel
  have P10 : chkI [2, 2] = 2 := by decide +kernel
  have HP1 := Lib.hid P1
  have HP2 := Lib.hid P2
  have HP3 := Lib.hid P3
  have HP4 := Lib.hid P4
  have HP5 := Lib.hid P5
  have HP6 := Lib.hid P6
  have HP7 := Lib.hid P7
  have HP8 := Lib.hid P8
  have HP9 := Lib.hid P9
  have HP10 := Lib.hid P10
  clear P1 P2 P3 P4 P5 P6 P7 P8 P9 P10
  go_enter Try.func18, Try.ntmps18
  go_wp2_with fail
  refine (Put_any 3 ⟨by omega, by omega⟩ (IL.new w [1, 4] 3 (0, 0) (fitD (by decide +kernel)) (by simp)) (by simp)).mono ?_
  intro e w1 hh
  rw [HP1.out] at hh
  obtain ⟨A1, n1, c1, rfl, hI, _, hq⟩ := hh.open (fitD (by decide +kernel)) (by simp)
  have hb1 : Below w.heap.size w w1 := nx ((bel0 w).alloc (Nat.le_refl _) _) hq
  have hbw1 := hb1
  have R1_1 := Lib.hid (hI)
  clear hI hq hh
  go_wp2_with fail
  refine (Cut_any 3 (IL.new w1 [1, 3, 4] 3 (0, 0) (fitD (by decide +kernel)) (by simp))).mono ?_
  intro e w2 hh
  rw [HP2.out] at hh
  obtain ⟨A2, n2, c2, rfl, hI, _, hq⟩ := hh.open (fitD (by decide +kernel)) (by simp)
  have hb2 : Below w1.heap.size w1 w2 := nx ((bel0 w1).alloc (Nat.le_refl _) _) hq
  have R1_2 := Lib.hid (R1_1.out.below hb2)
  have hbw2 := nx hbw1 hb2
  clear R1_1
  have R2_2 := Lib.hid (hI)
  clear hI hq hh
  go_wp2_with fail
  refine (Cut_any 2 (IL.new w2 [1] 3 (0, 0) (fitD (by decide +kernel)) (by simp))).mono ?_
  intro e w3 hh
  rw [HP3.out] at hh
  obtain ⟨A3, n3, c3, rfl, hI, _, hq⟩ := hh.open (fitD (by decide +kernel)) (by simp)
  have hb3 : Below w2.heap.size w2 w3 := nx ((bel0 w2).alloc (Nat.le_refl _) _) hq
  have R1_3 := Lib.hid (R1_2.out.below hb3)
  have R2_3 := Lib.hid (R2_2.out.below hb3)
  have hbw3 := nx hbw2 hb3
  clear R1_2 R2_2
  have R3_3 := Lib.hid (hI)
  clear hI hq hh
  go_wp2_with fail
  have hza : ((w3).alloc (.cells (iv [1, 2, 3]).toArray 3)).heap.size = w3.heap.size + 1 := World.size_alloc ..
  have hL : LL (((((w3).alloc (.cells (iv [1, 2, 3]).toArray 3))).alloc (.cells (iv [2, 3, 4]).toArray 3)).alloc (.cells #[.slice (some ⟨w3.heap.size, 0, none⟩) 3 3, .slice (some ⟨w3.heap.size + 1, 0, none⟩) 3 3] 23)) (some ⟨w3.heap.size + 2, 0, none⟩) 2 2 [[1, 2, 3], [2, 3, 4]] := by
    have h1 := (IL.new w3 [1, 2, 3] 3 (0, 0) (fitD (by decide +kernel)) (by simp)).below ((bel0 ((w3).alloc (.cells (iv [1, 2, 3]).toArray 3))).alloc (Nat.le_refl _) (.cells (iv [2, 3, 4]).toArray 3))
    have h2 := IL.new ((w3).alloc (.cells (iv [1, 2, 3]).toArray 3)) [2, 3, 4] 3 (0, 0) (fitD (by decide +kernel)) (by simp)
    rw [hza] at h2
    have h3 := LL.two h1 h2 23
    rw [show ((((w3).alloc (.cells (iv [1, 2, 3]).toArray 3))).alloc (.cells (iv [2, 3, 4]).toArray 3)).heap.size = w3.heap.size + 2 from by rw [World.size_alloc, hza]] at h3
    exact h3
  have hbl : Below w3.heap.size w3 (((((w3).alloc (.cells (iv [1, 2, 3]).toArray 3))).alloc (.cells (iv [2, 3, 4]).toArray 3)).alloc (.cells #[.slice (some ⟨w3.heap.size, 0, none⟩) 3 3, .slice (some ⟨w3.heap.size + 1, 0, none⟩) 3 3] 23)) := (((bel0 w3).alloc (Nat.le_refl _) _).alloc (by rw [World.size_alloc]; omega) _).alloc (by rw [World.size_alloc, World.size_alloc]; omega) _
  have HLL := Lib.hid hL
  clear hL hza
  refine (And_any HLL.out).mono ?_
  intro e w4 hh
  rw [HP4.out] at hh
  obtain ⟨A4, n4, c4, rfl, hI, _, hq⟩ := hh.open (fitD (by decide +kernel)) (by simp)
  have hb4 : Below w3.heap.size w3 w4 := nx hbl hq
  have R1_4 := Lib.hid (R1_3.out.below hb4)
  have R2_4 := Lib.hid (R2_3.out.below hb4)
  have R3_4 := Lib.hid (R3_3.out.below hb4)
  have hbw4 := nx hbw3 hb4
  clear R1_3 R2_3 R3_3
  have R4_4 := Lib.hid (hI)
  clear hI hq hh
  go_wp2_with fail
  clear hbl HLL
  have hza : ((w4).alloc (.cells (iv [1, 2]).toArray 3)).heap.size = w4.heap.size + 1 := World.size_alloc ..
  have hL : LL (((((w4).alloc (.cells (iv [1, 2]).toArray 3))).alloc (.cells (iv [2, 5]).toArray 3)).alloc (.cells #[.slice (some ⟨w4.heap.size, 0, none⟩) 2 2, .slice (some ⟨w4.heap.size + 1, 0, none⟩) 2 2] 23)) (some ⟨w4.heap.size + 2, 0, none⟩) 2 2 [[1, 2], [2, 5]] := by
    have h1 := (IL.new w4 [1, 2] 3 (0, 0) (fitD (by decide +kernel)) (by simp)).below ((bel0 ((w4).alloc (.cells (iv [1, 2]).toArray 3))).alloc (Nat.le_refl _) (.cells (iv [2, 5]).toArray 3))
    have h2 := IL.new ((w4).alloc (.cells (iv [1, 2]).toArray 3)) [2, 5] 3 (0, 0) (fitD (by decide +kernel)) (by simp)
    rw [hza] at h2
    have h3 := LL.two h1 h2 23
    rw [show ((((w4).alloc (.cells (iv [1, 2]).toArray 3))).alloc (.cells (iv [2, 5]).toArray 3)).heap.size = w4.heap.size + 2 from by rw [World.size_alloc, hza]] at h3
    exact h3
  have hbl : Below w4.heap.size w4 (((((w4).alloc (.cells (iv [1, 2]).toArray 3))).alloc (.cells (iv [2, 5]).toArray 3)).alloc (.cells #[.slice (some ⟨w4.heap.size, 0, none⟩) 2 2, .slice (some ⟨w4.heap.size + 1, 0, none⟩) 2 2] 23)) := (((bel0 w4).alloc (Nat.le_refl _) _).alloc (by rw [World.size_alloc]; omega) _).alloc (by rw [World.size_alloc, World.size_alloc]; omega) _
  have HLL := Lib.hid hL
  clear hL hza
  refine (Or_any HLL.out (by simp)).mono ?_
  intro e w5 hh
  rw [HP5.out] at hh
  obtain ⟨A5, n5, c5, rfl, hI, _, hq⟩ := hh.open (fitD (by decide +kernel)) (by simp)
  have hb5 : Below w4.heap.size w4 w5 := nx hbl hq
  have R1_5 := Lib.hid (R1_4.out.below hb5)
  have R2_5 := Lib.hid (R2_4.out.below hb5)
  have R3_5 := Lib.hid (R3_4.out.below hb5)
  have R4_5 := Lib.hid (R4_4.out.below hb5)
  have hbw5 := nx hbw4 hb5
  clear R1_4 R2_4 R3_4 R4_4
  have R5_5 := Lib.hid (hI)
  clear hI hq hh
  go_wp2_with fail
  clear hbl HLL
  have hza : ((w5).alloc (.cells (iv [1, 2, 3]).toArray 3)).heap.size = w5.heap.size + 1 := World.size_alloc ..
  have h1 := (IL.new w5 [1, 2, 3] 3 (0, 0) (fitD (by decide +kernel)) (by simp)).below ((bel0 ((w5).alloc (.cells (iv [1, 2, 3]).toArray 3))).alloc (Nat.le_refl _) (.cells (iv [2]).toArray 3))
  have h2 := IL.new ((w5).alloc (.cells (iv [1, 2, 3]).toArray 3)) [2] 3 (0, 0) (fitD (by decide +kernel)) (by simp)
  rw [hza] at h2
  have H1 := Lib.hid h1
  have H2 := Lib.hid h2
  have hbl : Below w5.heap.size w5 ((((w5).alloc (.cells (iv [1, 2, 3]).toArray 3))).alloc (.cells (iv [2]).toArray 3)) := ((bel0 w5).alloc (Nat.le_refl _) _).alloc (by rw [hza]; omega) _
  clear h1 h2 hza
  refine (But_any H1.out H2.out).mono ?_
  intro e w6 hh
  rw [HP6.out] at hh
  obtain ⟨A6, n6, c6, rfl, hI, _, hq⟩ := hh.open (fitD (by decide +kernel)) (by simp)
  have hb6 : Below w5.heap.size w5 w6 := nx hbl hq
  have R1_6 := Lib.hid (R1_5.out.below hb6)
  have R2_6 := Lib.hid (R2_5.out.below hb6)
  have R3_6 := Lib.hid (R3_5.out.below hb6)
  have R4_6 := Lib.hid (R4_5.out.below hb6)
  have R5_6 := Lib.hid (R5_5.out.below hb6)
  have hbw6 := nx hbw5 hb6
  clear R1_5 R2_5 R3_5 R4_5 R5_5
  have R6_6 := Lib.hid (hI)
  clear hI hq hh
  go_wp2_with fail
  clear H1 H2 hbl
  refine (Page_any 2 2 ⟨by omega, by omega⟩ (IL.new w6 [1, 4, 6, 9] 3 (0, 0) (fitD (by decide +kernel)) (by simp))).mono ?_
  intro e w7 hh
  rw [HP7.out] at hh
  obtain ⟨A7, n7, c7, rfl, hI, _, hq⟩ := hh.open (fitD (by decide +kernel)) (by simp)
  have hb7 : Below w6.heap.size w6 w7 := nx ((bel0 w6).alloc (Nat.le_refl _) _) hq
  have R1_7 := Lib.hid (R1_6.out.below hb7)
  have R2_7 := Lib.hid (R2_6.out.below hb7)
  have R3_7 := Lib.hid (R3_6.out.below hb7)
  have R4_7 := Lib.hid (R4_6.out.below hb7)
  have R5_7 := Lib.hid (R5_6.out.below hb7)
  have R6_7 := Lib.hid (R6_6.out.below hb7)
  have hbw7 := nx hbw6 hb7
  clear R1_6 R2_6 R3_6 R4_6 R5_6 R6_6
  have R7_7 := Lib.hid (hI)
  clear hI hq hh
  go_wp2_with fail
  refine (Page_any 5 1 ⟨by omega, by omega⟩ (IL.new w7 [1, 4] 3 (0, 0) (fitD (by decide +kernel)) (by simp))).mono ?_
  intro e w8 hh
  rw [HP8.out] at hh
  obtain ⟨A8, n8, c8, rfl, hI, _, hq⟩ := hh.open (fitD (by decide +kernel)) (by simp)
  have hb8 : Below w7.heap.size w7 w8 := nx ((bel0 w7).alloc (Nat.le_refl _) _) hq
  have R1_8 := Lib.hid (R1_7.out.below hb8)
  have R2_8 := Lib.hid (R2_7.out.below hb8)
  have R3_8 := Lib.hid (R3_7.out.below hb8)
  have R4_8 := Lib.hid (R4_7.out.below hb8)
  have R5_8 := Lib.hid (R5_7.out.below hb8)
  have R6_8 := Lib.hid (R6_7.out.below hb8)
  have R7_8 := Lib.hid (R7_7.out.below hb8)
  have hbw8 := nx hbw7 hb8
  clear R1_7 R2_7 R3_7 R4_7 R5_7 R6_7 R7_7
  have R8_8 := Lib.hid (hI)
  clear hI hq hh
  go_wp2_with fail
  refine (Put_any (-1) ⟨by omega, by omega⟩ (IL.empty w8) (by simp)).mono ?_
  intro e w9 hh
  rw [HP9.out] at hh
  obtain ⟨A9, n9, c9, rfl, hI, _, hq⟩ := hh.open (fitD (by decide +kernel)) (by simp)
  have hb9 : Below w8.heap.size w8 w9 := nx (bel0 w8) hq
  have R1_9 := Lib.hid (R1_8.out.below hb9)
  have R2_9 := Lib.hid (R2_8.out.below hb9)
  have R3_9 := Lib.hid (R3_8.out.below hb9)
  have R4_9 := Lib.hid (R4_8.out.below hb9)
  have R5_9 := Lib.hid (R5_8.out.below hb9)
  have R6_9 := Lib.hid (R6_8.out.below hb9)
  have R7_9 := Lib.hid (R7_8.out.below hb9)
  have R8_9 := Lib.hid (R8_8.out.below hb9)
  have hbw9 := nx hbw8 hb9
  clear R1_8 R2_8 R3_8 R4_8 R5_8 R6_8 R7_8 R8_8
  have R9_9 := Lib.hid (hI)
  clear hI hq hh
  go_wp2_with fail
  refine (is21_any (R1_9.out.below ((bel0 w9).alloc (Nat.le_refl _) _)) (IL.new w9 [1, 3, 4] 3 (0, 0) (fitD (by decide +kernel)) (by simp)) rfl).mono ?_
  rintro e w10 ⟨rfl, hq⟩
  have hb10 : Below w9.heap.size w9 w10 := nx ((bel0 w9).alloc (Nat.le_refl _) _) hq
  have R1_10 := Lib.hid (R1_9.out.below hb10)
  have R2_10 := Lib.hid (R2_9.out.below hb10)
  have R3_10 := Lib.hid (R3_9.out.below hb10)
  have R4_10 := Lib.hid (R4_9.out.below hb10)
  have R5_10 := Lib.hid (R5_9.out.below hb10)
  have R6_10 := Lib.hid (R6_9.out.below hb10)
  have R7_10 := Lib.hid (R7_9.out.below hb10)
  have R8_10 := Lib.hid (R8_9.out.below hb10)
  have R9_10 := Lib.hid (R9_9.out.below hb10)
  have hbw10 := nx hbw9 hb10
  clear R1_9 R2_9 R3_9 R4_9 R5_9 R6_9 R7_9 R8_9 R9_9 hq
  go_wp2_with fail
  refine (is21_any (R2_10.out.below ((bel0 w10).alloc (Nat.le_refl _) _)) (IL.new w10 [1, 4] 3 (0, 0) (fitD (by decide +kernel)) (by simp)) rfl).mono ?_
  rintro e w11 ⟨rfl, hq⟩
  have hb11 : Below w10.heap.size w10 w11 := nx ((bel0 w10).alloc (Nat.le_refl _) _) hq
  have R1_11 := Lib.hid (R1_10.out.below hb11)
  have R2_11 := Lib.hid (R2_10.out.below hb11)
  have R3_11 := Lib.hid (R3_10.out.below hb11)
  have R4_11 := Lib.hid (R4_10.out.below hb11)
  have R5_11 := Lib.hid (R5_10.out.below hb11)
  have R6_11 := Lib.hid (R6_10.out.below hb11)
  have R7_11 := Lib.hid (R7_10.out.below hb11)
  have R8_11 := Lib.hid (R8_10.out.below hb11)
  have R9_11 := Lib.hid (R9_10.out.below hb11)
  have hbw11 := nx hbw10 hb11
  clear R1_10 R2_10 R3_10 R4_10 R5_10 R6_10 R7_10 R8_10 R9_10 hq
  go_wp2_with fail
  refine (is21_any (R3_11.out.below ((bel0 w11).alloc (Nat.le_refl _) _)) (IL.new w11 [1] 3 (0, 0) (fitD (by decide +kernel)) (by simp)) rfl).mono ?_
  rintro e w12 ⟨rfl, hq⟩
  have hb12 : Below w11.heap.size w11 w12 := nx ((bel0 w11).alloc (Nat.le_refl _) _) hq
  have R1_12 := Lib.hid (R1_11.out.below hb12)
  have R2_12 := Lib.hid (R2_11.out.below hb12)
  have R3_12 := Lib.hid (R3_11.out.below hb12)
  have R4_12 := Lib.hid (R4_11.out.below hb12)
  have R5_12 := Lib.hid (R5_11.out.below hb12)
  have R6_12 := Lib.hid (R6_11.out.below hb12)
  have R7_12 := Lib.hid (R7_11.out.below hb12)
  have R8_12 := Lib.hid (R8_11.out.below hb12)
  have R9_12 := Lib.hid (R9_11.out.below hb12)
  have hbw12 := nx hbw11 hb12
  clear R1_11 R2_11 R3_11 R4_11 R5_11 R6_11 R7_11 R8_11 R9_11 hq
  go_wp2_with fail
  refine (is21_any (R4_12.out.below ((bel0 w12).alloc (Nat.le_refl _) _)) (IL.new w12 [2, 3] 3 (0, 0) (fitD (by decide +kernel)) (by simp)) rfl).mono ?_
  rintro e w13 ⟨rfl, hq⟩
  have hb13 : Below w12.heap.size w12 w13 := nx ((bel0 w12).alloc (Nat.le_refl _) _) hq
  have R1_13 := Lib.hid (R1_12.out.below hb13)
  have R2_13 := Lib.hid (R2_12.out.below hb13)
  have R3_13 := Lib.hid (R3_12.out.below hb13)
  have R4_13 := Lib.hid (R4_12.out.below hb13)
  have R5_13 := Lib.hid (R5_12.out.below hb13)
  have R6_13 := Lib.hid (R6_12.out.below hb13)
  have R7_13 := Lib.hid (R7_12.out.below hb13)
  have R8_13 := Lib.hid (R8_12.out.below hb13)
  have R9_13 := Lib.hid (R9_12.out.below hb13)
  have hbw13 := nx hbw12 hb13
  clear R1_12 R2_12 R3_12 R4_12 R5_12 R6_12 R7_12 R8_12 R9_12 hq
  go_wp2_with fail
  refine (is21_any (R5_13.out.below ((bel0 w13).alloc (Nat.le_refl _) _)) (IL.new w13 [1, 2, 5] 3 (0, 0) (fitD (by decide +kernel)) (by simp)) rfl).mono ?_
  rintro e w14 ⟨rfl, hq⟩
  have hb14 : Below w13.heap.size w13 w14 := nx ((bel0 w13).alloc (Nat.le_refl _) _) hq
  have R1_14 := Lib.hid (R1_13.out.below hb14)
  have R2_14 := Lib.hid (R2_13.out.below hb14)
  have R3_14 := Lib.hid (R3_13.out.below hb14)
  have R4_14 := Lib.hid (R4_13.out.below hb14)
  have R5_14 := Lib.hid (R5_13.out.below hb14)
  have R6_14 := Lib.hid (R6_13.out.below hb14)
  have R7_14 := Lib.hid (R7_13.out.below hb14)
  have R8_14 := Lib.hid (R8_13.out.below hb14)
  have R9_14 := Lib.hid (R9_13.out.below hb14)
  have hbw14 := nx hbw13 hb14
  clear R1_13 R2_13 R3_13 R4_13 R5_13 R6_13 R7_13 R8_13 R9_13 hq
  go_wp2_with fail
  refine (is21_any (R6_14.out.below ((bel0 w14).alloc (Nat.le_refl _) _)) (IL.new w14 [1, 3] 3 (0, 0) (fitD (by decide +kernel)) (by simp)) rfl).mono ?_
  rintro e w15 ⟨rfl, hq⟩
  have hb15 : Below w14.heap.size w14 w15 := nx ((bel0 w14).alloc (Nat.le_refl _) _) hq
  have R1_15 := Lib.hid (R1_14.out.below hb15)
  have R2_15 := Lib.hid (R2_14.out.below hb15)
  have R3_15 := Lib.hid (R3_14.out.below hb15)
  have R4_15 := Lib.hid (R4_14.out.below hb15)
  have R5_15 := Lib.hid (R5_14.out.below hb15)
  have R6_15 := Lib.hid (R6_14.out.below hb15)
  have R7_15 := Lib.hid (R7_14.out.below hb15)
  have R8_15 := Lib.hid (R8_14.out.below hb15)
  have R9_15 := Lib.hid (R9_14.out.below hb15)
  have hbw15 := nx hbw14 hb15
  clear R1_14 R2_14 R3_14 R4_14 R5_14 R6_14 R7_14 R8_14 R9_14 hq
  go_wp2_with fail
  refine (is21_any (R7_15.out.below ((bel0 w15).alloc (Nat.le_refl _) _)) (IL.new w15 [4, 6] 3 (0, 0) (fitD (by decide +kernel)) (by simp)) rfl).mono ?_
  rintro e w16 ⟨rfl, hq⟩
  have hb16 : Below w15.heap.size w15 w16 := nx ((bel0 w15).alloc (Nat.le_refl _) _) hq
  have R1_16 := Lib.hid (R1_15.out.below hb16)
  have R2_16 := Lib.hid (R2_15.out.below hb16)
  have R3_16 := Lib.hid (R3_15.out.below hb16)
  have R4_16 := Lib.hid (R4_15.out.below hb16)
  have R5_16 := Lib.hid (R5_15.out.below hb16)
  have R6_16 := Lib.hid (R6_15.out.below hb16)
  have R7_16 := Lib.hid (R7_15.out.below hb16)
  have R8_16 := Lib.hid (R8_15.out.below hb16)
  have R9_16 := Lib.hid (R9_15.out.below hb16)
  have hbw16 := nx hbw15 hb16
  clear R1_15 R2_15 R3_15 R4_15 R5_15 R6_15 R7_15 R8_15 R9_15 hq
  go_wp2_with fail
  refine (is21_any (R8_16.out) (IL.empty _) rfl).mono ?_
  rintro e w17 ⟨rfl, hq⟩
  have hb17 : Below w16.heap.size w16 w17 := hq
  have R1_17 := Lib.hid (R1_16.out.below hb17)
  have R2_17 := Lib.hid (R2_16.out.below hb17)
  have R3_17 := Lib.hid (R3_16.out.below hb17)
  have R4_17 := Lib.hid (R4_16.out.below hb17)
  have R5_17 := Lib.hid (R5_16.out.below hb17)
  have R6_17 := Lib.hid (R6_16.out.below hb17)
  have R7_17 := Lib.hid (R7_16.out.below hb17)
  have R8_17 := Lib.hid (R8_16.out.below hb17)
  have R9_17 := Lib.hid (R9_16.out.below hb17)
  have hbw17 := nx hbw16 hb17
  clear R1_16 R2_16 R3_16 R4_16 R5_16 R6_16 R7_16 R8_16 R9_16 hq
  go_wp2_with fail
  have HCK := Lib.hid (checkI_any (IL.new w17 [2, 2] 3 (0, 0) (fitD (by decide +kernel)) (by simp)))
  rw [HP10.out] at HCK
  refine HCK.out.mono ?_
  rintro e w18 ⟨rfl, hq⟩
  have hb18 : Below w17.heap.size w17 w18 := nx ((bel0 w17).alloc (Nat.le_refl _) _) hq
  have R1_18 := Lib.hid (R1_17.out.below hb18)
  have R2_18 := Lib.hid (R2_17.out.below hb18)
  have R3_18 := Lib.hid (R3_17.out.below hb18)
  have R4_18 := Lib.hid (R4_17.out.below hb18)
  have R5_18 := Lib.hid (R5_17.out.below hb18)
  have R6_18 := Lib.hid (R6_17.out.below hb18)
  have R7_18 := Lib.hid (R7_17.out.below hb18)
  have R8_18 := Lib.hid (R8_17.out.below hb18)
  have R9_18 := Lib.hid (R9_17.out.below hb18)
  have hbw18 := nx hbw17 hb18
  clear R1_17 R2_17 R3_17 R4_17 R5_17 R6_17 R7_17 R8_17 R9_17 hq
  go_wp2_with fail
  go_ret
  exact ⟨rfl, hbw18⟩
end Go.Proofs.Ythikhoamodcggaa
