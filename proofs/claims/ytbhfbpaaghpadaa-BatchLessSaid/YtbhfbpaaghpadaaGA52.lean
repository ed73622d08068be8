/- The walk of the law BatchLess. No conditions. -/
import Derived.Test.YtbhfbpaaghpadaaGA45
import Derived.Test.YtbhfbpaaghpadaaGA46
import Derived.Test.YtbhfbpaaghpadaaGA01
import Derived.Test.YtbhfbpaaghpadaaGA49
import Derived.Test.YtbhfbpaaghpadaaGA50
import Derived.Test.YtbhfbpaaghpadaaGA51
import Derived.Deep.RegionHeld3
import Derived.Deep.DeepCutAuto
set_option linter.unusedSimpArgs false
set_option linter.unusedVariables false
namespace Go.Proofs.Ytbhfbpaaghpadaa
open Go.RowKit

theorem infoSpB : (Try.prog.info? 32).map (·.size) = some 9 := by kernel_rfl
theorem cell_belB {w W : World} {p : Addr} {v : Value} (hb : Below w.heap.size w W) (h : w.cell? p = some v) : W.cell? p = some v := (hb.cell (World.block_lt_of_cell? w _ h)).trans h
theorem bring_lt (y : Int) (n : Nat) (hn : 0 < n) : ∃ r : Nat, bring y n = (r : Int) ∧ r < n := by
  unfold bring
  rw [if_neg (by omega)]
  have h1 := Int.emod_nonneg y (show (n : Int) ≠ 0 by omega)
  have h2 := Int.emod_lt_of_pos y (show (0 : Int) < n by omega)
  exact ⟨(y % n).toNat, by omega, by omega⟩
set_option maxHeartbeats 32000000 in
set_option maxRecDepth 100000 in
theorem batchLess_walk (b : Bat) (A : Option Addr) (c : Nat) (x y : Int) (w : World) (h1 : I64 b.ag) (h2 : I64 b.sq) (hL : LS w A b.sp.length c b.sp) (hs : ∀ s ∈ b.sp, SpnOk s) (hn : b.sp.length * 112 ≤ 140737488351232) (hx : I64 x) (hy : I64 y) :
    Calls Try.prog 3 #[.agg #[.int .i64 b.ag, .int .i64 b.sq, .slice A b.sp.length c], .int .i64 x, .int .i64 y] w fun e w' => e = .returned (.bool true) ∧ Below w.heap.size w w' := by
  have HPT := Lib.hid (show PtB b from hL.pt)
  have HAT := Lib.hid (show ∀ s ∈ b.sp, s.ats.length ≤ 2199023255552 from fun s hs' => by have := (hs s hs').lim; omega)
  have HLN := Lib.hid (show b.sp.length ≤ 1256584717421 by omega)
  unfold I64 at hx hy
  clear h1 h2 hs hn
  obtain ⟨n, hnn⟩ : ∃ n, n = b.sp.length := ⟨_, rfl⟩
  have HN := Lib.hid hnn
  have HL := Lib.hid (show LS w A n c b.sp by rw [hnn]; exact hL)
  rw [← hnn]
  clear hnn hL
  go_enter Try.func3, Try.ntmps3
  go_wp2_with fail
  have hb1 := bel1 w (.cells #[.int .i64 b.ag, .int .i64 b.sq, .slice A n c] 24)
  have hq1 := heap_alloc_new w (.cells #[.int .i64 b.ag, .int .i64 b.sq, .slice A n c] 24)
  have HLb := Lib.hid (HL.out.below hb1)
  obtain ⟨W0, hW⟩ : ∃ W, W = w.alloc (.cells #[.int .i64 b.ag, .int .i64 b.sq, .slice A n c] 24) := ⟨_, rfl⟩
  obtain ⟨q3, hqq⟩ : ∃ q, q = w.heap.size := ⟨_, rfl⟩
  rw [← hW] at HLb hb1 hq1 ⊢
  rw [← hqq] at hq1 ⊢
  have hq3 : w.heap.size ≤ q3 := by omega
  clear hW hqq
  refine (works_any _).mono ?_
  rintro e w1 ⟨rfl, hb2⟩
  have hbw1 := nx hb1 hb2
  have X1 := Lib.hid (blk_bel hq1 hb2)
  clear hb1 hb2 hq1 HLb
  obtain ⟨d0, d1, d2⟩ := bat_block X1.out
  have dq := (Array.getElem?_eq_some_iff.1 X1.out).1
  go_wp2_with fail
  refine (batCheck_any (b := b) (HL.out.below hbw1)).mono ?_
  rintro e w2 ⟨rfl, hb3⟩
  have hbw2 := nx hbw1 hb3
  have X2 := Lib.hid (blk_bel X1.out hb3)
  clear hb3 X1 hbw1 d0 d1 d2 dq
  obtain ⟨d0, d1, d2⟩ := bat_block X2.out
  have dq := (Array.getElem?_eq_some_iff.1 X2.out).1
  by_cases hok : OkB b
  case neg =>
    rw [btP_no hok]
    have HNO := Lib.hid hok
    clear hok
    go_wp2_with fail
    refine (batCheck_any (b := b) (HL.out.below hbw2)).mono ?_
    rintro e w3 ⟨rfl, hb3⟩
    rw [btP_no HNO.out]
    have hbw3 := nx hbw2 hb3
    go_wp2_with fail
    go_ret
    exact ⟨rfl, hbw3⟩
  rw [btP_yes hok]
  have HOK := Lib.hid hok
  have hn1 : 1 ≤ n := by have := hok.1.n.1; rw [← HN.out] at this; exact this
  have hn16 : n ≤ 16 := by have := hok.1.n.2; rw [← HN.out] at this; exact this
  clear hok
  have hn0 : ((n : Int) == 0) = false := by simp; omega
  obtain ⟨r, hr, hrn⟩ := bring_lt y n (by omega)
  obtain ⟨k, hk, hkn⟩ := bring_lt x n (by omega)
  obtain ⟨gb, ob, eA⟩ : ∃ g o, A = some ⟨g, o, none⟩ := by
    obtain ⟨g, o, _, _, _, e, _⟩ := HL.out.cellsAt (bel0 w) (k := 0) (by rw [← HN.out]; omega)
    exact ⟨g, o, e⟩
  subst eA
  obtain ⟨T, hT⟩ : ∃ T, T = turnL b.sp r := ⟨_, rfl⟩
  have HT := Lib.hid hT
  have hTl : T.length = n := by rw [hT, turnL_len, ← HN.out]
  have HTL := Lib.hid hTl
  clear hT hTl
  clear d0 d1 d2 dq
  obtain ⟨d0, d1, d2⟩ := bat_block X2.out
  have dq := (Array.getElem?_eq_some_iff.1 X2.out).1
  go_upto_region 5 with (fail)
  have X3 := Lib.hid (blk_bel X2.out (bel0 w2).drew)
  have B3 := Lib.hid (nx hbw2 (bel0 w2).drew)
  clear d0 d1 d2 dq hbw2
  go_cut [7, 8] (fun s7 s8 wx => ∃ q7 q8 g7 c7 g8 c8, s7 = .pointer (some ⟨q7, 0, none⟩) ∧ s8 = .pointer (some ⟨q8, 0, none⟩) ∧ Hid (LsW b w wx q3 q7 q8 (some ⟨gb, ob, none⟩) n c g7 c7 (.slice (some ⟨g8, 0, none⟩) n c8) b.sp T 0) ∧ g7 ≠ g8 ∧ n ≤ c7 ∧ n ≤ c8 ∧ w.heap.size ≤ g7 ∧ w.heap.size ≤ g8 ∧ q3 ≠ q7 ∧ q3 ≠ q8 ∧ q7 ≠ q8 ∧ w.heap.size ≤ q8)
  case first =>
    refine wp_region_held_drew (S := (fun w' => w'.cell? ⟨q3, 0, none⟩ = some (.int .i64 b.ag) ∧ w'.cell? ⟨q3, 1, none⟩ = some (.int .i64 b.sq) ∧ w'.cell? ⟨q3, 2, none⟩ = some (.slice (some ⟨gb, ob, none⟩) n c))) (by kernel_rfl) (bat_block X3.out) (fun hHeld => ?_)
    clear X2
    obtain ⟨WW, hW⟩ : ∃ W, W = w2.drew := ⟨_, rfl⟩
    rw [← hW] at X3 B3 hHeld ⊢
    clear hW
    refine' take_val (i := 0) (d := 26) (v := _) rfl rfl (by kernel_rfl) (by kernel_rfl) (by kernel_rfl) (fun _ _ _ h => h) (by rfl) ?_ (by assumption) ?_
    rotate_left
    · (intro w hSw; (try dsimp only at hSw); go_simp; (try with_reducible rfl))
    (try simp only [Act.put, List.setIfInBounds_toArray, List.set_cons_zero, List.set_cons_succ])
    refine' take_val (i := 2) (d := 28) (v := _) rfl rfl (by kernel_rfl) (by kernel_rfl) (by kernel_rfl) (fun _ _ _ h => h) (by rfl) ?_ (by assumption) ?_
    rotate_left
    · (intro w hSw; (try dsimp only at hSw); go_simp; (try with_reducible rfl))
    (try simp only [Act.put, List.setIfInBounds_toArray, List.set_cons_zero, List.set_cons_succ])
    have HQ3 := Lib.hid ((Array.getElem?_eq_some_iff.1 X3.out).1)
    have hHeld := bat_block X3.out
    refine wpAnyH_ready (rs := [1, 4, 5]) (by kernel_rfl) (by simp) ?_
    refine (AllReadyH.cons rfl (fun K hK => ?_) (AllReadyH.cons rfl (fun K hK => ?_) (AllReadyH.cons rfl (fun K hK => ?_) AllReadyH.nil)))
    · skip
      go_simp
      go_at_call 8
      refine (refCopy_any (b := b) (w := WW) (HL.out.below B3.out)).mono ?_
      rintro e W1 ⟨v, rfl, ho, hb⟩
      obtain ⟨g7, c7, ev, hleg7, hcmg7, hbag7, hltg7, htn⟩ := ho.turn (w0 := w) (by rw [← HN.out]; omega) T
      subst ev
      rw [← HN.out] at hleg7 ho ⊢
      have hz1 := hb.size
      have hwz1 := B3.out.size
      have FX2 := Lib.hid (blk_bel X3.out hb)
      have FB2 := Lib.hid (nx B3.out hb)
      clear X3 B3
      have FN1 := Lib.hid htn
      clear ho htn hb
      go_wp2_with fail
      refine hK.out _ _ (bat_block FX2.out) (fun hHeld => ?_)
      clear hK K
      (try simp only [Act.put, List.getElem_toArray, List.getElem_cons_succ, List.getElem_cons_zero, List.setIfInBounds_toArray, List.set_cons_zero, List.set_cons_succ])
      refine wpAnyH_ready (rs := [3, 4, 5]) (by kernel_rfl) (by simp) ?_
      refine (AllReadyH.cons rfl (fun K hK => ?_) (AllReadyH.cons rfl (fun K hK => ?_) (AllReadyH.cons rfl (fun K hK => ?_) AllReadyH.nil)))
      · skip
        go_simp
        go_at_call 8
        refine (refCopy_any (b := b) (w := W1) (HL.out.below FB2.out)).mono ?_
        rintro e W3 ⟨v, rfl, ho, hb⟩
        obtain ⟨g8, c8, ev, hleg8, hcmg8, hbag8, hltg8, htn⟩ := ho.turn (w0 := w) (by rw [← HN.out]; omega) T
        subst ev
        rw [← HN.out] at hleg8 ho ⊢
        have hz3 := hb.size
        have hwz3 := FB2.out.size
        have FX4 := Lib.hid (blk_bel FX2.out hb)
        have FB4 := Lib.hid (nx FB2.out hb)
        have FN14 := Lib.hid (FN1.out.below hb)
        clear FX2 FB2 FN1
        have FO3 := Lib.hid (ho.base hwz3 (by omega))
        clear ho htn hb
        go_wp2_with fail
        refine hK.out _ _ (bat_block FX4.out) (fun hHeld => ?_)
        clear hK K
        (try simp only [Act.put, List.getElem_toArray, List.getElem_cons_succ, List.getElem_cons_zero, List.setIfInBounds_toArray, List.set_cons_zero, List.set_cons_succ])
        refine wpAnyH_ready (rs := [4, 5]) (by kernel_rfl) (by simp) ?_
        refine (AllReadyH.cons rfl (fun K hK => ?_) (AllReadyH.cons rfl (fun K hK => ?_) AllReadyH.nil))
        · skip
          go_simp
          go_wp2_with fail
          have hg := heap_alloc_new W3 (.cells #[.int .i64 0, .int .i64 0, .slice none 0 0] 24)
          have FX6 := Lib.hid (blk_bel FX4.out (bel1 W3 (.cells #[.int .i64 0, .int .i64 0, .slice none 0 0] 24)))
          have FB6 := Lib.hid (nx FB4.out (bel1 W3 (.cells #[.int .i64 0, .int .i64 0, .slice none 0 0] 24)))
          have FN16 := Lib.hid (FN14.out.below (bel1 W3 (.cells #[.int .i64 0, .int .i64 0, .slice none 0 0] 24)))
          have FO36 := Lib.hid (FO3.out.below (bel1 W3 (.cells #[.int .i64 0, .int .i64 0, .slice none 0 0] 24)))
          clear FX4 FB4 FN14 FO3
          refine hK.out _ _ (bat_block FX6.out) (fun hHeld => ?_)
          clear hK K
          (try simp only [Act.put, List.getElem_toArray, List.getElem_cons_succ, List.getElem_cons_zero, List.setIfInBounds_toArray, List.set_cons_zero, List.set_cons_succ])
          obtain ⟨W5, hW⟩ : ∃ Z, Z = W3.alloc (.cells #[.int .i64 0, .int .i64 0, .slice none 0 0] 24) := ⟨_, rfl⟩
          change wpAnyH _ _ _ _ _ _ _ _ (W3.alloc (.cells #[.int .i64 0, .int .i64 0, .slice none 0 0] 24))
          have hz5 := Lib.hid (show W5.heap.size = W3.heap.size + 1 by rw [hW]; simp)
          rw [← hW] at FX6 FB6 FN16 FO36 hg hHeld ⊢
          obtain ⟨q7, hq5⟩ : ∃ q, q = W3.heap.size := ⟨_, rfl⟩
          rw [← hq5] at hg ⊢
          have hqh5 := Lib.hid hq5
          have FY75 := Lib.hid hg
          clear hg hW hq5
          refine wpAnyH_ready (rs := [5]) (by kernel_rfl) (by simp) ?_
          refine (AllReadyH.cons rfl (fun K hK => ?_) AllReadyH.nil)
          go_simp
          go_wp2_with fail
          have hg := heap_alloc_new W5 (.cells #[.int .i64 0, .int .i64 0, .slice none 0 0] 24)
          have FX8 := Lib.hid (blk_bel FX6.out (bel1 W5 (.cells #[.int .i64 0, .int .i64 0, .slice none 0 0] 24)))
          have FB8 := Lib.hid (nx FB6.out (bel1 W5 (.cells #[.int .i64 0, .int .i64 0, .slice none 0 0] 24)))
          have FN18 := Lib.hid (FN16.out.below (bel1 W5 (.cells #[.int .i64 0, .int .i64 0, .slice none 0 0] 24)))
          have FO38 := Lib.hid (FO36.out.below (bel1 W5 (.cells #[.int .i64 0, .int .i64 0, .slice none 0 0] 24)))
          have FY78 := Lib.hid (blk_bel FY75.out (bel1 W5 (.cells #[.int .i64 0, .int .i64 0, .slice none 0 0] 24)))
          clear FX6 FB6 FN16 FO36 FY75
          refine hK.out _ _ (bat_block FX8.out) (fun hHeld => ?_)
          clear hK K
          (try simp only [Act.put, List.getElem_toArray, List.getElem_cons_succ, List.getElem_cons_zero, List.setIfInBounds_toArray, List.set_cons_zero, List.set_cons_succ])
          obtain ⟨W7, hW⟩ : ∃ Z, Z = W5.alloc (.cells #[.int .i64 0, .int .i64 0, .slice none 0 0] 24) := ⟨_, rfl⟩
          change wpAnyH _ _ _ _ _ _ _ _ (W5.alloc (.cells #[.int .i64 0, .int .i64 0, .slice none 0 0] 24))
          have hz7 := Lib.hid (show W7.heap.size = W5.heap.size + 1 by rw [hW]; simp)
          rw [← hW] at FX8 FB8 FN18 FO38 FY78 hg hHeld ⊢
          obtain ⟨q8, hq7⟩ : ∃ q, q = W5.heap.size := ⟨_, rfl⟩
          rw [← hq7] at hg ⊢
          have hqh7 := Lib.hid hq7
          have FY87 := Lib.hid hg
          clear hg hW hq7
          refine wpAnyH_ready (rs := [6]) (by kernel_rfl) (by simp) ?_
          refine AllReadyH.cons rfl (fun K hK => ?_) AllReadyH.nil
          have e_HQ3 := HQ3.out
          have e_hz5 := hz5.out
          have e_hqh5 := hqh5.out
          have e_hz7 := hz7.out
          have e_hqh7 := hqh7.out
          have l38 : q3 ≠ q8 := by omega
          have l37 : q3 ≠ q7 := by omega
          have l78 : q7 ≠ q8 := by omega
          have l7 : w.heap.size ≤ q7 := by omega
          have l8 : w.heap.size ≤ q8 := by omega
          have lg : g7 ≠ g8 := by omega
          have lg7 : w.heap.size ≤ g7 := by omega
          have lg8 : w.heap.size ≤ g8 := by omega
          clear e_HQ3 e_hz5 e_hqh5 e_hz7 e_hqh7
          have HF := Lib.hid (LsW.start FB8.out FX8.out FY78.out FY87.out FN18.out FO38.out l37 l38 l78 l7 l8)
          have y0 := cell_of FY78.out 0
          have y1 := cell_of FY78.out 1
          have y2 := cell_of FY78.out 2
          have u0 := frozen_of FY78.out 0
          have u1 := frozen_of FY78.out 1
          have u2 := frozen_of FY78.out 2
          have z0 := cell_of FY87.out 0
          have z1 := cell_of FY87.out 1
          have z2 := cell_of FY87.out 2
          have v0 := frozen_of FY87.out 0
          have v1 := frozen_of FY87.out 1
          have v2 := frozen_of FY87.out 2
          simp at y0 y1 y2 z0 z1 z2
          go_simp
          go_wp2_with fail
          refine hK.out _ _ (bat_block (((Below.heap_setCell _ ⟨q7, 2, none⟩ _ q3 l37).trans ((Below.heap_setCell _ ⟨q7, 1, none⟩ _ q3 l37).trans ((Below.heap_setCell _ ⟨q7, 0, none⟩ _ q3 l37).trans FX8.out))))) (fun hHeld => ?_)
          clear hK K
          (try simp only [Act.put, List.getElem_toArray, List.getElem_cons_succ, List.getElem_cons_zero, List.setIfInBounds_toArray, List.set_cons_zero, List.set_cons_succ])
          refine wpAnyH_ready (rs := [7]) (by kernel_rfl) (by simp) ?_
          refine AllReadyH.cons rfl (fun K hK => ?_) AllReadyH.nil
          go_simp
          go_wp2_with fail
          refine hK.out _ _ (bat_block HF.out.b3) (fun hHeld => ?_)
          clear hK K
          (try simp only [Act.put, List.getElem_toArray, List.getElem_cons_succ, List.getElem_cons_zero, List.setIfInBounds_toArray, List.set_cons_zero, List.set_cons_succ])
          refine wpAnyH_done (by kernel_rfl) ?_ _
          go_wp2_with fail
          go_meet
          exact ⟨q7, q8, g7, c7, g8, c8, rfl, rfl, HF, lg, hleg7, hleg8, lg7, lg8, l37, l38, l78, l8⟩
        · skip
          go_simp
          go_wp2_with fail
          have hg := heap_alloc_new W3 (.cells #[.int .i64 0, .int .i64 0, .slice none 0 0] 24)
          have FX10 := Lib.hid (blk_bel FX4.out (bel1 W3 (.cells #[.int .i64 0, .int .i64 0, .slice none 0 0] 24)))
          have FB10 := Lib.hid (nx FB4.out (bel1 W3 (.cells #[.int .i64 0, .int .i64 0, .slice none 0 0] 24)))
          have FN110 := Lib.hid (FN14.out.below (bel1 W3 (.cells #[.int .i64 0, .int .i64 0, .slice none 0 0] 24)))
          have FO310 := Lib.hid (FO3.out.below (bel1 W3 (.cells #[.int .i64 0, .int .i64 0, .slice none 0 0] 24)))
          clear FX4 FB4 FN14 FO3
          refine hK.out _ _ (bat_block FX10.out) (fun hHeld => ?_)
          clear hK K
          (try simp only [Act.put, List.getElem_toArray, List.getElem_cons_succ, List.getElem_cons_zero, List.setIfInBounds_toArray, List.set_cons_zero, List.set_cons_succ])
          obtain ⟨W9, hW⟩ : ∃ Z, Z = W3.alloc (.cells #[.int .i64 0, .int .i64 0, .slice none 0 0] 24) := ⟨_, rfl⟩
          change wpAnyH _ _ _ _ _ _ _ _ (W3.alloc (.cells #[.int .i64 0, .int .i64 0, .slice none 0 0] 24))
          have hz9 := Lib.hid (show W9.heap.size = W3.heap.size + 1 by rw [hW]; simp)
          rw [← hW] at FX10 FB10 FN110 FO310 hg hHeld ⊢
          obtain ⟨q8, hq9⟩ : ∃ q, q = W3.heap.size := ⟨_, rfl⟩
          rw [← hq9] at hg ⊢
          have hqh9 := Lib.hid hq9
          have FY89 := Lib.hid hg
          clear hg hW hq9
          refine wpAnyH_ready (rs := [4]) (by kernel_rfl) (by simp) ?_
          refine (AllReadyH.cons rfl (fun K hK => ?_) AllReadyH.nil)
          go_simp
          go_wp2_with fail
          have hg := heap_alloc_new W9 (.cells #[.int .i64 0, .int .i64 0, .slice none 0 0] 24)
          have FX12 := Lib.hid (blk_bel FX10.out (bel1 W9 (.cells #[.int .i64 0, .int .i64 0, .slice none 0 0] 24)))
          have FB12 := Lib.hid (nx FB10.out (bel1 W9 (.cells #[.int .i64 0, .int .i64 0, .slice none 0 0] 24)))
          have FN112 := Lib.hid (FN110.out.below (bel1 W9 (.cells #[.int .i64 0, .int .i64 0, .slice none 0 0] 24)))
          have FO312 := Lib.hid (FO310.out.below (bel1 W9 (.cells #[.int .i64 0, .int .i64 0, .slice none 0 0] 24)))
          have FY812 := Lib.hid (blk_bel FY89.out (bel1 W9 (.cells #[.int .i64 0, .int .i64 0, .slice none 0 0] 24)))
          clear FX10 FB10 FN110 FO310 FY89
          refine hK.out _ _ (bat_block FX12.out) (fun hHeld => ?_)
          clear hK K
          (try simp only [Act.put, List.getElem_toArray, List.getElem_cons_succ, List.getElem_cons_zero, List.setIfInBounds_toArray, List.set_cons_zero, List.set_cons_succ])
          obtain ⟨W11, hW⟩ : ∃ Z, Z = W9.alloc (.cells #[.int .i64 0, .int .i64 0, .slice none 0 0] 24) := ⟨_, rfl⟩
          change wpAnyH _ _ _ _ _ _ _ _ (W9.alloc (.cells #[.int .i64 0, .int .i64 0, .slice none 0 0] 24))
          have hz11 := Lib.hid (show W11.heap.size = W9.heap.size + 1 by rw [hW]; simp)
          rw [← hW] at FX12 FB12 FN112 FO312 FY812 hg hHeld ⊢
          obtain ⟨q7, hq11⟩ : ∃ q, q = W9.heap.size := ⟨_, rfl⟩
          rw [← hq11] at hg ⊢
          have hqh11 := Lib.hid hq11
          have FY711 := Lib.hid hg
          clear hg hW hq11
          refine wpAnyH_ready (rs := [6]) (by kernel_rfl) (by simp) ?_
          refine AllReadyH.cons rfl (fun K hK => ?_) AllReadyH.nil
          have e_HQ3 := HQ3.out
          have e_hz9 := hz9.out
          have e_hqh9 := hqh9.out
          have e_hz11 := hz11.out
          have e_hqh11 := hqh11.out
          have l38 : q3 ≠ q8 := by omega
          have l37 : q3 ≠ q7 := by omega
          have l78 : q7 ≠ q8 := by omega
          have l7 : w.heap.size ≤ q7 := by omega
          have l8 : w.heap.size ≤ q8 := by omega
          have lg : g7 ≠ g8 := by omega
          have lg7 : w.heap.size ≤ g7 := by omega
          have lg8 : w.heap.size ≤ g8 := by omega
          clear e_HQ3 e_hz9 e_hqh9 e_hz11 e_hqh11
          have HF := Lib.hid (LsW.start FB12.out FX12.out FY711.out FY812.out FN112.out FO312.out l37 l38 l78 l7 l8)
          have y0 := cell_of FY711.out 0
          have y1 := cell_of FY711.out 1
          have y2 := cell_of FY711.out 2
          have u0 := frozen_of FY711.out 0
          have u1 := frozen_of FY711.out 1
          have u2 := frozen_of FY711.out 2
          have z0 := cell_of FY812.out 0
          have z1 := cell_of FY812.out 1
          have z2 := cell_of FY812.out 2
          have v0 := frozen_of FY812.out 0
          have v1 := frozen_of FY812.out 1
          have v2 := frozen_of FY812.out 2
          simp at y0 y1 y2 z0 z1 z2
          go_simp
          go_wp2_with fail
          refine hK.out _ _ (bat_block (((Below.heap_setCell _ ⟨q7, 2, none⟩ _ q3 l37).trans ((Below.heap_setCell _ ⟨q7, 1, none⟩ _ q3 l37).trans ((Below.heap_setCell _ ⟨q7, 0, none⟩ _ q3 l37).trans FX12.out))))) (fun hHeld => ?_)
          clear hK K
          (try simp only [Act.put, List.getElem_toArray, List.getElem_cons_succ, List.getElem_cons_zero, List.setIfInBounds_toArray, List.set_cons_zero, List.set_cons_succ])
          refine wpAnyH_ready (rs := [7]) (by kernel_rfl) (by simp) ?_
          refine AllReadyH.cons rfl (fun K hK => ?_) AllReadyH.nil
          go_simp
          go_wp2_with fail
          refine hK.out _ _ (bat_block HF.out.b3) (fun hHeld => ?_)
          clear hK K
          (try simp only [Act.put, List.getElem_toArray, List.getElem_cons_succ, List.getElem_cons_zero, List.setIfInBounds_toArray, List.set_cons_zero, List.set_cons_succ])
          refine wpAnyH_done (by kernel_rfl) ?_ _
          go_wp2_with fail
          go_meet
          exact ⟨q7, q8, g7, c7, g8, c8, rfl, rfl, HF, lg, hleg7, hleg8, lg7, lg8, l37, l38, l78, l8⟩
      · skip
        go_simp
        go_wp2_with fail
        have hg := heap_alloc_new W1 (.cells #[.int .i64 0, .int .i64 0, .slice none 0 0] 24)
        have FX14 := Lib.hid (blk_bel FX2.out (bel1 W1 (.cells #[.int .i64 0, .int .i64 0, .slice none 0 0] 24)))
        have FB14 := Lib.hid (nx FB2.out (bel1 W1 (.cells #[.int .i64 0, .int .i64 0, .slice none 0 0] 24)))
        have FN114 := Lib.hid (FN1.out.below (bel1 W1 (.cells #[.int .i64 0, .int .i64 0, .slice none 0 0] 24)))
        clear FX2 FB2 FN1
        refine hK.out _ _ (bat_block FX14.out) (fun hHeld => ?_)
        clear hK K
        (try simp only [Act.put, List.getElem_toArray, List.getElem_cons_succ, List.getElem_cons_zero, List.setIfInBounds_toArray, List.set_cons_zero, List.set_cons_succ])
        obtain ⟨W13, hW⟩ : ∃ Z, Z = W1.alloc (.cells #[.int .i64 0, .int .i64 0, .slice none 0 0] 24) := ⟨_, rfl⟩
        change wpAnyH _ _ _ _ _ _ _ _ (W1.alloc (.cells #[.int .i64 0, .int .i64 0, .slice none 0 0] 24))
        have hz13 := Lib.hid (show W13.heap.size = W1.heap.size + 1 by rw [hW]; simp)
        rw [← hW] at FX14 FB14 FN114 hg hHeld ⊢
        obtain ⟨q7, hq13⟩ : ∃ q, q = W1.heap.size := ⟨_, rfl⟩
        rw [← hq13] at hg ⊢
        have hqh13 := Lib.hid hq13
        have FY713 := Lib.hid hg
        clear hg hW hq13
        refine wpAnyH_ready (rs := [3, 5]) (by kernel_rfl) (by simp) ?_
        refine (AllReadyH.cons rfl (fun K hK => ?_) (AllReadyH.cons rfl (fun K hK => ?_) AllReadyH.nil))
        · skip
          go_simp
          go_at_call 8
          refine (refCopy_any (b := b) (w := W13) (HL.out.below FB14.out)).mono ?_
          rintro e W15 ⟨v, rfl, ho, hb⟩
          obtain ⟨g8, c8, ev, hleg8, hcmg8, hbag8, hltg8, htn⟩ := ho.turn (w0 := w) (by rw [← HN.out]; omega) T
          subst ev
          rw [← HN.out] at hleg8 ho ⊢
          have hz15 := hb.size
          have hwz15 := FB14.out.size
          have FX16 := Lib.hid (blk_bel FX14.out hb)
          have FB16 := Lib.hid (nx FB14.out hb)
          have FN116 := Lib.hid (FN114.out.below hb)
          have FY716 := Lib.hid (blk_bel FY713.out hb)
          clear FX14 FB14 FN114 FY713
          have FO15 := Lib.hid (ho.base hwz15 (by omega))
          clear ho htn hb
          go_wp2_with fail
          refine hK.out _ _ (bat_block FX16.out) (fun hHeld => ?_)
          clear hK K
          (try simp only [Act.put, List.getElem_toArray, List.getElem_cons_succ, List.getElem_cons_zero, List.setIfInBounds_toArray, List.set_cons_zero, List.set_cons_succ])
          refine wpAnyH_ready (rs := [5]) (by kernel_rfl) (by simp) ?_
          refine (AllReadyH.cons rfl (fun K hK => ?_) AllReadyH.nil)
          go_simp
          go_wp2_with fail
          have hg := heap_alloc_new W15 (.cells #[.int .i64 0, .int .i64 0, .slice none 0 0] 24)
          have FX18 := Lib.hid (blk_bel FX16.out (bel1 W15 (.cells #[.int .i64 0, .int .i64 0, .slice none 0 0] 24)))
          have FB18 := Lib.hid (nx FB16.out (bel1 W15 (.cells #[.int .i64 0, .int .i64 0, .slice none 0 0] 24)))
          have FN118 := Lib.hid (FN116.out.below (bel1 W15 (.cells #[.int .i64 0, .int .i64 0, .slice none 0 0] 24)))
          have FY718 := Lib.hid (blk_bel FY716.out (bel1 W15 (.cells #[.int .i64 0, .int .i64 0, .slice none 0 0] 24)))
          have FO318 := Lib.hid (FO15.out.below (bel1 W15 (.cells #[.int .i64 0, .int .i64 0, .slice none 0 0] 24)))
          clear FX16 FB16 FN116 FY716 FO15
          refine hK.out _ _ (bat_block FX18.out) (fun hHeld => ?_)
          clear hK K
          (try simp only [Act.put, List.getElem_toArray, List.getElem_cons_succ, List.getElem_cons_zero, List.setIfInBounds_toArray, List.set_cons_zero, List.set_cons_succ])
          obtain ⟨W17, hW⟩ : ∃ Z, Z = W15.alloc (.cells #[.int .i64 0, .int .i64 0, .slice none 0 0] 24) := ⟨_, rfl⟩
          change wpAnyH _ _ _ _ _ _ _ _ (W15.alloc (.cells #[.int .i64 0, .int .i64 0, .slice none 0 0] 24))
          have hz17 := Lib.hid (show W17.heap.size = W15.heap.size + 1 by rw [hW]; simp)
          rw [← hW] at FX18 FB18 FN118 FY718 FO318 hg hHeld ⊢
          obtain ⟨q8, hq17⟩ : ∃ q, q = W15.heap.size := ⟨_, rfl⟩
          rw [← hq17] at hg ⊢
          have hqh17 := Lib.hid hq17
          have FY817 := Lib.hid hg
          clear hg hW hq17
          refine wpAnyH_ready (rs := [6]) (by kernel_rfl) (by simp) ?_
          refine AllReadyH.cons rfl (fun K hK => ?_) AllReadyH.nil
          have e_HQ3 := HQ3.out
          have e_hz13 := hz13.out
          have e_hqh13 := hqh13.out
          have e_hz17 := hz17.out
          have e_hqh17 := hqh17.out
          have l38 : q3 ≠ q8 := by omega
          have l37 : q3 ≠ q7 := by omega
          have l78 : q7 ≠ q8 := by omega
          have l7 : w.heap.size ≤ q7 := by omega
          have l8 : w.heap.size ≤ q8 := by omega
          have lg : g7 ≠ g8 := by omega
          have lg7 : w.heap.size ≤ g7 := by omega
          have lg8 : w.heap.size ≤ g8 := by omega
          clear e_HQ3 e_hz13 e_hqh13 e_hz17 e_hqh17
          have HF := Lib.hid (LsW.start FB18.out FX18.out FY718.out FY817.out FN118.out FO318.out l37 l38 l78 l7 l8)
          have y0 := cell_of FY718.out 0
          have y1 := cell_of FY718.out 1
          have y2 := cell_of FY718.out 2
          have u0 := frozen_of FY718.out 0
          have u1 := frozen_of FY718.out 1
          have u2 := frozen_of FY718.out 2
          have z0 := cell_of FY817.out 0
          have z1 := cell_of FY817.out 1
          have z2 := cell_of FY817.out 2
          have v0 := frozen_of FY817.out 0
          have v1 := frozen_of FY817.out 1
          have v2 := frozen_of FY817.out 2
          simp at y0 y1 y2 z0 z1 z2
          go_simp
          go_wp2_with fail
          refine hK.out _ _ (bat_block (((Below.heap_setCell _ ⟨q7, 2, none⟩ _ q3 l37).trans ((Below.heap_setCell _ ⟨q7, 1, none⟩ _ q3 l37).trans ((Below.heap_setCell _ ⟨q7, 0, none⟩ _ q3 l37).trans FX18.out))))) (fun hHeld => ?_)
          clear hK K
          (try simp only [Act.put, List.getElem_toArray, List.getElem_cons_succ, List.getElem_cons_zero, List.setIfInBounds_toArray, List.set_cons_zero, List.set_cons_succ])
          refine wpAnyH_ready (rs := [7]) (by kernel_rfl) (by simp) ?_
          refine AllReadyH.cons rfl (fun K hK => ?_) AllReadyH.nil
          go_simp
          go_wp2_with fail
          refine hK.out _ _ (bat_block HF.out.b3) (fun hHeld => ?_)
          clear hK K
          (try simp only [Act.put, List.getElem_toArray, List.getElem_cons_succ, List.getElem_cons_zero, List.setIfInBounds_toArray, List.set_cons_zero, List.set_cons_succ])
          refine wpAnyH_done (by kernel_rfl) ?_ _
          go_wp2_with fail
          go_meet
          exact ⟨q7, q8, g7, c7, g8, c8, rfl, rfl, HF, lg, hleg7, hleg8, lg7, lg8, l37, l38, l78, l8⟩
        · skip
          go_simp
          go_wp2_with fail
          have hg := heap_alloc_new W13 (.cells #[.int .i64 0, .int .i64 0, .slice none 0 0] 24)
          have FX20 := Lib.hid (blk_bel FX14.out (bel1 W13 (.cells #[.int .i64 0, .int .i64 0, .slice none 0 0] 24)))
          have FB20 := Lib.hid (nx FB14.out (bel1 W13 (.cells #[.int .i64 0, .int .i64 0, .slice none 0 0] 24)))
          have FN120 := Lib.hid (FN114.out.below (bel1 W13 (.cells #[.int .i64 0, .int .i64 0, .slice none 0 0] 24)))
          have FY720 := Lib.hid (blk_bel FY713.out (bel1 W13 (.cells #[.int .i64 0, .int .i64 0, .slice none 0 0] 24)))
          clear FX14 FB14 FN114 FY713
          refine hK.out _ _ (bat_block FX20.out) (fun hHeld => ?_)
          clear hK K
          (try simp only [Act.put, List.getElem_toArray, List.getElem_cons_succ, List.getElem_cons_zero, List.setIfInBounds_toArray, List.set_cons_zero, List.set_cons_succ])
          obtain ⟨W19, hW⟩ : ∃ Z, Z = W13.alloc (.cells #[.int .i64 0, .int .i64 0, .slice none 0 0] 24) := ⟨_, rfl⟩
          change wpAnyH _ _ _ _ _ _ _ _ (W13.alloc (.cells #[.int .i64 0, .int .i64 0, .slice none 0 0] 24))
          have hz19 := Lib.hid (show W19.heap.size = W13.heap.size + 1 by rw [hW]; simp)
          rw [← hW] at FX20 FB20 FN120 FY720 hg hHeld ⊢
          obtain ⟨q8, hq19⟩ : ∃ q, q = W13.heap.size := ⟨_, rfl⟩
          rw [← hq19] at hg ⊢
          have hqh19 := Lib.hid hq19
          have FY819 := Lib.hid hg
          clear hg hW hq19
          refine wpAnyH_ready (rs := [3]) (by kernel_rfl) (by simp) ?_
          refine (AllReadyH.cons rfl (fun K hK => ?_) AllReadyH.nil)
          go_simp
          go_at_call 8
          refine (refCopy_any (b := b) (w := W19) (HL.out.below FB20.out)).mono ?_
          rintro e W21 ⟨v, rfl, ho, hb⟩
          obtain ⟨g8, c8, ev, hleg8, hcmg8, hbag8, hltg8, htn⟩ := ho.turn (w0 := w) (by rw [← HN.out]; omega) T
          subst ev
          rw [← HN.out] at hleg8 ho ⊢
          have hz21 := hb.size
          have hwz21 := FB20.out.size
          have FX22 := Lib.hid (blk_bel FX20.out hb)
          have FB22 := Lib.hid (nx FB20.out hb)
          have FN122 := Lib.hid (FN120.out.below hb)
          have FY722 := Lib.hid (blk_bel FY720.out hb)
          have FY822 := Lib.hid (blk_bel FY819.out hb)
          clear FX20 FB20 FN120 FY720 FY819
          have FO21 := Lib.hid (ho.base hwz21 (by omega))
          clear ho htn hb
          go_wp2_with fail
          refine hK.out _ _ (bat_block FX22.out) (fun hHeld => ?_)
          clear hK K
          (try simp only [Act.put, List.getElem_toArray, List.getElem_cons_succ, List.getElem_cons_zero, List.setIfInBounds_toArray, List.set_cons_zero, List.set_cons_succ])
          refine wpAnyH_ready (rs := [6]) (by kernel_rfl) (by simp) ?_
          refine AllReadyH.cons rfl (fun K hK => ?_) AllReadyH.nil
          have e_HQ3 := HQ3.out
          have e_hz13 := hz13.out
          have e_hqh13 := hqh13.out
          have e_hz19 := hz19.out
          have e_hqh19 := hqh19.out
          have l38 : q3 ≠ q8 := by omega
          have l37 : q3 ≠ q7 := by omega
          have l78 : q7 ≠ q8 := by omega
          have l7 : w.heap.size ≤ q7 := by omega
          have l8 : w.heap.size ≤ q8 := by omega
          have lg : g7 ≠ g8 := by omega
          have lg7 : w.heap.size ≤ g7 := by omega
          have lg8 : w.heap.size ≤ g8 := by omega
          clear e_HQ3 e_hz13 e_hqh13 e_hz19 e_hqh19
          have HF := Lib.hid (LsW.start FB22.out FX22.out FY722.out FY822.out FN122.out FO21.out l37 l38 l78 l7 l8)
          have y0 := cell_of FY722.out 0
          have y1 := cell_of FY722.out 1
          have y2 := cell_of FY722.out 2
          have u0 := frozen_of FY722.out 0
          have u1 := frozen_of FY722.out 1
          have u2 := frozen_of FY722.out 2
          have z0 := cell_of FY822.out 0
          have z1 := cell_of FY822.out 1
          have z2 := cell_of FY822.out 2
          have v0 := frozen_of FY822.out 0
          have v1 := frozen_of FY822.out 1
          have v2 := frozen_of FY822.out 2
          simp at y0 y1 y2 z0 z1 z2
          go_simp
          go_wp2_with fail
          refine hK.out _ _ (bat_block (((Below.heap_setCell _ ⟨q7, 2, none⟩ _ q3 l37).trans ((Below.heap_setCell _ ⟨q7, 1, none⟩ _ q3 l37).trans ((Below.heap_setCell _ ⟨q7, 0, none⟩ _ q3 l37).trans FX22.out))))) (fun hHeld => ?_)
          clear hK K
          (try simp only [Act.put, List.getElem_toArray, List.getElem_cons_succ, List.getElem_cons_zero, List.setIfInBounds_toArray, List.set_cons_zero, List.set_cons_succ])
          refine wpAnyH_ready (rs := [7]) (by kernel_rfl) (by simp) ?_
          refine AllReadyH.cons rfl (fun K hK => ?_) AllReadyH.nil
          go_simp
          go_wp2_with fail
          refine hK.out _ _ (bat_block HF.out.b3) (fun hHeld => ?_)
          clear hK K
          (try simp only [Act.put, List.getElem_toArray, List.getElem_cons_succ, List.getElem_cons_zero, List.setIfInBounds_toArray, List.set_cons_zero, List.set_cons_succ])
          refine wpAnyH_done (by kernel_rfl) ?_ _
          go_wp2_with fail
          go_meet
          exact ⟨q7, q8, g7, c7, g8, c8, rfl, rfl, HF, lg, hleg7, hleg8, lg7, lg8, l37, l38, l78, l8⟩
      · skip
        go_simp
        go_wp2_with fail
        have hg := heap_alloc_new W1 (.cells #[.int .i64 0, .int .i64 0, .slice none 0 0] 24)
        have FX24 := Lib.hid (blk_bel FX2.out (bel1 W1 (.cells #[.int .i64 0, .int .i64 0, .slice none 0 0] 24)))
        have FB24 := Lib.hid (nx FB2.out (bel1 W1 (.cells #[.int .i64 0, .int .i64 0, .slice none 0 0] 24)))
        have FN124 := Lib.hid (FN1.out.below (bel1 W1 (.cells #[.int .i64 0, .int .i64 0, .slice none 0 0] 24)))
        clear FX2 FB2 FN1
        refine hK.out _ _ (bat_block FX24.out) (fun hHeld => ?_)
        clear hK K
        (try simp only [Act.put, List.getElem_toArray, List.getElem_cons_succ, List.getElem_cons_zero, List.setIfInBounds_toArray, List.set_cons_zero, List.set_cons_succ])
        obtain ⟨W23, hW⟩ : ∃ Z, Z = W1.alloc (.cells #[.int .i64 0, .int .i64 0, .slice none 0 0] 24) := ⟨_, rfl⟩
        change wpAnyH _ _ _ _ _ _ _ _ (W1.alloc (.cells #[.int .i64 0, .int .i64 0, .slice none 0 0] 24))
        have hz23 := Lib.hid (show W23.heap.size = W1.heap.size + 1 by rw [hW]; simp)
        rw [← hW] at FX24 FB24 FN124 hg hHeld ⊢
        obtain ⟨q8, hq23⟩ : ∃ q, q = W1.heap.size := ⟨_, rfl⟩
        rw [← hq23] at hg ⊢
        have hqh23 := Lib.hid hq23
        have FY823 := Lib.hid hg
        clear hg hW hq23
        refine wpAnyH_ready (rs := [3, 4]) (by kernel_rfl) (by simp) ?_
        refine (AllReadyH.cons rfl (fun K hK => ?_) (AllReadyH.cons rfl (fun K hK => ?_) AllReadyH.nil))
        · skip
          go_simp
          go_at_call 8
          refine (refCopy_any (b := b) (w := W23) (HL.out.below FB24.out)).mono ?_
          rintro e W25 ⟨v, rfl, ho, hb⟩
          obtain ⟨g8, c8, ev, hleg8, hcmg8, hbag8, hltg8, htn⟩ := ho.turn (w0 := w) (by rw [← HN.out]; omega) T
          subst ev
          rw [← HN.out] at hleg8 ho ⊢
          have hz25 := hb.size
          have hwz25 := FB24.out.size
          have FX26 := Lib.hid (blk_bel FX24.out hb)
          have FB26 := Lib.hid (nx FB24.out hb)
          have FN126 := Lib.hid (FN124.out.below hb)
          have FY826 := Lib.hid (blk_bel FY823.out hb)
          clear FX24 FB24 FN124 FY823
          have FO25 := Lib.hid (ho.base hwz25 (by omega))
          clear ho htn hb
          go_wp2_with fail
          refine hK.out _ _ (bat_block FX26.out) (fun hHeld => ?_)
          clear hK K
          (try simp only [Act.put, List.getElem_toArray, List.getElem_cons_succ, List.getElem_cons_zero, List.setIfInBounds_toArray, List.set_cons_zero, List.set_cons_succ])
          refine wpAnyH_ready (rs := [4]) (by kernel_rfl) (by simp) ?_
          refine (AllReadyH.cons rfl (fun K hK => ?_) AllReadyH.nil)
          go_simp
          go_wp2_with fail
          have hg := heap_alloc_new W25 (.cells #[.int .i64 0, .int .i64 0, .slice none 0 0] 24)
          have FX28 := Lib.hid (blk_bel FX26.out (bel1 W25 (.cells #[.int .i64 0, .int .i64 0, .slice none 0 0] 24)))
          have FB28 := Lib.hid (nx FB26.out (bel1 W25 (.cells #[.int .i64 0, .int .i64 0, .slice none 0 0] 24)))
          have FN128 := Lib.hid (FN126.out.below (bel1 W25 (.cells #[.int .i64 0, .int .i64 0, .slice none 0 0] 24)))
          have FY828 := Lib.hid (blk_bel FY826.out (bel1 W25 (.cells #[.int .i64 0, .int .i64 0, .slice none 0 0] 24)))
          have FO328 := Lib.hid (FO25.out.below (bel1 W25 (.cells #[.int .i64 0, .int .i64 0, .slice none 0 0] 24)))
          clear FX26 FB26 FN126 FY826 FO25
          refine hK.out _ _ (bat_block FX28.out) (fun hHeld => ?_)
          clear hK K
          (try simp only [Act.put, List.getElem_toArray, List.getElem_cons_succ, List.getElem_cons_zero, List.setIfInBounds_toArray, List.set_cons_zero, List.set_cons_succ])
          obtain ⟨W27, hW⟩ : ∃ Z, Z = W25.alloc (.cells #[.int .i64 0, .int .i64 0, .slice none 0 0] 24) := ⟨_, rfl⟩
          change wpAnyH _ _ _ _ _ _ _ _ (W25.alloc (.cells #[.int .i64 0, .int .i64 0, .slice none 0 0] 24))
          have hz27 := Lib.hid (show W27.heap.size = W25.heap.size + 1 by rw [hW]; simp)
          rw [← hW] at FX28 FB28 FN128 FY828 FO328 hg hHeld ⊢
          obtain ⟨q7, hq27⟩ : ∃ q, q = W25.heap.size := ⟨_, rfl⟩
          rw [← hq27] at hg ⊢
          have hqh27 := Lib.hid hq27
          have FY727 := Lib.hid hg
          clear hg hW hq27
          refine wpAnyH_ready (rs := [6]) (by kernel_rfl) (by simp) ?_
          refine AllReadyH.cons rfl (fun K hK => ?_) AllReadyH.nil
          have e_HQ3 := HQ3.out
          have e_hz23 := hz23.out
          have e_hqh23 := hqh23.out
          have e_hz27 := hz27.out
          have e_hqh27 := hqh27.out
          have l38 : q3 ≠ q8 := by omega
          have l37 : q3 ≠ q7 := by omega
          have l78 : q7 ≠ q8 := by omega
          have l7 : w.heap.size ≤ q7 := by omega
          have l8 : w.heap.size ≤ q8 := by omega
          have lg : g7 ≠ g8 := by omega
          have lg7 : w.heap.size ≤ g7 := by omega
          have lg8 : w.heap.size ≤ g8 := by omega
          clear e_HQ3 e_hz23 e_hqh23 e_hz27 e_hqh27
          have HF := Lib.hid (LsW.start FB28.out FX28.out FY727.out FY828.out FN128.out FO328.out l37 l38 l78 l7 l8)
          have y0 := cell_of FY727.out 0
          have y1 := cell_of FY727.out 1
          have y2 := cell_of FY727.out 2
          have u0 := frozen_of FY727.out 0
          have u1 := frozen_of FY727.out 1
          have u2 := frozen_of FY727.out 2
          have z0 := cell_of FY828.out 0
          have z1 := cell_of FY828.out 1
          have z2 := cell_of FY828.out 2
          have v0 := frozen_of FY828.out 0
          have v1 := frozen_of FY828.out 1
          have v2 := frozen_of FY828.out 2
          simp at y0 y1 y2 z0 z1 z2
          go_simp
          go_wp2_with fail
          refine hK.out _ _ (bat_block (((Below.heap_setCell _ ⟨q7, 2, none⟩ _ q3 l37).trans ((Below.heap_setCell _ ⟨q7, 1, none⟩ _ q3 l37).trans ((Below.heap_setCell _ ⟨q7, 0, none⟩ _ q3 l37).trans FX28.out))))) (fun hHeld => ?_)
          clear hK K
          (try simp only [Act.put, List.getElem_toArray, List.getElem_cons_succ, List.getElem_cons_zero, List.setIfInBounds_toArray, List.set_cons_zero, List.set_cons_succ])
          refine wpAnyH_ready (rs := [7]) (by kernel_rfl) (by simp) ?_
          refine AllReadyH.cons rfl (fun K hK => ?_) AllReadyH.nil
          go_simp
          go_wp2_with fail
          refine hK.out _ _ (bat_block HF.out.b3) (fun hHeld => ?_)
          clear hK K
          (try simp only [Act.put, List.getElem_toArray, List.getElem_cons_succ, List.getElem_cons_zero, List.setIfInBounds_toArray, List.set_cons_zero, List.set_cons_succ])
          refine wpAnyH_done (by kernel_rfl) ?_ _
          go_wp2_with fail
          go_meet
          exact ⟨q7, q8, g7, c7, g8, c8, rfl, rfl, HF, lg, hleg7, hleg8, lg7, lg8, l37, l38, l78, l8⟩
        · skip
          go_simp
          go_wp2_with fail
          have hg := heap_alloc_new W23 (.cells #[.int .i64 0, .int .i64 0, .slice none 0 0] 24)
          have FX30 := Lib.hid (blk_bel FX24.out (bel1 W23 (.cells #[.int .i64 0, .int .i64 0, .slice none 0 0] 24)))
          have FB30 := Lib.hid (nx FB24.out (bel1 W23 (.cells #[.int .i64 0, .int .i64 0, .slice none 0 0] 24)))
          have FN130 := Lib.hid (FN124.out.below (bel1 W23 (.cells #[.int .i64 0, .int .i64 0, .slice none 0 0] 24)))
          have FY830 := Lib.hid (blk_bel FY823.out (bel1 W23 (.cells #[.int .i64 0, .int .i64 0, .slice none 0 0] 24)))
          clear FX24 FB24 FN124 FY823
          refine hK.out _ _ (bat_block FX30.out) (fun hHeld => ?_)
          clear hK K
          (try simp only [Act.put, List.getElem_toArray, List.getElem_cons_succ, List.getElem_cons_zero, List.setIfInBounds_toArray, List.set_cons_zero, List.set_cons_succ])
          obtain ⟨W29, hW⟩ : ∃ Z, Z = W23.alloc (.cells #[.int .i64 0, .int .i64 0, .slice none 0 0] 24) := ⟨_, rfl⟩
          change wpAnyH _ _ _ _ _ _ _ _ (W23.alloc (.cells #[.int .i64 0, .int .i64 0, .slice none 0 0] 24))
          have hz29 := Lib.hid (show W29.heap.size = W23.heap.size + 1 by rw [hW]; simp)
          rw [← hW] at FX30 FB30 FN130 FY830 hg hHeld ⊢
          obtain ⟨q7, hq29⟩ : ∃ q, q = W23.heap.size := ⟨_, rfl⟩
          rw [← hq29] at hg ⊢
          have hqh29 := Lib.hid hq29
          have FY729 := Lib.hid hg
          clear hg hW hq29
          refine wpAnyH_ready (rs := [3]) (by kernel_rfl) (by simp) ?_
          refine (AllReadyH.cons rfl (fun K hK => ?_) AllReadyH.nil)
          go_simp
          go_at_call 8
          refine (refCopy_any (b := b) (w := W29) (HL.out.below FB30.out)).mono ?_
          rintro e W31 ⟨v, rfl, ho, hb⟩
          obtain ⟨g8, c8, ev, hleg8, hcmg8, hbag8, hltg8, htn⟩ := ho.turn (w0 := w) (by rw [← HN.out]; omega) T
          subst ev
          rw [← HN.out] at hleg8 ho ⊢
          have hz31 := hb.size
          have hwz31 := FB30.out.size
          have FX32 := Lib.hid (blk_bel FX30.out hb)
          have FB32 := Lib.hid (nx FB30.out hb)
          have FN132 := Lib.hid (FN130.out.below hb)
          have FY832 := Lib.hid (blk_bel FY830.out hb)
          have FY732 := Lib.hid (blk_bel FY729.out hb)
          clear FX30 FB30 FN130 FY830 FY729
          have FO31 := Lib.hid (ho.base hwz31 (by omega))
          clear ho htn hb
          go_wp2_with fail
          refine hK.out _ _ (bat_block FX32.out) (fun hHeld => ?_)
          clear hK K
          (try simp only [Act.put, List.getElem_toArray, List.getElem_cons_succ, List.getElem_cons_zero, List.setIfInBounds_toArray, List.set_cons_zero, List.set_cons_succ])
          refine wpAnyH_ready (rs := [6]) (by kernel_rfl) (by simp) ?_
          refine AllReadyH.cons rfl (fun K hK => ?_) AllReadyH.nil
          have e_HQ3 := HQ3.out
          have e_hz23 := hz23.out
          have e_hqh23 := hqh23.out
          have e_hz29 := hz29.out
          have e_hqh29 := hqh29.out
          have l38 : q3 ≠ q8 := by omega
          have l37 : q3 ≠ q7 := by omega
          have l78 : q7 ≠ q8 := by omega
          have l7 : w.heap.size ≤ q7 := by omega
          have l8 : w.heap.size ≤ q8 := by omega
          have lg : g7 ≠ g8 := by omega
          have lg7 : w.heap.size ≤ g7 := by omega
          have lg8 : w.heap.size ≤ g8 := by omega
          clear e_HQ3 e_hz23 e_hqh23 e_hz29 e_hqh29
          have HF := Lib.hid (LsW.start FB32.out FX32.out FY732.out FY832.out FN132.out FO31.out l37 l38 l78 l7 l8)
          have y0 := cell_of FY732.out 0
          have y1 := cell_of FY732.out 1
          have y2 := cell_of FY732.out 2
          have u0 := frozen_of FY732.out 0
          have u1 := frozen_of FY732.out 1
          have u2 := frozen_of FY732.out 2
          have z0 := cell_of FY832.out 0
          have z1 := cell_of FY832.out 1
          have z2 := cell_of FY832.out 2
          have v0 := frozen_of FY832.out 0
          have v1 := frozen_of FY832.out 1
          have v2 := frozen_of FY832.out 2
          simp at y0 y1 y2 z0 z1 z2
          go_simp
          go_wp2_with fail
          refine hK.out _ _ (bat_block (((Below.heap_setCell _ ⟨q7, 2, none⟩ _ q3 l37).trans ((Below.heap_setCell _ ⟨q7, 1, none⟩ _ q3 l37).trans ((Below.heap_setCell _ ⟨q7, 0, none⟩ _ q3 l37).trans FX32.out))))) (fun hHeld => ?_)
          clear hK K
          (try simp only [Act.put, List.getElem_toArray, List.getElem_cons_succ, List.getElem_cons_zero, List.setIfInBounds_toArray, List.set_cons_zero, List.set_cons_succ])
          refine wpAnyH_ready (rs := [7]) (by kernel_rfl) (by simp) ?_
          refine AllReadyH.cons rfl (fun K hK => ?_) AllReadyH.nil
          go_simp
          go_wp2_with fail
          refine hK.out _ _ (bat_block HF.out.b3) (fun hHeld => ?_)
          clear hK K
          (try simp only [Act.put, List.getElem_toArray, List.getElem_cons_succ, List.getElem_cons_zero, List.setIfInBounds_toArray, List.set_cons_zero, List.set_cons_succ])
          refine wpAnyH_done (by kernel_rfl) ?_ _
          go_wp2_with fail
          go_meet
          exact ⟨q7, q8, g7, c7, g8, c8, rfl, rfl, HF, lg, hleg7, hleg8, lg7, lg8, l37, l38, l78, l8⟩
    · skip
      go_simp
      go_wp2_with fail
      have hg := heap_alloc_new WW (.cells #[.int .i64 0, .int .i64 0, .slice none 0 0] 24)
      have FX34 := Lib.hid (blk_bel X3.out (bel1 WW (.cells #[.int .i64 0, .int .i64 0, .slice none 0 0] 24)))
      have FB34 := Lib.hid (nx B3.out (bel1 WW (.cells #[.int .i64 0, .int .i64 0, .slice none 0 0] 24)))
      clear X3 B3
      refine hK.out _ _ (bat_block FX34.out) (fun hHeld => ?_)
      clear hK K
      (try simp only [Act.put, List.getElem_toArray, List.getElem_cons_succ, List.getElem_cons_zero, List.setIfInBounds_toArray, List.set_cons_zero, List.set_cons_succ])
      obtain ⟨W33, hW⟩ : ∃ Z, Z = WW.alloc (.cells #[.int .i64 0, .int .i64 0, .slice none 0 0] 24) := ⟨_, rfl⟩
      change wpAnyH _ _ _ _ _ _ _ _ (WW.alloc (.cells #[.int .i64 0, .int .i64 0, .slice none 0 0] 24))
      have hz33 := Lib.hid (show W33.heap.size = WW.heap.size + 1 by rw [hW]; simp)
      rw [← hW] at FX34 FB34 hg hHeld ⊢
      obtain ⟨q7, hq33⟩ : ∃ q, q = WW.heap.size := ⟨_, rfl⟩
      rw [← hq33] at hg ⊢
      have hqh33 := Lib.hid hq33
      have FY733 := Lib.hid hg
      clear hg hW hq33
      refine wpAnyH_ready (rs := [1, 5]) (by kernel_rfl) (by simp) ?_
      refine (AllReadyH.cons rfl (fun K hK => ?_) (AllReadyH.cons rfl (fun K hK => ?_) AllReadyH.nil))
      · skip
        go_simp
        go_at_call 8
        refine (refCopy_any (b := b) (w := W33) (HL.out.below FB34.out)).mono ?_
        rintro e W35 ⟨v, rfl, ho, hb⟩
        obtain ⟨g7, c7, ev, hleg7, hcmg7, hbag7, hltg7, htn⟩ := ho.turn (w0 := w) (by rw [← HN.out]; omega) T
        subst ev
        rw [← HN.out] at hleg7 ho ⊢
        have hz35 := hb.size
        have hwz35 := FB34.out.size
        have FX36 := Lib.hid (blk_bel FX34.out hb)
        have FB36 := Lib.hid (nx FB34.out hb)
        have FY736 := Lib.hid (blk_bel FY733.out hb)
        clear FX34 FB34 FY733
        have FN35 := Lib.hid htn
        clear ho htn hb
        go_wp2_with fail
        refine hK.out _ _ (bat_block FX36.out) (fun hHeld => ?_)
        clear hK K
        (try simp only [Act.put, List.getElem_toArray, List.getElem_cons_succ, List.getElem_cons_zero, List.setIfInBounds_toArray, List.set_cons_zero, List.set_cons_succ])
        refine wpAnyH_ready (rs := [3, 5]) (by kernel_rfl) (by simp) ?_
        refine (AllReadyH.cons rfl (fun K hK => ?_) (AllReadyH.cons rfl (fun K hK => ?_) AllReadyH.nil))
        · skip
          go_simp
          go_at_call 8
          refine (refCopy_any (b := b) (w := W35) (HL.out.below FB36.out)).mono ?_
          rintro e W37 ⟨v, rfl, ho, hb⟩
          obtain ⟨g8, c8, ev, hleg8, hcmg8, hbag8, hltg8, htn⟩ := ho.turn (w0 := w) (by rw [← HN.out]; omega) T
          subst ev
          rw [← HN.out] at hleg8 ho ⊢
          have hz37 := hb.size
          have hwz37 := FB36.out.size
          have FX38 := Lib.hid (blk_bel FX36.out hb)
          have FB38 := Lib.hid (nx FB36.out hb)
          have FY738 := Lib.hid (blk_bel FY736.out hb)
          have FN138 := Lib.hid (FN35.out.below hb)
          clear FX36 FB36 FY736 FN35
          have FO37 := Lib.hid (ho.base hwz37 (by omega))
          clear ho htn hb
          go_wp2_with fail
          refine hK.out _ _ (bat_block FX38.out) (fun hHeld => ?_)
          clear hK K
          (try simp only [Act.put, List.getElem_toArray, List.getElem_cons_succ, List.getElem_cons_zero, List.setIfInBounds_toArray, List.set_cons_zero, List.set_cons_succ])
          refine wpAnyH_ready (rs := [5]) (by kernel_rfl) (by simp) ?_
          refine (AllReadyH.cons rfl (fun K hK => ?_) AllReadyH.nil)
          go_simp
          go_wp2_with fail
          have hg := heap_alloc_new W37 (.cells #[.int .i64 0, .int .i64 0, .slice none 0 0] 24)
          have FX40 := Lib.hid (blk_bel FX38.out (bel1 W37 (.cells #[.int .i64 0, .int .i64 0, .slice none 0 0] 24)))
          have FB40 := Lib.hid (nx FB38.out (bel1 W37 (.cells #[.int .i64 0, .int .i64 0, .slice none 0 0] 24)))
          have FY740 := Lib.hid (blk_bel FY738.out (bel1 W37 (.cells #[.int .i64 0, .int .i64 0, .slice none 0 0] 24)))
          have FN140 := Lib.hid (FN138.out.below (bel1 W37 (.cells #[.int .i64 0, .int .i64 0, .slice none 0 0] 24)))
          have FO340 := Lib.hid (FO37.out.below (bel1 W37 (.cells #[.int .i64 0, .int .i64 0, .slice none 0 0] 24)))
          clear FX38 FB38 FY738 FN138 FO37
          refine hK.out _ _ (bat_block FX40.out) (fun hHeld => ?_)
          clear hK K
          (try simp only [Act.put, List.getElem_toArray, List.getElem_cons_succ, List.getElem_cons_zero, List.setIfInBounds_toArray, List.set_cons_zero, List.set_cons_succ])
          obtain ⟨W39, hW⟩ : ∃ Z, Z = W37.alloc (.cells #[.int .i64 0, .int .i64 0, .slice none 0 0] 24) := ⟨_, rfl⟩
          change wpAnyH _ _ _ _ _ _ _ _ (W37.alloc (.cells #[.int .i64 0, .int .i64 0, .slice none 0 0] 24))
          have hz39 := Lib.hid (show W39.heap.size = W37.heap.size + 1 by rw [hW]; simp)
          rw [← hW] at FX40 FB40 FY740 FN140 FO340 hg hHeld ⊢
          obtain ⟨q8, hq39⟩ : ∃ q, q = W37.heap.size := ⟨_, rfl⟩
          rw [← hq39] at hg ⊢
          have hqh39 := Lib.hid hq39
          have FY839 := Lib.hid hg
          clear hg hW hq39
          refine wpAnyH_ready (rs := [6]) (by kernel_rfl) (by simp) ?_
          refine AllReadyH.cons rfl (fun K hK => ?_) AllReadyH.nil
          have e_HQ3 := HQ3.out
          have e_hz33 := hz33.out
          have e_hqh33 := hqh33.out
          have e_hz39 := hz39.out
          have e_hqh39 := hqh39.out
          have l38 : q3 ≠ q8 := by omega
          have l37 : q3 ≠ q7 := by omega
          have l78 : q7 ≠ q8 := by omega
          have l7 : w.heap.size ≤ q7 := by omega
          have l8 : w.heap.size ≤ q8 := by omega
          have lg : g7 ≠ g8 := by omega
          have lg7 : w.heap.size ≤ g7 := by omega
          have lg8 : w.heap.size ≤ g8 := by omega
          clear e_HQ3 e_hz33 e_hqh33 e_hz39 e_hqh39
          have HF := Lib.hid (LsW.start FB40.out FX40.out FY740.out FY839.out FN140.out FO340.out l37 l38 l78 l7 l8)
          have y0 := cell_of FY740.out 0
          have y1 := cell_of FY740.out 1
          have y2 := cell_of FY740.out 2
          have u0 := frozen_of FY740.out 0
          have u1 := frozen_of FY740.out 1
          have u2 := frozen_of FY740.out 2
          have z0 := cell_of FY839.out 0
          have z1 := cell_of FY839.out 1
          have z2 := cell_of FY839.out 2
          have v0 := frozen_of FY839.out 0
          have v1 := frozen_of FY839.out 1
          have v2 := frozen_of FY839.out 2
          simp at y0 y1 y2 z0 z1 z2
          go_simp
          go_wp2_with fail
          refine hK.out _ _ (bat_block (((Below.heap_setCell _ ⟨q7, 2, none⟩ _ q3 l37).trans ((Below.heap_setCell _ ⟨q7, 1, none⟩ _ q3 l37).trans ((Below.heap_setCell _ ⟨q7, 0, none⟩ _ q3 l37).trans FX40.out))))) (fun hHeld => ?_)
          clear hK K
          (try simp only [Act.put, List.getElem_toArray, List.getElem_cons_succ, List.getElem_cons_zero, List.setIfInBounds_toArray, List.set_cons_zero, List.set_cons_succ])
          refine wpAnyH_ready (rs := [7]) (by kernel_rfl) (by simp) ?_
          refine AllReadyH.cons rfl (fun K hK => ?_) AllReadyH.nil
          go_simp
          go_wp2_with fail
          refine hK.out _ _ (bat_block HF.out.b3) (fun hHeld => ?_)
          clear hK K
          (try simp only [Act.put, List.getElem_toArray, List.getElem_cons_succ, List.getElem_cons_zero, List.setIfInBounds_toArray, List.set_cons_zero, List.set_cons_succ])
          refine wpAnyH_done (by kernel_rfl) ?_ _
          go_wp2_with fail
          go_meet
          exact ⟨q7, q8, g7, c7, g8, c8, rfl, rfl, HF, lg, hleg7, hleg8, lg7, lg8, l37, l38, l78, l8⟩
        · skip
          go_simp
          go_wp2_with fail
          have hg := heap_alloc_new W35 (.cells #[.int .i64 0, .int .i64 0, .slice none 0 0] 24)
          have FX42 := Lib.hid (blk_bel FX36.out (bel1 W35 (.cells #[.int .i64 0, .int .i64 0, .slice none 0 0] 24)))
          have FB42 := Lib.hid (nx FB36.out (bel1 W35 (.cells #[.int .i64 0, .int .i64 0, .slice none 0 0] 24)))
          have FY742 := Lib.hid (blk_bel FY736.out (bel1 W35 (.cells #[.int .i64 0, .int .i64 0, .slice none 0 0] 24)))
          have FN142 := Lib.hid (FN35.out.below (bel1 W35 (.cells #[.int .i64 0, .int .i64 0, .slice none 0 0] 24)))
          clear FX36 FB36 FY736 FN35
          refine hK.out _ _ (bat_block FX42.out) (fun hHeld => ?_)
          clear hK K
          (try simp only [Act.put, List.getElem_toArray, List.getElem_cons_succ, List.getElem_cons_zero, List.setIfInBounds_toArray, List.set_cons_zero, List.set_cons_succ])
          obtain ⟨W41, hW⟩ : ∃ Z, Z = W35.alloc (.cells #[.int .i64 0, .int .i64 0, .slice none 0 0] 24) := ⟨_, rfl⟩
          change wpAnyH _ _ _ _ _ _ _ _ (W35.alloc (.cells #[.int .i64 0, .int .i64 0, .slice none 0 0] 24))
          have hz41 := Lib.hid (show W41.heap.size = W35.heap.size + 1 by rw [hW]; simp)
          rw [← hW] at FX42 FB42 FY742 FN142 hg hHeld ⊢
          obtain ⟨q8, hq41⟩ : ∃ q, q = W35.heap.size := ⟨_, rfl⟩
          rw [← hq41] at hg ⊢
          have hqh41 := Lib.hid hq41
          have FY841 := Lib.hid hg
          clear hg hW hq41
          refine wpAnyH_ready (rs := [3]) (by kernel_rfl) (by simp) ?_
          refine (AllReadyH.cons rfl (fun K hK => ?_) AllReadyH.nil)
          go_simp
          go_at_call 8
          refine (refCopy_any (b := b) (w := W41) (HL.out.below FB42.out)).mono ?_
          rintro e W43 ⟨v, rfl, ho, hb⟩
          obtain ⟨g8, c8, ev, hleg8, hcmg8, hbag8, hltg8, htn⟩ := ho.turn (w0 := w) (by rw [← HN.out]; omega) T
          subst ev
          rw [← HN.out] at hleg8 ho ⊢
          have hz43 := hb.size
          have hwz43 := FB42.out.size
          have FX44 := Lib.hid (blk_bel FX42.out hb)
          have FB44 := Lib.hid (nx FB42.out hb)
          have FY744 := Lib.hid (blk_bel FY742.out hb)
          have FN144 := Lib.hid (FN142.out.below hb)
          have FY844 := Lib.hid (blk_bel FY841.out hb)
          clear FX42 FB42 FY742 FN142 FY841
          have FO43 := Lib.hid (ho.base hwz43 (by omega))
          clear ho htn hb
          go_wp2_with fail
          refine hK.out _ _ (bat_block FX44.out) (fun hHeld => ?_)
          clear hK K
          (try simp only [Act.put, List.getElem_toArray, List.getElem_cons_succ, List.getElem_cons_zero, List.setIfInBounds_toArray, List.set_cons_zero, List.set_cons_succ])
          refine wpAnyH_ready (rs := [6]) (by kernel_rfl) (by simp) ?_
          refine AllReadyH.cons rfl (fun K hK => ?_) AllReadyH.nil
          have e_HQ3 := HQ3.out
          have e_hz33 := hz33.out
          have e_hqh33 := hqh33.out
          have e_hz41 := hz41.out
          have e_hqh41 := hqh41.out
          have l38 : q3 ≠ q8 := by omega
          have l37 : q3 ≠ q7 := by omega
          have l78 : q7 ≠ q8 := by omega
          have l7 : w.heap.size ≤ q7 := by omega
          have l8 : w.heap.size ≤ q8 := by omega
          have lg : g7 ≠ g8 := by omega
          have lg7 : w.heap.size ≤ g7 := by omega
          have lg8 : w.heap.size ≤ g8 := by omega
          clear e_HQ3 e_hz33 e_hqh33 e_hz41 e_hqh41
          have HF := Lib.hid (LsW.start FB44.out FX44.out FY744.out FY844.out FN144.out FO43.out l37 l38 l78 l7 l8)
          have y0 := cell_of FY744.out 0
          have y1 := cell_of FY744.out 1
          have y2 := cell_of FY744.out 2
          have u0 := frozen_of FY744.out 0
          have u1 := frozen_of FY744.out 1
          have u2 := frozen_of FY744.out 2
          have z0 := cell_of FY844.out 0
          have z1 := cell_of FY844.out 1
          have z2 := cell_of FY844.out 2
          have v0 := frozen_of FY844.out 0
          have v1 := frozen_of FY844.out 1
          have v2 := frozen_of FY844.out 2
          simp at y0 y1 y2 z0 z1 z2
          go_simp
          go_wp2_with fail
          refine hK.out _ _ (bat_block (((Below.heap_setCell _ ⟨q7, 2, none⟩ _ q3 l37).trans ((Below.heap_setCell _ ⟨q7, 1, none⟩ _ q3 l37).trans ((Below.heap_setCell _ ⟨q7, 0, none⟩ _ q3 l37).trans FX44.out))))) (fun hHeld => ?_)
          clear hK K
          (try simp only [Act.put, List.getElem_toArray, List.getElem_cons_succ, List.getElem_cons_zero, List.setIfInBounds_toArray, List.set_cons_zero, List.set_cons_succ])
          refine wpAnyH_ready (rs := [7]) (by kernel_rfl) (by simp) ?_
          refine AllReadyH.cons rfl (fun K hK => ?_) AllReadyH.nil
          go_simp
          go_wp2_with fail
          refine hK.out _ _ (bat_block HF.out.b3) (fun hHeld => ?_)
          clear hK K
          (try simp only [Act.put, List.getElem_toArray, List.getElem_cons_succ, List.getElem_cons_zero, List.setIfInBounds_toArray, List.set_cons_zero, List.set_cons_succ])
          refine wpAnyH_done (by kernel_rfl) ?_ _
          go_wp2_with fail
          go_meet
          exact ⟨q7, q8, g7, c7, g8, c8, rfl, rfl, HF, lg, hleg7, hleg8, lg7, lg8, l37, l38, l78, l8⟩
      · skip
        go_simp
        go_wp2_with fail
        have hg := heap_alloc_new W33 (.cells #[.int .i64 0, .int .i64 0, .slice none 0 0] 24)
        have FX46 := Lib.hid (blk_bel FX34.out (bel1 W33 (.cells #[.int .i64 0, .int .i64 0, .slice none 0 0] 24)))
        have FB46 := Lib.hid (nx FB34.out (bel1 W33 (.cells #[.int .i64 0, .int .i64 0, .slice none 0 0] 24)))
        have FY746 := Lib.hid (blk_bel FY733.out (bel1 W33 (.cells #[.int .i64 0, .int .i64 0, .slice none 0 0] 24)))
        clear FX34 FB34 FY733
        refine hK.out _ _ (bat_block FX46.out) (fun hHeld => ?_)
        clear hK K
        (try simp only [Act.put, List.getElem_toArray, List.getElem_cons_succ, List.getElem_cons_zero, List.setIfInBounds_toArray, List.set_cons_zero, List.set_cons_succ])
        obtain ⟨W45, hW⟩ : ∃ Z, Z = W33.alloc (.cells #[.int .i64 0, .int .i64 0, .slice none 0 0] 24) := ⟨_, rfl⟩
        change wpAnyH _ _ _ _ _ _ _ _ (W33.alloc (.cells #[.int .i64 0, .int .i64 0, .slice none 0 0] 24))
        have hz45 := Lib.hid (show W45.heap.size = W33.heap.size + 1 by rw [hW]; simp)
        rw [← hW] at FX46 FB46 FY746 hg hHeld ⊢
        obtain ⟨q8, hq45⟩ : ∃ q, q = W33.heap.size := ⟨_, rfl⟩
        rw [← hq45] at hg ⊢
        have hqh45 := Lib.hid hq45
        have FY845 := Lib.hid hg
        clear hg hW hq45
        refine wpAnyH_ready (rs := [1]) (by kernel_rfl) (by simp) ?_
        refine (AllReadyH.cons rfl (fun K hK => ?_) AllReadyH.nil)
        go_simp
        go_at_call 8
        refine (refCopy_any (b := b) (w := W45) (HL.out.below FB46.out)).mono ?_
        rintro e W47 ⟨v, rfl, ho, hb⟩
        obtain ⟨g7, c7, ev, hleg7, hcmg7, hbag7, hltg7, htn⟩ := ho.turn (w0 := w) (by rw [← HN.out]; omega) T
        subst ev
        rw [← HN.out] at hleg7 ho ⊢
        have hz47 := hb.size
        have hwz47 := FB46.out.size
        have FX48 := Lib.hid (blk_bel FX46.out hb)
        have FB48 := Lib.hid (nx FB46.out hb)
        have FY748 := Lib.hid (blk_bel FY746.out hb)
        have FY848 := Lib.hid (blk_bel FY845.out hb)
        clear FX46 FB46 FY746 FY845
        have FN47 := Lib.hid htn
        clear ho htn hb
        go_wp2_with fail
        refine hK.out _ _ (bat_block FX48.out) (fun hHeld => ?_)
        clear hK K
        (try simp only [Act.put, List.getElem_toArray, List.getElem_cons_succ, List.getElem_cons_zero, List.setIfInBounds_toArray, List.set_cons_zero, List.set_cons_succ])
        refine wpAnyH_ready (rs := [3]) (by kernel_rfl) (by simp) ?_
        refine (AllReadyH.cons rfl (fun K hK => ?_) AllReadyH.nil)
        go_simp
        go_at_call 8
        refine (refCopy_any (b := b) (w := W47) (HL.out.below FB48.out)).mono ?_
        rintro e W49 ⟨v, rfl, ho, hb⟩
        obtain ⟨g8, c8, ev, hleg8, hcmg8, hbag8, hltg8, htn⟩ := ho.turn (w0 := w) (by rw [← HN.out]; omega) T
        subst ev
        rw [← HN.out] at hleg8 ho ⊢
        have hz49 := hb.size
        have hwz49 := FB48.out.size
        have FX50 := Lib.hid (blk_bel FX48.out hb)
        have FB50 := Lib.hid (nx FB48.out hb)
        have FY750 := Lib.hid (blk_bel FY748.out hb)
        have FY850 := Lib.hid (blk_bel FY848.out hb)
        have FN150 := Lib.hid (FN47.out.below hb)
        clear FX48 FB48 FY748 FY848 FN47
        have FO49 := Lib.hid (ho.base hwz49 (by omega))
        clear ho htn hb
        go_wp2_with fail
        refine hK.out _ _ (bat_block FX50.out) (fun hHeld => ?_)
        clear hK K
        (try simp only [Act.put, List.getElem_toArray, List.getElem_cons_succ, List.getElem_cons_zero, List.setIfInBounds_toArray, List.set_cons_zero, List.set_cons_succ])
        refine wpAnyH_ready (rs := [6]) (by kernel_rfl) (by simp) ?_
        refine AllReadyH.cons rfl (fun K hK => ?_) AllReadyH.nil
        have e_HQ3 := HQ3.out
        have e_hz33 := hz33.out
        have e_hqh33 := hqh33.out
        have e_hz45 := hz45.out
        have e_hqh45 := hqh45.out
        have l38 : q3 ≠ q8 := by omega
        have l37 : q3 ≠ q7 := by omega
        have l78 : q7 ≠ q8 := by omega
        have l7 : w.heap.size ≤ q7 := by omega
        have l8 : w.heap.size ≤ q8 := by omega
        have lg : g7 ≠ g8 := by omega
        have lg7 : w.heap.size ≤ g7 := by omega
        have lg8 : w.heap.size ≤ g8 := by omega
        clear e_HQ3 e_hz33 e_hqh33 e_hz45 e_hqh45
        have HF := Lib.hid (LsW.start FB50.out FX50.out FY750.out FY850.out FN150.out FO49.out l37 l38 l78 l7 l8)
        have y0 := cell_of FY750.out 0
        have y1 := cell_of FY750.out 1
        have y2 := cell_of FY750.out 2
        have u0 := frozen_of FY750.out 0
        have u1 := frozen_of FY750.out 1
        have u2 := frozen_of FY750.out 2
        have z0 := cell_of FY850.out 0
        have z1 := cell_of FY850.out 1
        have z2 := cell_of FY850.out 2
        have v0 := frozen_of FY850.out 0
        have v1 := frozen_of FY850.out 1
        have v2 := frozen_of FY850.out 2
        simp at y0 y1 y2 z0 z1 z2
        go_simp
        go_wp2_with fail
        refine hK.out _ _ (bat_block (((Below.heap_setCell _ ⟨q7, 2, none⟩ _ q3 l37).trans ((Below.heap_setCell _ ⟨q7, 1, none⟩ _ q3 l37).trans ((Below.heap_setCell _ ⟨q7, 0, none⟩ _ q3 l37).trans FX50.out))))) (fun hHeld => ?_)
        clear hK K
        (try simp only [Act.put, List.getElem_toArray, List.getElem_cons_succ, List.getElem_cons_zero, List.setIfInBounds_toArray, List.set_cons_zero, List.set_cons_succ])
        refine wpAnyH_ready (rs := [7]) (by kernel_rfl) (by simp) ?_
        refine AllReadyH.cons rfl (fun K hK => ?_) AllReadyH.nil
        go_simp
        go_wp2_with fail
        refine hK.out _ _ (bat_block HF.out.b3) (fun hHeld => ?_)
        clear hK K
        (try simp only [Act.put, List.getElem_toArray, List.getElem_cons_succ, List.getElem_cons_zero, List.setIfInBounds_toArray, List.set_cons_zero, List.set_cons_succ])
        refine wpAnyH_done (by kernel_rfl) ?_ _
        go_wp2_with fail
        go_meet
        exact ⟨q7, q8, g7, c7, g8, c8, rfl, rfl, HF, lg, hleg7, hleg8, lg7, lg8, l37, l38, l78, l8⟩
    · skip
      go_simp
      go_wp2_with fail
      have hg := heap_alloc_new WW (.cells #[.int .i64 0, .int .i64 0, .slice none 0 0] 24)
      have FX52 := Lib.hid (blk_bel X3.out (bel1 WW (.cells #[.int .i64 0, .int .i64 0, .slice none 0 0] 24)))
      have FB52 := Lib.hid (nx B3.out (bel1 WW (.cells #[.int .i64 0, .int .i64 0, .slice none 0 0] 24)))
      clear X3 B3
      refine hK.out _ _ (bat_block FX52.out) (fun hHeld => ?_)
      clear hK K
      (try simp only [Act.put, List.getElem_toArray, List.getElem_cons_succ, List.getElem_cons_zero, List.setIfInBounds_toArray, List.set_cons_zero, List.set_cons_succ])
      obtain ⟨W51, hW⟩ : ∃ Z, Z = WW.alloc (.cells #[.int .i64 0, .int .i64 0, .slice none 0 0] 24) := ⟨_, rfl⟩
      change wpAnyH _ _ _ _ _ _ _ _ (WW.alloc (.cells #[.int .i64 0, .int .i64 0, .slice none 0 0] 24))
      have hz51 := Lib.hid (show W51.heap.size = WW.heap.size + 1 by rw [hW]; simp)
      rw [← hW] at FX52 FB52 hg hHeld ⊢
      obtain ⟨q8, hq51⟩ : ∃ q, q = WW.heap.size := ⟨_, rfl⟩
      rw [← hq51] at hg ⊢
      have hqh51 := Lib.hid hq51
      have FY851 := Lib.hid hg
      clear hg hW hq51
      refine wpAnyH_ready (rs := [1, 4]) (by kernel_rfl) (by simp) ?_
      refine (AllReadyH.cons rfl (fun K hK => ?_) (AllReadyH.cons rfl (fun K hK => ?_) AllReadyH.nil))
      · skip
        go_simp
        go_at_call 8
        refine (refCopy_any (b := b) (w := W51) (HL.out.below FB52.out)).mono ?_
        rintro e W53 ⟨v, rfl, ho, hb⟩
        obtain ⟨g7, c7, ev, hleg7, hcmg7, hbag7, hltg7, htn⟩ := ho.turn (w0 := w) (by rw [← HN.out]; omega) T
        subst ev
        rw [← HN.out] at hleg7 ho ⊢
        have hz53 := hb.size
        have hwz53 := FB52.out.size
        have FX54 := Lib.hid (blk_bel FX52.out hb)
        have FB54 := Lib.hid (nx FB52.out hb)
        have FY854 := Lib.hid (blk_bel FY851.out hb)
        clear FX52 FB52 FY851
        have FN53 := Lib.hid htn
        clear ho htn hb
        go_wp2_with fail
        refine hK.out _ _ (bat_block FX54.out) (fun hHeld => ?_)
        clear hK K
        (try simp only [Act.put, List.getElem_toArray, List.getElem_cons_succ, List.getElem_cons_zero, List.setIfInBounds_toArray, List.set_cons_zero, List.set_cons_succ])
        refine wpAnyH_ready (rs := [3, 4]) (by kernel_rfl) (by simp) ?_
        refine (AllReadyH.cons rfl (fun K hK => ?_) (AllReadyH.cons rfl (fun K hK => ?_) AllReadyH.nil))
        · skip
          go_simp
          go_at_call 8
          refine (refCopy_any (b := b) (w := W53) (HL.out.below FB54.out)).mono ?_
          rintro e W55 ⟨v, rfl, ho, hb⟩
          obtain ⟨g8, c8, ev, hleg8, hcmg8, hbag8, hltg8, htn⟩ := ho.turn (w0 := w) (by rw [← HN.out]; omega) T
          subst ev
          rw [← HN.out] at hleg8 ho ⊢
          have hz55 := hb.size
          have hwz55 := FB54.out.size
          have FX56 := Lib.hid (blk_bel FX54.out hb)
          have FB56 := Lib.hid (nx FB54.out hb)
          have FY856 := Lib.hid (blk_bel FY854.out hb)
          have FN156 := Lib.hid (FN53.out.below hb)
          clear FX54 FB54 FY854 FN53
          have FO55 := Lib.hid (ho.base hwz55 (by omega))
          clear ho htn hb
          go_wp2_with fail
          refine hK.out _ _ (bat_block FX56.out) (fun hHeld => ?_)
          clear hK K
          (try simp only [Act.put, List.getElem_toArray, List.getElem_cons_succ, List.getElem_cons_zero, List.setIfInBounds_toArray, List.set_cons_zero, List.set_cons_succ])
          refine wpAnyH_ready (rs := [4]) (by kernel_rfl) (by simp) ?_
          refine (AllReadyH.cons rfl (fun K hK => ?_) AllReadyH.nil)
          go_simp
          go_wp2_with fail
          have hg := heap_alloc_new W55 (.cells #[.int .i64 0, .int .i64 0, .slice none 0 0] 24)
          have FX58 := Lib.hid (blk_bel FX56.out (bel1 W55 (.cells #[.int .i64 0, .int .i64 0, .slice none 0 0] 24)))
          have FB58 := Lib.hid (nx FB56.out (bel1 W55 (.cells #[.int .i64 0, .int .i64 0, .slice none 0 0] 24)))
          have FY858 := Lib.hid (blk_bel FY856.out (bel1 W55 (.cells #[.int .i64 0, .int .i64 0, .slice none 0 0] 24)))
          have FN158 := Lib.hid (FN156.out.below (bel1 W55 (.cells #[.int .i64 0, .int .i64 0, .slice none 0 0] 24)))
          have FO358 := Lib.hid (FO55.out.below (bel1 W55 (.cells #[.int .i64 0, .int .i64 0, .slice none 0 0] 24)))
          clear FX56 FB56 FY856 FN156 FO55
          refine hK.out _ _ (bat_block FX58.out) (fun hHeld => ?_)
          clear hK K
          (try simp only [Act.put, List.getElem_toArray, List.getElem_cons_succ, List.getElem_cons_zero, List.setIfInBounds_toArray, List.set_cons_zero, List.set_cons_succ])
          obtain ⟨W57, hW⟩ : ∃ Z, Z = W55.alloc (.cells #[.int .i64 0, .int .i64 0, .slice none 0 0] 24) := ⟨_, rfl⟩
          change wpAnyH _ _ _ _ _ _ _ _ (W55.alloc (.cells #[.int .i64 0, .int .i64 0, .slice none 0 0] 24))
          have hz57 := Lib.hid (show W57.heap.size = W55.heap.size + 1 by rw [hW]; simp)
          rw [← hW] at FX58 FB58 FY858 FN158 FO358 hg hHeld ⊢
          obtain ⟨q7, hq57⟩ : ∃ q, q = W55.heap.size := ⟨_, rfl⟩
          rw [← hq57] at hg ⊢
          have hqh57 := Lib.hid hq57
          have FY757 := Lib.hid hg
          clear hg hW hq57
          refine wpAnyH_ready (rs := [6]) (by kernel_rfl) (by simp) ?_
          refine AllReadyH.cons rfl (fun K hK => ?_) AllReadyH.nil
          have e_HQ3 := HQ3.out
          have e_hz51 := hz51.out
          have e_hqh51 := hqh51.out
          have e_hz57 := hz57.out
          have e_hqh57 := hqh57.out
          have l38 : q3 ≠ q8 := by omega
          have l37 : q3 ≠ q7 := by omega
          have l78 : q7 ≠ q8 := by omega
          have l7 : w.heap.size ≤ q7 := by omega
          have l8 : w.heap.size ≤ q8 := by omega
          have lg : g7 ≠ g8 := by omega
          have lg7 : w.heap.size ≤ g7 := by omega
          have lg8 : w.heap.size ≤ g8 := by omega
          clear e_HQ3 e_hz51 e_hqh51 e_hz57 e_hqh57
          have HF := Lib.hid (LsW.start FB58.out FX58.out FY757.out FY858.out FN158.out FO358.out l37 l38 l78 l7 l8)
          have y0 := cell_of FY757.out 0
          have y1 := cell_of FY757.out 1
          have y2 := cell_of FY757.out 2
          have u0 := frozen_of FY757.out 0
          have u1 := frozen_of FY757.out 1
          have u2 := frozen_of FY757.out 2
          have z0 := cell_of FY858.out 0
          have z1 := cell_of FY858.out 1
          have z2 := cell_of FY858.out 2
          have v0 := frozen_of FY858.out 0
          have v1 := frozen_of FY858.out 1
          have v2 := frozen_of FY858.out 2
          simp at y0 y1 y2 z0 z1 z2
          go_simp
          go_wp2_with fail
          refine hK.out _ _ (bat_block (((Below.heap_setCell _ ⟨q7, 2, none⟩ _ q3 l37).trans ((Below.heap_setCell _ ⟨q7, 1, none⟩ _ q3 l37).trans ((Below.heap_setCell _ ⟨q7, 0, none⟩ _ q3 l37).trans FX58.out))))) (fun hHeld => ?_)
          clear hK K
          (try simp only [Act.put, List.getElem_toArray, List.getElem_cons_succ, List.getElem_cons_zero, List.setIfInBounds_toArray, List.set_cons_zero, List.set_cons_succ])
          refine wpAnyH_ready (rs := [7]) (by kernel_rfl) (by simp) ?_
          refine AllReadyH.cons rfl (fun K hK => ?_) AllReadyH.nil
          go_simp
          go_wp2_with fail
          refine hK.out _ _ (bat_block HF.out.b3) (fun hHeld => ?_)
          clear hK K
          (try simp only [Act.put, List.getElem_toArray, List.getElem_cons_succ, List.getElem_cons_zero, List.setIfInBounds_toArray, List.set_cons_zero, List.set_cons_succ])
          refine wpAnyH_done (by kernel_rfl) ?_ _
          go_wp2_with fail
          go_meet
          exact ⟨q7, q8, g7, c7, g8, c8, rfl, rfl, HF, lg, hleg7, hleg8, lg7, lg8, l37, l38, l78, l8⟩
        · skip
          go_simp
          go_wp2_with fail
          have hg := heap_alloc_new W53 (.cells #[.int .i64 0, .int .i64 0, .slice none 0 0] 24)
          have FX60 := Lib.hid (blk_bel FX54.out (bel1 W53 (.cells #[.int .i64 0, .int .i64 0, .slice none 0 0] 24)))
          have FB60 := Lib.hid (nx FB54.out (bel1 W53 (.cells #[.int .i64 0, .int .i64 0, .slice none 0 0] 24)))
          have FY860 := Lib.hid (blk_bel FY854.out (bel1 W53 (.cells #[.int .i64 0, .int .i64 0, .slice none 0 0] 24)))
          have FN160 := Lib.hid (FN53.out.below (bel1 W53 (.cells #[.int .i64 0, .int .i64 0, .slice none 0 0] 24)))
          clear FX54 FB54 FY854 FN53
          refine hK.out _ _ (bat_block FX60.out) (fun hHeld => ?_)
          clear hK K
          (try simp only [Act.put, List.getElem_toArray, List.getElem_cons_succ, List.getElem_cons_zero, List.setIfInBounds_toArray, List.set_cons_zero, List.set_cons_succ])
          obtain ⟨W59, hW⟩ : ∃ Z, Z = W53.alloc (.cells #[.int .i64 0, .int .i64 0, .slice none 0 0] 24) := ⟨_, rfl⟩
          change wpAnyH _ _ _ _ _ _ _ _ (W53.alloc (.cells #[.int .i64 0, .int .i64 0, .slice none 0 0] 24))
          have hz59 := Lib.hid (show W59.heap.size = W53.heap.size + 1 by rw [hW]; simp)
          rw [← hW] at FX60 FB60 FY860 FN160 hg hHeld ⊢
          obtain ⟨q7, hq59⟩ : ∃ q, q = W53.heap.size := ⟨_, rfl⟩
          rw [← hq59] at hg ⊢
          have hqh59 := Lib.hid hq59
          have FY759 := Lib.hid hg
          clear hg hW hq59
          refine wpAnyH_ready (rs := [3]) (by kernel_rfl) (by simp) ?_
          refine (AllReadyH.cons rfl (fun K hK => ?_) AllReadyH.nil)
          go_simp
          go_at_call 8
          refine (refCopy_any (b := b) (w := W59) (HL.out.below FB60.out)).mono ?_
          rintro e W61 ⟨v, rfl, ho, hb⟩
          obtain ⟨g8, c8, ev, hleg8, hcmg8, hbag8, hltg8, htn⟩ := ho.turn (w0 := w) (by rw [← HN.out]; omega) T
          subst ev
          rw [← HN.out] at hleg8 ho ⊢
          have hz61 := hb.size
          have hwz61 := FB60.out.size
          have FX62 := Lib.hid (blk_bel FX60.out hb)
          have FB62 := Lib.hid (nx FB60.out hb)
          have FY862 := Lib.hid (blk_bel FY860.out hb)
          have FN162 := Lib.hid (FN160.out.below hb)
          have FY762 := Lib.hid (blk_bel FY759.out hb)
          clear FX60 FB60 FY860 FN160 FY759
          have FO61 := Lib.hid (ho.base hwz61 (by omega))
          clear ho htn hb
          go_wp2_with fail
          refine hK.out _ _ (bat_block FX62.out) (fun hHeld => ?_)
          clear hK K
          (try simp only [Act.put, List.getElem_toArray, List.getElem_cons_succ, List.getElem_cons_zero, List.setIfInBounds_toArray, List.set_cons_zero, List.set_cons_succ])
          refine wpAnyH_ready (rs := [6]) (by kernel_rfl) (by simp) ?_
          refine AllReadyH.cons rfl (fun K hK => ?_) AllReadyH.nil
          have e_HQ3 := HQ3.out
          have e_hz51 := hz51.out
          have e_hqh51 := hqh51.out
          have e_hz59 := hz59.out
          have e_hqh59 := hqh59.out
          have l38 : q3 ≠ q8 := by omega
          have l37 : q3 ≠ q7 := by omega
          have l78 : q7 ≠ q8 := by omega
          have l7 : w.heap.size ≤ q7 := by omega
          have l8 : w.heap.size ≤ q8 := by omega
          have lg : g7 ≠ g8 := by omega
          have lg7 : w.heap.size ≤ g7 := by omega
          have lg8 : w.heap.size ≤ g8 := by omega
          clear e_HQ3 e_hz51 e_hqh51 e_hz59 e_hqh59
          have HF := Lib.hid (LsW.start FB62.out FX62.out FY762.out FY862.out FN162.out FO61.out l37 l38 l78 l7 l8)
          have y0 := cell_of FY762.out 0
          have y1 := cell_of FY762.out 1
          have y2 := cell_of FY762.out 2
          have u0 := frozen_of FY762.out 0
          have u1 := frozen_of FY762.out 1
          have u2 := frozen_of FY762.out 2
          have z0 := cell_of FY862.out 0
          have z1 := cell_of FY862.out 1
          have z2 := cell_of FY862.out 2
          have v0 := frozen_of FY862.out 0
          have v1 := frozen_of FY862.out 1
          have v2 := frozen_of FY862.out 2
          simp at y0 y1 y2 z0 z1 z2
          go_simp
          go_wp2_with fail
          refine hK.out _ _ (bat_block (((Below.heap_setCell _ ⟨q7, 2, none⟩ _ q3 l37).trans ((Below.heap_setCell _ ⟨q7, 1, none⟩ _ q3 l37).trans ((Below.heap_setCell _ ⟨q7, 0, none⟩ _ q3 l37).trans FX62.out))))) (fun hHeld => ?_)
          clear hK K
          (try simp only [Act.put, List.getElem_toArray, List.getElem_cons_succ, List.getElem_cons_zero, List.setIfInBounds_toArray, List.set_cons_zero, List.set_cons_succ])
          refine wpAnyH_ready (rs := [7]) (by kernel_rfl) (by simp) ?_
          refine AllReadyH.cons rfl (fun K hK => ?_) AllReadyH.nil
          go_simp
          go_wp2_with fail
          refine hK.out _ _ (bat_block HF.out.b3) (fun hHeld => ?_)
          clear hK K
          (try simp only [Act.put, List.getElem_toArray, List.getElem_cons_succ, List.getElem_cons_zero, List.setIfInBounds_toArray, List.set_cons_zero, List.set_cons_succ])
          refine wpAnyH_done (by kernel_rfl) ?_ _
          go_wp2_with fail
          go_meet
          exact ⟨q7, q8, g7, c7, g8, c8, rfl, rfl, HF, lg, hleg7, hleg8, lg7, lg8, l37, l38, l78, l8⟩
      · skip
        go_simp
        go_wp2_with fail
        have hg := heap_alloc_new W51 (.cells #[.int .i64 0, .int .i64 0, .slice none 0 0] 24)
        have FX64 := Lib.hid (blk_bel FX52.out (bel1 W51 (.cells #[.int .i64 0, .int .i64 0, .slice none 0 0] 24)))
        have FB64 := Lib.hid (nx FB52.out (bel1 W51 (.cells #[.int .i64 0, .int .i64 0, .slice none 0 0] 24)))
        have FY864 := Lib.hid (blk_bel FY851.out (bel1 W51 (.cells #[.int .i64 0, .int .i64 0, .slice none 0 0] 24)))
        clear FX52 FB52 FY851
        refine hK.out _ _ (bat_block FX64.out) (fun hHeld => ?_)
        clear hK K
        (try simp only [Act.put, List.getElem_toArray, List.getElem_cons_succ, List.getElem_cons_zero, List.setIfInBounds_toArray, List.set_cons_zero, List.set_cons_succ])
        obtain ⟨W63, hW⟩ : ∃ Z, Z = W51.alloc (.cells #[.int .i64 0, .int .i64 0, .slice none 0 0] 24) := ⟨_, rfl⟩
        change wpAnyH _ _ _ _ _ _ _ _ (W51.alloc (.cells #[.int .i64 0, .int .i64 0, .slice none 0 0] 24))
        have hz63 := Lib.hid (show W63.heap.size = W51.heap.size + 1 by rw [hW]; simp)
        rw [← hW] at FX64 FB64 FY864 hg hHeld ⊢
        obtain ⟨q7, hq63⟩ : ∃ q, q = W51.heap.size := ⟨_, rfl⟩
        rw [← hq63] at hg ⊢
        have hqh63 := Lib.hid hq63
        have FY763 := Lib.hid hg
        clear hg hW hq63
        refine wpAnyH_ready (rs := [1]) (by kernel_rfl) (by simp) ?_
        refine (AllReadyH.cons rfl (fun K hK => ?_) AllReadyH.nil)
        go_simp
        go_at_call 8
        refine (refCopy_any (b := b) (w := W63) (HL.out.below FB64.out)).mono ?_
        rintro e W65 ⟨v, rfl, ho, hb⟩
        obtain ⟨g7, c7, ev, hleg7, hcmg7, hbag7, hltg7, htn⟩ := ho.turn (w0 := w) (by rw [← HN.out]; omega) T
        subst ev
        rw [← HN.out] at hleg7 ho ⊢
        have hz65 := hb.size
        have hwz65 := FB64.out.size
        have FX66 := Lib.hid (blk_bel FX64.out hb)
        have FB66 := Lib.hid (nx FB64.out hb)
        have FY866 := Lib.hid (blk_bel FY864.out hb)
        have FY766 := Lib.hid (blk_bel FY763.out hb)
        clear FX64 FB64 FY864 FY763
        have FN65 := Lib.hid htn
        clear ho htn hb
        go_wp2_with fail
        refine hK.out _ _ (bat_block FX66.out) (fun hHeld => ?_)
        clear hK K
        (try simp only [Act.put, List.getElem_toArray, List.getElem_cons_succ, List.getElem_cons_zero, List.setIfInBounds_toArray, List.set_cons_zero, List.set_cons_succ])
        refine wpAnyH_ready (rs := [3]) (by kernel_rfl) (by simp) ?_
        refine (AllReadyH.cons rfl (fun K hK => ?_) AllReadyH.nil)
        go_simp
        go_at_call 8
        refine (refCopy_any (b := b) (w := W65) (HL.out.below FB66.out)).mono ?_
        rintro e W67 ⟨v, rfl, ho, hb⟩
        obtain ⟨g8, c8, ev, hleg8, hcmg8, hbag8, hltg8, htn⟩ := ho.turn (w0 := w) (by rw [← HN.out]; omega) T
        subst ev
        rw [← HN.out] at hleg8 ho ⊢
        have hz67 := hb.size
        have hwz67 := FB66.out.size
        have FX68 := Lib.hid (blk_bel FX66.out hb)
        have FB68 := Lib.hid (nx FB66.out hb)
        have FY868 := Lib.hid (blk_bel FY866.out hb)
        have FY768 := Lib.hid (blk_bel FY766.out hb)
        have FN168 := Lib.hid (FN65.out.below hb)
        clear FX66 FB66 FY866 FY766 FN65
        have FO67 := Lib.hid (ho.base hwz67 (by omega))
        clear ho htn hb
        go_wp2_with fail
        refine hK.out _ _ (bat_block FX68.out) (fun hHeld => ?_)
        clear hK K
        (try simp only [Act.put, List.getElem_toArray, List.getElem_cons_succ, List.getElem_cons_zero, List.setIfInBounds_toArray, List.set_cons_zero, List.set_cons_succ])
        refine wpAnyH_ready (rs := [6]) (by kernel_rfl) (by simp) ?_
        refine AllReadyH.cons rfl (fun K hK => ?_) AllReadyH.nil
        have e_HQ3 := HQ3.out
        have e_hz51 := hz51.out
        have e_hqh51 := hqh51.out
        have e_hz63 := hz63.out
        have e_hqh63 := hqh63.out
        have l38 : q3 ≠ q8 := by omega
        have l37 : q3 ≠ q7 := by omega
        have l78 : q7 ≠ q8 := by omega
        have l7 : w.heap.size ≤ q7 := by omega
        have l8 : w.heap.size ≤ q8 := by omega
        have lg : g7 ≠ g8 := by omega
        have lg7 : w.heap.size ≤ g7 := by omega
        have lg8 : w.heap.size ≤ g8 := by omega
        clear e_HQ3 e_hz51 e_hqh51 e_hz63 e_hqh63
        have HF := Lib.hid (LsW.start FB68.out FX68.out FY768.out FY868.out FN168.out FO67.out l37 l38 l78 l7 l8)
        have y0 := cell_of FY768.out 0
        have y1 := cell_of FY768.out 1
        have y2 := cell_of FY768.out 2
        have u0 := frozen_of FY768.out 0
        have u1 := frozen_of FY768.out 1
        have u2 := frozen_of FY768.out 2
        have z0 := cell_of FY868.out 0
        have z1 := cell_of FY868.out 1
        have z2 := cell_of FY868.out 2
        have v0 := frozen_of FY868.out 0
        have v1 := frozen_of FY868.out 1
        have v2 := frozen_of FY868.out 2
        simp at y0 y1 y2 z0 z1 z2
        go_simp
        go_wp2_with fail
        refine hK.out _ _ (bat_block (((Below.heap_setCell _ ⟨q7, 2, none⟩ _ q3 l37).trans ((Below.heap_setCell _ ⟨q7, 1, none⟩ _ q3 l37).trans ((Below.heap_setCell _ ⟨q7, 0, none⟩ _ q3 l37).trans FX68.out))))) (fun hHeld => ?_)
        clear hK K
        (try simp only [Act.put, List.getElem_toArray, List.getElem_cons_succ, List.getElem_cons_zero, List.setIfInBounds_toArray, List.set_cons_zero, List.set_cons_succ])
        refine wpAnyH_ready (rs := [7]) (by kernel_rfl) (by simp) ?_
        refine AllReadyH.cons rfl (fun K hK => ?_) AllReadyH.nil
        go_simp
        go_wp2_with fail
        refine hK.out _ _ (bat_block HF.out.b3) (fun hHeld => ?_)
        clear hK K
        (try simp only [Act.put, List.getElem_toArray, List.getElem_cons_succ, List.getElem_cons_zero, List.setIfInBounds_toArray, List.set_cons_zero, List.set_cons_succ])
        refine wpAnyH_done (by kernel_rfl) ?_ _
        go_wp2_with fail
        go_meet
        exact ⟨q7, q8, g7, c7, g8, c8, rfl, rfl, HF, lg, hleg7, hleg8, lg7, lg8, l37, l38, l78, l8⟩
  case rest =>
    clear X3 B3 X2
    obtain ⟨q7, q8, g7, c7, g8, c8, rfl, rfl, HF, lg, hc7, hc8, lg7, lg8, l37, l38, l78, l8⟩ := hcut
    obtain ⟨d0, d1, d2⟩ := bat_block HF.out.b3
    go_wp2_with fail
    clear d0 d1 d2
    go_loopw [10] (fun i wr => ∃ j : Nat, i = .int .i64 j ∧ j ≤ n ∧ Hid (LsW b w wr q3 q7 q8 (some ⟨gb, ob, none⟩) n c g7 c7 (.slice (some ⟨g8, 0, none⟩) n c8) b.sp T j)) (fun i _ => n - (intOf i).toNat)
    case atStart => exact ⟨0, rfl, Nat.zero_le _, HF⟩
    case round =>
      clear HF
      obtain ⟨j, rfl, hj, HF⟩ := hrel
      by_cases hlt : j < n
      · have hl1 : j < b.sp.length := by rw [← HN.out]; exact hlt
        have hlti : (j : Int) < (n : Int) := by omega
        obtain ⟨P, m, d, hA, y0, y1, y2, y3, y4, y5, y6, y7, y8⟩ := HL.out.at2 HF.out.bw hl1
        have haa : (⟨gb, ob, none⟩ : Addr).add (j * 9) = ⟨gb, ob + j * 9, none⟩ := addr_add _ _ _
        obtain ⟨d0, d1, d2⟩ := bat_block HF.out.b3
        have HAS := Lib.hid (hA.below HF.out.bw)
        have HCK := Lib.hid (chkS_yes (HOK.out.1.sp _ (List.getElem_mem hl1)))
        clear hA
        go_wp2_with fail
        refine (checkSpan_any (s := b.sp[j]) HAS.out).mono ?_
        rintro e wa ⟨rfl, hba⟩
        rw [HCK.out]
        have HF2 := Lib.hid (HF.out.below hba)
        clear HF hba HAS HCK y0 y1 y2 y3 y4 y5 y6 y7 y8 d0 d1 d2 haa
        go_upto_region 12 with (fail)
        have HF3 := Lib.hid (HF2.out.below (bel0 wa).drew)
        obtain ⟨wd, hwd⟩ : ∃ W, W = wa.drew := ⟨_, rfl⟩
        have HWD := Lib.hid hwd
        rw [← hwd] at HF3
        clear hwd HF2
        obtain ⟨p, hp⟩ : ∃ p, p = (j + r) % n := ⟨_, rfl⟩
        have hpn : p < n := by rw [hp]; exact Nat.mod_lt _ (by omega)
        have hpl : p < b.sp.length := by rw [← HN.out]; exact hpn
        have hpi : (p : Int) < (n : Int) := by omega
        have hjT : j < T.length := by rw [HTL.out]; exact hlt
        have HTJ := Lib.hid (show T[j] = b.sp[p] by
          have h := turnL_get (l := b.sp) (r := r) (i := j) (by rw [← HN.out]; exact hrn) hl1
          simp only [← HT.out, ← HN.out, ← hp] at h
          exact h)
        obtain ⟨P, m, d, hA, y0, y1, y2, y3, y4, y5, y6, y7, y8⟩ := HL.out.at2 (bel0 w) hpl
        have KP := Lib.hid (show ∀ W : World, Below w.heap.size w W → (W.cell? ⟨gb, ob + p * 9, none⟩ = some (.int .i64 b.sp[p].tr) ∧ W.cell? ⟨gb, ob + p * 9 + 1, none⟩ = some (.int .i64 b.sp[p].id) ∧ W.cell? ⟨gb, ob + p * 9 + 2, none⟩ = some (.int .i64 b.sp[p].pa) ∧ W.cell? ⟨gb, ob + p * 9 + 3, none⟩ = some (.string b.sp[p].sv) ∧ W.cell? ⟨gb, ob + p * 9 + 4, none⟩ = some (.string b.sp[p].op) ∧ W.cell? ⟨gb, ob + p * 9 + 5, none⟩ = some (.int .i64 b.sp[p].st) ∧ W.cell? ⟨gb, ob + p * 9 + 6, none⟩ = some (.int .i64 b.sp[p].ln) ∧ W.cell? ⟨gb, ob + p * 9 + 7, none⟩ = some (.string b.sp[p].sj) ∧ W.cell? ⟨gb, ob + p * 9 + 8, none⟩ = some (.slice P m d)) from fun W hb => ⟨cell_belB hb y0, cell_belB hb y1, cell_belB hb y2, cell_belB hb y3, cell_belB hb y4, cell_belB hb y5, cell_belB hb y6, cell_belB hb y7, cell_belB hb y8⟩)
        clear y0 y1 y2 y3 y4 y5 y6 y7 y8
        have haa : (⟨gb, ob, none⟩ : Addr).add (p * 9) = ⟨gb, ob + p * 9, none⟩ := addr_add _ _ _
        have hag : (⟨g7, 0, none⟩ : Addr).add (j * 9) = ⟨g7, j * 9, none⟩ := by rw [addr_add, Nat.zero_add]
        have HP := Lib.hid hp
        have HA := Lib.hid hA
        have hw1 : IntKind.i64.wrap ((j : Int) + (r : Int)) = ((j + r : Nat) : Int) := by rw [IntKind.wrap_i64]; omega
        have hw2 : Int.tmod ((j : Int) + (r : Int)) (n : Int) = (p : Int) := by rw [HP.out]; rfl
        have hnz : ¬ n = 0 := by omega
        clear hp hA
        refine wp_region_held_drew (S := (fun w' => (w'.cell? ⟨gb, ob + p * 9, none⟩ = some (.int .i64 b.sp[p].tr) ∧ w'.cell? ⟨gb, ob + p * 9 + 1, none⟩ = some (.int .i64 b.sp[p].id) ∧ w'.cell? ⟨gb, ob + p * 9 + 2, none⟩ = some (.int .i64 b.sp[p].pa) ∧ w'.cell? ⟨gb, ob + p * 9 + 3, none⟩ = some (.string b.sp[p].sv) ∧ w'.cell? ⟨gb, ob + p * 9 + 4, none⟩ = some (.string b.sp[p].op) ∧ w'.cell? ⟨gb, ob + p * 9 + 5, none⟩ = some (.int .i64 b.sp[p].st) ∧ w'.cell? ⟨gb, ob + p * 9 + 6, none⟩ = some (.int .i64 b.sp[p].ln) ∧ w'.cell? ⟨gb, ob + p * 9 + 7, none⟩ = some (.string b.sp[p].sj) ∧ w'.cell? ⟨gb, ob + p * 9 + 8, none⟩ = some (.slice P m d)) ∧ w'.cell? ⟨q3, 2, none⟩ = some (.slice (some ⟨gb, ob, none⟩) n c) ∧ w'.cell? ⟨q7, 2, none⟩ = some (.slice (some ⟨g7, 0, none⟩) n c7))) (by kernel_rfl) (by rw [← HWD.out]; exact ⟨KP.out _ HF3.out.bw, (bat_block HF3.out.b3).2.2, (bat_block HF3.out.b7).2.2⟩) (fun hHeld => ?_)
        rw [← HWD.out] at hHeld ⊢
        refine' take_val (i := 0) (d := 45) (v := _) rfl rfl (by kernel_rfl) (by kernel_rfl) (by kernel_rfl) (fun _ _ _ h => h) (by rfl) ?_ (by assumption) ?_
        rotate_left
        · (intro w hSw; (try dsimp only at hSw); go_simp; (try with_reducible rfl))
        (try simp only [Act.put, List.setIfInBounds_toArray, List.set_cons_zero, List.set_cons_succ])
        refine' take_val (i := 1) (d := 46) (v := _) rfl rfl (by kernel_rfl) (by kernel_rfl) (by kernel_rfl) (fun _ _ _ h => h) (by rfl) ?_ (by assumption) ?_
        rotate_left
        · (intro w hSw; (try dsimp only at hSw); go_simp; (try with_reducible rfl))
        (try simp only [Act.put, List.setIfInBounds_toArray, List.set_cons_zero, List.set_cons_succ])
        refine' take_val (i := 2) (d := 47) (v := _) rfl rfl (by kernel_rfl) (by kernel_rfl) (by kernel_rfl) (fun _ _ _ h => h) (by rfl) ?_ (by assumption) ?_
        rotate_left
        · (intro w hSw; (try dsimp only at hSw); go_simp; (try with_reducible rfl))
        (try simp only [Act.put, List.setIfInBounds_toArray, List.set_cons_zero, List.set_cons_succ])
        refine' take_val (i := 3) (d := 48) (v := _) rfl rfl (by kernel_rfl) (by kernel_rfl) (by kernel_rfl) (fun _ _ _ h => h) (by rfl) ?_ (by assumption) ?_
        rotate_left
        · (intro w hSw; (try dsimp only at hSw); go_simp; (try with_reducible rfl))
        (try simp only [Act.put, List.setIfInBounds_toArray, List.set_cons_zero, List.set_cons_succ])
        refine' take_val (i := 4) (d := 49) (v := _) rfl rfl (by kernel_rfl) (by kernel_rfl) (by kernel_rfl) (fun _ _ _ h => h) (by rfl) ?_ (by assumption) ?_
        rotate_left
        · (intro w hSw; (try dsimp only at hSw); go_simp; (try with_reducible rfl))
        (try simp only [Act.put, List.setIfInBounds_toArray, List.set_cons_zero, List.set_cons_succ])
        refine' take_val (i := 5) (d := 50) (v := _) rfl rfl (by kernel_rfl) (by kernel_rfl) (by kernel_rfl) (fun _ _ _ h => h) (by rfl) ?_ (by assumption) ?_
        rotate_left
        · (intro w hSw; (try dsimp only at hSw); go_simp; (try with_reducible rfl))
        (try simp only [Act.put, List.setIfInBounds_toArray, List.set_cons_zero, List.set_cons_succ])
        refine' take_val (i := 6) (d := 51) (v := _) rfl rfl (by kernel_rfl) (by kernel_rfl) (by kernel_rfl) (fun _ _ _ h => h) (by rfl) ?_ (by assumption) ?_
        rotate_left
        · (intro w hSw; (try dsimp only at hSw); go_simp; (try with_reducible rfl))
        (try simp only [Act.put, List.setIfInBounds_toArray, List.set_cons_zero, List.set_cons_succ])
        refine' take_val (i := 7) (d := 52) (v := _) rfl rfl (by kernel_rfl) (by kernel_rfl) (by kernel_rfl) (fun _ _ _ h => h) (by rfl) ?_ (by assumption) ?_
        rotate_left
        · (intro w hSw; (try dsimp only at hSw); go_simp; (try with_reducible rfl))
        (try simp only [Act.put, List.setIfInBounds_toArray, List.set_cons_zero, List.set_cons_succ])
        refine' take_val (i := 10) (d := 55) (v := _) rfl rfl (by kernel_rfl) (by kernel_rfl) (by kernel_rfl) (fun _ _ _ h => h) (by rfl) ?_ (by assumption) ?_
        rotate_left
        · (intro w hSw; (try dsimp only at hSw); go_simp; (try with_reducible rfl))
        (try simp only [Act.put, List.setIfInBounds_toArray, List.set_cons_zero, List.set_cons_succ])
        refine wpAnyH_ready (rs := [8]) (by kernel_rfl) (by simp) ?_
        refine AllReadyH.cons rfl (fun K hK => ?_) AllReadyH.nil
        go_simp
        go_at_call 10
        refine (bring_any _ _ _ hy.1 hy.2 (by go_num) (by go_num)).mono ?_
        rintro e w2 ⟨rfl, rfl⟩
        rw [hr]
        go_wp2_with fail
        refine hK.out _ _ ⟨KP.out _ HF3.out.bw, (bat_block HF3.out.b3).2.2, (bat_block HF3.out.b7).2.2⟩ (fun hHeld => ?_)
        clear hK K
        (try simp only [Act.put, List.setIfInBounds_toArray, List.set_cons_zero, List.set_cons_succ])
        refine' take_val (i := 9) (d := 54) (v := .int .i64 ((j + r : Nat) : Int)) rfl rfl (by kernel_rfl) (by kernel_rfl) (by kernel_rfl) (fun _ _ _ h => h) (by rfl) ?_ (by assumption) ?_
        · (intro w hSw; (try dsimp only at hSw); go_simp; (try with_reducible rfl))
        (try simp only [Act.put, List.setIfInBounds_toArray, List.set_cons_zero, List.set_cons_succ])
        refine' take_val (i := 11) (d := 56) (v := .int .i64 (p : Int)) rfl rfl (by kernel_rfl) (by kernel_rfl) (by kernel_rfl) (fun _ _ _ h => h) (by rfl) ?_ (by assumption) ?_
        · (intro w hSw; (try dsimp only at hSw); go_simp; (try with_reducible rfl))
        (try simp only [Act.put, List.setIfInBounds_toArray, List.set_cons_zero, List.set_cons_succ])
        refine' take_val (i := 12) (d := 57) (v := _) rfl rfl (by kernel_rfl) (by kernel_rfl) (by kernel_rfl) (fun _ _ _ h => h) (by rfl) ?_ (by assumption) ?_
        rotate_left
        · (intro w hSw; (try dsimp only at hSw); go_simp; (try with_reducible rfl))
        (try simp only [Act.put, List.setIfInBounds_toArray, List.set_cons_zero, List.set_cons_succ])
        refine' take_val (i := 13) (d := 58) (v := _) rfl rfl (by kernel_rfl) (by kernel_rfl) (by kernel_rfl) (fun _ _ _ h => h) (by rfl) ?_ (by assumption) ?_
        rotate_left
        · (intro w hSw; (try dsimp only at hSw); go_simp; (try with_reducible rfl))
        (try simp only [Act.put, List.setIfInBounds_toArray, List.set_cons_zero, List.set_cons_succ])
        refine' take_val (i := 14) (d := 59) (v := _) rfl rfl (by kernel_rfl) (by kernel_rfl) (by kernel_rfl) (fun _ _ _ h => h) (by rfl) ?_ (by assumption) ?_
        rotate_left
        · (intro w hSw; (try dsimp only at hSw); go_simp; (try with_reducible rfl))
        (try simp only [Act.put, List.setIfInBounds_toArray, List.set_cons_zero, List.set_cons_succ])
        refine wpAnyH_ready (rs := [15]) (by kernel_rfl) (by simp) ?_
        refine AllReadyH.cons rfl (fun K hK => ?_) AllReadyH.nil
        rw [if_pos (by kernel_rfl)]
        refine wp_store_mid 32 _ _ rfl g7 (j * 9) #[.int .i64 b.sp[p].tr, .int .i64 b.sp[p].id, .int .i64 b.sp[p].pa, .string b.sp[p].sv, .string b.sp[p].op, .int .i64 b.sp[p].st, .int .i64 b.sp[p].ln, .string b.sp[p].sj, .slice P m d] rfl rfl (HF3.out.tn.there (by omega)) infoSpB (all_oneCell_toArray (by intro v hv; simp at hv; rcases hv with rfl | rfl | rfl | rfl | rfl | rfl | rfl | rfl | rfl <;> rfl)) ?_
        have HF4 := Lib.hid (HF3.out.store lg7 hjT (by rw [HTL.out]; exact hc7) (P := P) (m := m) (d := d) (by rw [HTJ.out]; exact HA.out) (by intro e; injection e with e; exact lg e.symm))
        rw [show T[j].cells (.slice P m d) = [.int .i64 b.sp[p].tr, .int .i64 b.sp[p].id, .int .i64 b.sp[p].pa, .string b.sp[p].sv, .string b.sp[p].op, .int .i64 b.sp[p].st, .int .i64 b.sp[p].ln, .string b.sp[p].sj, .slice P m d] by rw [HTJ.out]; rfl] at HF4
        obtain ⟨W4, hW4⟩ : ∃ W, W = wd.setCells g7 (j * 9) [.int .i64 b.sp[p].tr, .int .i64 b.sp[p].id, .int .i64 b.sp[p].pa, .string b.sp[p].sv, .string b.sp[p].op, .int .i64 b.sp[p].st, .int .i64 b.sp[p].ln, .string b.sp[p].sj, .slice P m d] := ⟨_, rfl⟩
        change K _ (wd.setCells g7 (j * 9) [.int .i64 b.sp[p].tr, .int .i64 b.sp[p].id, .int .i64 b.sp[p].pa, .string b.sp[p].sv, .string b.sp[p].op, .int .i64 b.sp[p].st, .int .i64 b.sp[p].ln, .string b.sp[p].sj, .slice P m d])
        rw [← hW4] at HF4 ⊢
        clear hW4
        refine hK.out _ _ ⟨KP.out _ HF4.out.bw, (bat_block HF4.out.b3).2.2, (bat_block HF4.out.b7).2.2⟩ (fun hHeld => ?_)
        clear hK K
        (try simp only [Act.put, List.getElem_toArray, List.getElem_cons_succ, List.getElem_cons_zero, List.setIfInBounds_toArray, List.set_cons_zero, List.set_cons_succ])
        (try simp only [Act.put, List.setIfInBounds_toArray, List.set_cons_zero, List.set_cons_succ])
        refine wpAnyH_done (by kernel_rfl) ?_ _

        go_wp2_with fail
        exact ⟨⟨j + 1, by go_num, by omega, HF4⟩, by simp [intOf]; omega⟩
      · obtain rfl : j = n := by omega
        go_wp2_with fail
        refine (bring_any _ _ _ hx.1 hx.2 (by go_num) (by go_num)).mono ?_
        rintro e w2' ⟨rfl, rfl⟩
        rw [hk]
        go_upto_region 14 with (fail)
        have HF5 := Lib.hid (HF.out.below (bel0 wr).drew)
        obtain ⟨wd, hwd⟩ : ∃ W, W = wr.drew := ⟨_, rfl⟩
        have HWD := Lib.hid hwd
        rw [← hwd] at HF5
        clear hwd HF
        have hkl : k < b.sp.length := by rw [← HN.out]; exact hkn
        have hki : (k : Int) < (j : Int) := by omega
        have hkc : (k : Int) ≤ (c8 : Int) := by omega
        have hk1 : (k : Int) + 1 ≤ (j : Int) := by omega
        have hjc : (j : Int) ≤ (c8 : Int) := by omega
        have hw3 : IntKind.i64.wrap ((k : Int) + 1) = (k : Int) + 1 := by rw [IntKind.wrap_i64]; omega
        have hs1 := Lib.hid (show ∀ W : World, (Instr.slice 22 (.slice (some ⟨g8, 0, none⟩) j c8) none (some (.int .i64 (k : Int))) none).run Try.prog W = .ok (.slice (some ⟨g8, 0, none⟩) k c8) W from fun W => slice_takeSp (by omega))
        have hs2 := Lib.hid (show ∀ W : World, (Instr.slice 22 (.slice (some ⟨g8, 0, none⟩) j c8) (some (.int .i64 ((k : Int) + 1))) none none).run Try.prog W = .ok (.slice (dropS g8 c8 (k + 1)) (j - (k + 1)) (c8 - (k + 1))) W from fun W => by
          rw [show (k : Int) + 1 = ((k + 1 : Nat) : Int) from by omega]
          exact slice_dropSp (by omega) hc8)
        have hHeld := (bat_block HF5.out.b8).2.2
        rw [HWD.out] at hHeld
        refine wp_region_g 11 (fun w' => w'.cell? ⟨q8, 2, none⟩ = some (.slice (some ⟨g8, 0, none⟩) j c8)) (by kernel_rfl) ?_
        refine' g_val (i := 0) (d := 63) (v := _) [9, 3, 1, 0] rfl rfl (by kernel_rfl) (by kernel_rfl) (by kernel_rfl) (by kernel_rfl) (by kernel_rfl) (by kernel_rfl) (fun _ _ _ h => h) (by rfl) ?_ (by assumption) ?_
        rotate_left
        · (intro w hSw; (try dsimp only at hSw); go_simp; (try with_reducible rfl))
        (try simp only [Act.put, List.getElem_toArray, List.getElem_cons_succ, List.getElem_cons_zero, List.setIfInBounds_toArray, List.set_cons_zero, List.set_cons_succ])
        refine' g_val (i := 1) (d := 64) (v := _) [9, 3, 1] rfl rfl (by kernel_rfl) (by kernel_rfl) (by kernel_rfl) (by kernel_rfl) (by kernel_rfl) (by kernel_rfl) (fun _ _ _ h => h) (by rfl) ?_ (by assumption) ?_
        rotate_left
        · (intro w hSw; (try dsimp only at hSw); go_simp; (try with_reducible rfl))
        (try simp only [Act.put, List.getElem_toArray, List.getElem_cons_succ, List.getElem_cons_zero, List.setIfInBounds_toArray, List.set_cons_zero, List.set_cons_succ])
        refine' g_val (i := 2) (d := 65) (v := _) [9, 3, 2] rfl rfl (by kernel_rfl) (by kernel_rfl) (by kernel_rfl) (by kernel_rfl) (by kernel_rfl) (by kernel_rfl) (fun _ _ _ h => h) (by rfl) ?_ (by assumption) ?_
        rotate_left
        · (intro w hSw; (try dsimp only at hSw); go_simp; (try with_reducible rfl))
        (try simp only [Act.put, List.getElem_toArray, List.getElem_cons_succ, List.getElem_cons_zero, List.setIfInBounds_toArray, List.set_cons_zero, List.set_cons_succ])
        refine' g_val (i := 3) (d := 66) (v := .slice (some ⟨g8, 0, none⟩) k c8) [9, 3] rfl rfl (by kernel_rfl) (by kernel_rfl) (by kernel_rfl) (by kernel_rfl) (by kernel_rfl) (by kernel_rfl) (fun _ _ _ h => h) (by rfl) ?_ (by assumption) ?_
        · (intro w hSw; have h1 := hs1.out w; go_simp)
        (try simp only [Act.put, List.getElem_toArray, List.getElem_cons_succ, List.getElem_cons_zero, List.setIfInBounds_toArray, List.set_cons_zero, List.set_cons_succ])
        refine' g_val (i := 4) (d := 67) (v := _) [9, 8, 5, 4] rfl rfl (by kernel_rfl) (by kernel_rfl) (by kernel_rfl) (by kernel_rfl) (by kernel_rfl) (by kernel_rfl) (fun _ _ _ h => h) (by rfl) ?_ (by assumption) ?_
        rotate_left
        · (intro w hSw; (try dsimp only at hSw); go_simp; (try with_reducible rfl))
        (try simp only [Act.put, List.getElem_toArray, List.getElem_cons_succ, List.getElem_cons_zero, List.setIfInBounds_toArray, List.set_cons_zero, List.set_cons_succ])
        refine' g_val (i := 5) (d := 68) (v := _) [9, 8, 5] rfl rfl (by kernel_rfl) (by kernel_rfl) (by kernel_rfl) (by kernel_rfl) (by kernel_rfl) (by kernel_rfl) (fun _ _ _ h => h) (by rfl) ?_ (by assumption) ?_
        rotate_left
        · (intro w hSw; (try dsimp only at hSw); go_simp; (try with_reducible rfl))
        (try simp only [Act.put, List.getElem_toArray, List.getElem_cons_succ, List.getElem_cons_zero, List.setIfInBounds_toArray, List.set_cons_zero, List.set_cons_succ])
        refine' g_val (i := 6) (d := 69) (v := _) [9, 8, 7, 6] rfl rfl (by kernel_rfl) (by kernel_rfl) (by kernel_rfl) (by kernel_rfl) (by kernel_rfl) (by kernel_rfl) (fun _ _ _ h => h) (by rfl) ?_ (by assumption) ?_
        rotate_left
        · (intro w hSw; (try dsimp only at hSw); go_simp; (try with_reducible rfl))
        (try simp only [Act.put, List.getElem_toArray, List.getElem_cons_succ, List.getElem_cons_zero, List.setIfInBounds_toArray, List.set_cons_zero, List.set_cons_succ])
        refine' g_val (i := 7) (d := 70) (v := .int .i64 ((k : Int) + 1)) [9, 8, 7] rfl rfl (by kernel_rfl) (by kernel_rfl) (by kernel_rfl) (by kernel_rfl) (by kernel_rfl) (by kernel_rfl) (fun _ _ _ h => h) (by rfl) ?_ (by assumption) ?_
        · (intro w hSw; (try dsimp only at hSw); go_simp; (try with_reducible rfl))
        (try simp only [Act.put, List.getElem_toArray, List.getElem_cons_succ, List.getElem_cons_zero, List.setIfInBounds_toArray, List.set_cons_zero, List.set_cons_succ])
        refine' g_val (i := 8) (d := 71) (v := .slice (dropS g8 c8 (k + 1)) (j - (k + 1)) (c8 - (k + 1))) [9, 8] rfl rfl (by kernel_rfl) (by kernel_rfl) (by kernel_rfl) (by kernel_rfl) (by kernel_rfl) (by kernel_rfl) (fun _ _ _ h => h) (by rfl) ?_ (by assumption) ?_
        · (intro w hSw; have h1 := hs2.out w; go_simp)
        (try simp only [Act.put, List.getElem_toArray, List.getElem_cons_succ, List.getElem_cons_zero, List.setIfInBounds_toArray, List.set_cons_zero, List.set_cons_succ])
        rw [← HWD.out] at hHeld ⊢
        clear hHeld
        refine wpAnyG_ready (rs := [9]) (by kernel_rfl) (by simp) ?_
        refine AllReadyG.cons rfl (fun K hK => ?_) AllReadyG.nil
        rw [if_pos (by kernel_rfl)]
        refine wp_append_less (.tmp 66) (.tmp 71) rfl w.heap.size g8 c8 k b.sp hkl rfl (by rw [← HN.out]; exact HF5.out.o8) (by rw [← HN.out]; rfl) HLN.out HF5.out.bw.size ?_
        intro v9 w9 ho9 hg9 hb9 hlt9
        obtain ⟨A8, c9', e9⟩ := ho9.len
        obtain ⟨n8, hn8⟩ : ∃ z, z = (lessL b.sp k).length := ⟨_, rfl⟩
        rw [← hn8] at e9
        subst e9
        clear hn8
        obtain ⟨cu8, h8b⟩ : ∃ cur, wd.heap[g8]? = some (.cells cur 32 (0, 0)) := by
          obtain ⟨g', c', e, _, _, _, _, ht⟩ := HF5.out.o8.turn (w0 := w) (by rw [← HN.out]; omega) T
          injection e with e1 e2 e3
          injection e1 with e1
          injection e1 with e1 _ _
          subst e1
          obtain ⟨cur, h, _⟩ := ht.blk
          exact ⟨cur, h⟩
        have HG1 := Lib.hid (HF5.out.less hg9 lg8 ho9 h8b lg).1
        have HG := Lib.hid ((HF5.out.less hg9 lg8 ho9 h8b lg).2 l78 l38 l8)
        clear ho9 hg9 hb9 hlt9 h8b HF5 hs1 hs2 hw3
        refine hK.out _ _ (fun _ => (bat_block HG1.out).2.2) ?_
        clear hK K
        have hHeld := (bat_block HG1.out).2.2
        (try simp only [Act.put, List.getElem_toArray, List.getElem_cons_succ, List.getElem_cons_zero, List.setIfInBounds_toArray, List.set_cons_zero, List.set_cons_succ])
        refine' g_val (i := 10) (d := 73) (v := _) [10] rfl rfl (by kernel_rfl) (by kernel_rfl) (by kernel_rfl) (by kernel_rfl) (by kernel_rfl) (by kernel_rfl) (fun _ _ _ h => h) (by rfl) ?_ (by assumption) ?_
        rotate_left
        · (intro w hSw; (try dsimp only at hSw); go_simp; (try with_reducible rfl))
        (try simp only [Act.put, List.getElem_toArray, List.getElem_cons_succ, List.getElem_cons_zero, List.setIfInBounds_toArray, List.set_cons_zero, List.set_cons_succ])
        clear hHeld
        refine wpAnyG_ready (rs := [11]) (by kernel_rfl) (by simp) ?_
        refine AllReadyG.cons rfl (fun K hK => ?_) AllReadyG.nil
        have f2 := frozen_of HG1.out 2
        have f3 := cell_of HG1.out 2
        simp at f3
        go_simp
        go_wp2_with fail
        refine hK.out _ _ (fun h => absurd h (by simp)) ?_
        clear hK K f2 f3
        (try simp only [Act.put, List.getElem_toArray, List.getElem_cons_succ, List.getElem_cons_zero, List.setIfInBounds_toArray, List.set_cons_zero, List.set_cons_succ])
        refine wpAnyG_done (by kernel_rfl) ?_ _
        clear HG1
        obtain ⟨W6, hW6⟩ : ∃ W, W = w9.setCell ⟨q8, 2, none⟩ (.slice A8 n8 c9') := ⟨_, rfl⟩
        rw [← hW6] at HG ⊢
        clear hW6
        have HLC := Lib.hid (HG.out.tn.ls HG.out.bw HTL.out.symm (by rw [HTL.out]; exact hc7) (by rw [HTL.out]; omega))
        have hHLD := HG.out.o8.ls (fun s hs => HPT.out s (lessL_mem hs)) (fun s hs => HAT.out s (lessL_mem hs)) (by rw [lessL_len _ hkl]; have := HLN.out; omega)
        obtain ⟨A9, n9, c9, e9, hLD⟩ := hHLD
        injection e9 with a1 a2 a3
        subst a1 a2 a3
        have HLD := Lib.hid hLD
        clear hLD
        have HCT := Lib.hid (show (btP { b with sp := T }).2 = 0 by rw [btP_yes (by rw [HT.out]; exact ok_turn HOK.out r)])
        have HCL := Lib.hid (ok_less HOK.out hkl)
        obtain ⟨e0, e1, e2⟩ := bat_block HG.out.b7
        go_wp2_with fail
        refine (batCheck_any (b := { b with sp := T }) HLC.out).mono ?_
        rintro e W7 ⟨rfl, hb7⟩
        rw [HCT.out]
        have HG7 := Lib.hid (HG.out.below hb7)
        have HLD7 := Lib.hid (HLD.out.below hb7)
        clear HG HLD HLC HCT e0 e1 e2 hb7
        obtain ⟨f0, f1, f2⟩ := bat_block HG7.out.b8
        go_wp2_with fail
        refine (batCheck_any (b := { b with sp := lessL b.sp k }) HLD7.out).mono ?_
        rintro e W8 ⟨rfl, hb8⟩
        have hbw8 := nx HG7.out.bw hb8
        by_cases h1n : 1 < j
        · rw [btP_yes (HCL.out.2 (by rw [← HN.out]; exact h1n))]
          have h1i : (1 : Int) < (j : Int) := by omega
          go_wp2_with fail
          go_ret
          exact ⟨rfl, hbw8⟩
        · rw [btP_no (fun h => h1n (by rw [HN.out]; exact HCL.out.1 h))]
          obtain rfl : j = 1 := by omega
          clear h1n
          have h1i : ((1 : Nat) : Int) = 1 := rfl
          go_wp2_with fail
          go_ret
          exact ⟨rfl, hbw8⟩
end Go.Proofs.Ytbhfbpaaghpadaa
