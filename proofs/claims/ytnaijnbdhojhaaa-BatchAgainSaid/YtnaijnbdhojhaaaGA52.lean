/- The walk of the law BatchAgain. No conditions. -/
import Derived.Test.YtnaijnbdhojhaaaGA45
import Derived.Test.YtnaijnbdhojhaaaGA01
set_option linter.unusedSimpArgs false
set_option linter.unusedVariables false
namespace Go.Proofs.Ytnaijnbdhojhaaa
open Go.RowKit

theorem btB_pos (b : Bat) (h : OkC b) : 0 < (btB b).length := by
  have h1 := h.ag
  unfold btB uN
  simp only [List.map_cons, List.flatten_cons, List.length_append]
  have : 0 < (uP b.ag).1.length := by
    unfold uP
    rw [if_pos (by omega)]
    simp only
    rw [Dig.length_enc]
    exact Dig.sz_pos _
  omega
theorem LS.zero (w : World) : LS w none 0 0 noBat.sp := ⟨rfl, Nat.le_refl _, fun _ => rfl, (by intro i hi; exact absurd hi (Nat.not_lt_zero _)), by decide⟩
set_option maxHeartbeats 16000000 in
set_option maxRecDepth 100000 in
theorem batchAgain_walk (A : Option Addr) (c : Nat) (l : List Nat) (x : Nat) (w : World) (hA : BS w A l.length c l) (hx : x < 256) :
    Calls Try.prog 4 #[.slice A l.length c, .int .u8 (x : Int)] w fun e w' => e = .returned (.bool true) ∧ Below w.heap.size w w' := by
  have hlim := hA.lim
  have hle := hA.le
  obtain ⟨n, hnn⟩ : ∃ n, n = l.length := ⟨_, rfl⟩
  have HA := Lib.hid (show BS w A n c l by rw [hnn]; exact hA)
  have HBY := Lib.hid hA.byt
  have HN := Lib.hid hnn
  rw [← hnn] at hlim hle ⊢
  clear hA hnn
  have hb0 := bel0 w
  rcases prB_or l with hp | hp
  · obtain ⟨hok, hl⟩ := prB_yes HBY.out hp
    have hpt := prB_pt l
    have hat := prB_ats l
    have hln := prB_len l
    have hpe : prB l = ((prB l).1, 0) := by rw [← hp]
    generalize (prB l).1 = b at *
    have HMO := Lib.hid (prB_more hok hpt (m := [x]) (by simp))
    rw [← hl] at HMO
    have hpos := btB_pos b hok.1
    rw [← hl, ← HN.out] at hpos
    have h8 : n ≤ 8192 := by have := hok.2; rw [← hl, ← HN.out] at this; exact this
    have hcat : l.take (n - 1) ++ [l[n - 1]'(by rw [← HN.out]; omega)] = l := by
      have e := List.take_succ_eq_append_getElem (l := l) (i := n - 1) (by rw [← HN.out]; omega)
      rw [← e, show n - 1 + 1 = l.length by rw [← HN.out]; omega, List.take_length]
    have HLE := Lib.hid (prB_less (l := l.take (n - 1)) (HBY.out.take _) (x := l[n - 1]'(by rw [← HN.out]; omega)) (by rw [hcat]; exact hp))
    have HPE := Lib.hid hpe
    have HOK := Lib.hid hok
    have HL := Lib.hid hl
    have HPT := Lib.hid hpt
    have HAT := Lib.hid hat
    have HLN := Lib.hid (show b.sp.length ≤ 1256584717421 by omega)
    clear hcat hpe hok hl hpt hat hln hp hb0
    go_enter Try.func4, Try.ntmps4
    go_wp2_with fail
    have L_0 := Lib.hid (HA.out.below (bel0 w))
    refine (works_any _).mono ?_
    rintro e w1 ⟨rfl, hb1⟩
    have L_1 := Lib.hid (L_0.out.below hb1)
    have hbw1 := hb1
    clear L_0
    go_wp2_with fail
    refine (batParse_any L_1.out).mono ?_
    rw [HPE.out]
    intro e w2 hh
    obtain ⟨A2, c2, rfl, hL2, hb2⟩ := hh.open HPT.out HAT.out HLN.out
    have L_2 := Lib.hid (L_1.out.below hb2)
    have hbw2 := nx hbw1 hb2
    clear L_1 hh
    have M_2 := Lib.hid (hL2)
    clear hL2
    generalize hmm : b.sp.length = m at *
    clear hmm
    have hn0 : ((n : Int) == 0) = false := by simp; omega
    go_wp2_with fail
    obtain ⟨W3, hW⟩ : ∃ W, W = w2.alloc (.cells #[.int .i64 b.ag, .int .i64 b.sq, .slice A2 m c2] 26) := ⟨_, rfl⟩
    have hbx : Below w2.heap.size w2 W3 := by rw [hW]; exact bel1 _ _
    have hqx := heap_alloc_new w2 (.cells #[.int .i64 b.ag, .int .i64 b.sq, .slice A2 m c2] 26)
    rw [← hW] at hqx ⊢
    obtain ⟨qy, hqq⟩ : ∃ q, q = w2.heap.size := ⟨_, rfl⟩
    rw [← hqq] at hqx ⊢
    clear hW hqq
    have L_3 := Lib.hid (L_2.out.below hbx)
    have M_3 := Lib.hid (M_2.out.below hbx)
    have hbw3 := nx hbw2 hbx
    clear L_2 M_2
    have y_3 := Lib.hid (hqx)
    clear hqx
    refine (batBytes_any (b := b) M_3.out).mono ?_
    rw [btP_yes HOK.out]
    intro e w4 hh
    obtain ⟨A1, n1, c1, rfl, hB, hb4⟩ := hh.open (btB_byt HOK.out.1 HPT.out) (by have := HOK.out.2; show (btB b).length ≤ _; omega)
    have L_4 := Lib.hid (L_3.out.below hb4)
    have M_4 := Lib.hid (M_3.out.below hb4)
    have y_4 := Lib.hid (blk_below y_3.out hb4)
    have hbw4 := nx hbw3 hb4
    clear L_3 M_3 y_3 hh
    have B_4 := Lib.hid (hB)
    clear hB
    go_wp2_with fail
    refine (copyBytes_any A n c l _ L_4.out).mono ?_
    rintro e wc ⟨v, rfl, ho, hbc⟩
    have hbase := hbc.size
    have HO := Lib.hid (ho.alloc (.cells #[.int .u8 (x : Int)] 5))
    clear ho
    have HX1 := Lib.hid (show BS (wc.alloc (.cells #[.int .u8 (x : Int)] 5)) (some ⟨wc.heap.size, 0, none⟩) 1 1 [x] from BS.alloc wc [x] _ _ (by intro y hy; simp only [List.mem_singleton] at hy; omega) (by simp))
    have hbs : w4.heap.size ≤ (wc.alloc (.cells #[.int .u8 (x : Int)] 5)).heap.size := by rw [World.size_alloc]; omega
    have hbz := hbc.alloc hbase (.cells #[.int .u8 (x : Int)] 5)
    go_wp2_with (at_builtin; refine append_bytes rfl (.tmp 39) (.tmp 41) rfl w4.heap.size v l [x] rfl HO.out (some ⟨wc.heap.size, 0, none⟩) 1 1 rfl HX1.out (by rw [← HN.out]; simp; omega) hbs ?_; intro v6 w5 ho6 hg6 hv6; have hb5 := grown_below hbz hg6 (own_block HO.out); obtain ⟨A6, n6, c6, e6, B6, _⟩ := ownsRow_bs ho6 (HBY.out.append (by intro y hy; simp only [List.mem_singleton] at hy; omega)) (by rw [List.length_append, ← HN.out]; simp; omega); subst e6; have BX := Lib.hid B6; clear ho6 hg6 hv6 B6)
    have L_5 := Lib.hid (L_4.out.below hb5)
    have M_5 := Lib.hid (M_4.out.below hb5)
    have y_5 := Lib.hid (blk_below y_4.out hb5)
    have B_5 := Lib.hid (B_4.out.below hb5)
    have hbw5 := nx hbw4 hb5
    clear L_4 M_4 y_4 B_4
    clear HO HX1 hbs hbz hbc hbase
    refine (batParse_any BX.out).mono ?_
    rw [HMO.out]
    intro e w6 hh
    obtain ⟨A7, c7, rfl, hL7, hb6⟩ := hh.open (by intro s hs; cases hs) (by intro s hs; cases hs) (Nat.zero_le _)
    have L_6 := Lib.hid (L_5.out.below hb6)
    have M_6 := Lib.hid (M_5.out.below hb6)
    have y_6 := Lib.hid (blk_below y_5.out hb6)
    have B_6 := Lib.hid (B_5.out.below hb6)
    have hbw6 := nx hbw5 hb6
    clear L_5 M_5 y_5 B_5 hh BX hL7
    have hn1 : ((n : Int) - 1) = ((n - 1 : Nat) : Int) := by omega
    have HN1 := Lib.hid hn1
    clear hn1
    have hq1 : ∀ w : World, (Instr.slice 22 (.slice A n c) none (some (.int .i64 ((n : Int) - 1))) none).run Try.prog w = .ok (.slice A (n - 1) c) w := fun w => by rw [HN1.out]; exact slice_take (by omega)
    have hy3 : (0 : Int) ≤ (n : Int) - 1 := by omega
    have hy4 : (n : Int) - 1 ≤ (c : Int) := by omega
    go_wp2_with fail
    refine (batParse_any ((L_6.out.cutN (k := n - 1) (by rw [← HN.out]; omega)).below (bel1 _ _))).mono ?_
    rw [HLE.out]
    intro e w7 hh
    obtain ⟨A8, c8, rfl, hL8, hb7⟩ := hh.open (by intro s hs; cases hs) (by intro s hs; cases hs) (Nat.zero_le _)
    have hbx := nx (bel1 w6 (.cells #[.int .i64 noBat.ag, .int .i64 noBat.sq, .slice A7 noBat.sp.length c7] 26)) hb7
    have L_7 := Lib.hid (L_6.out.below hbx)
    have M_7 := Lib.hid (M_6.out.below hbx)
    have y_7 := Lib.hid (blk_below y_6.out hbx)
    have B_7 := Lib.hid (B_6.out.below hbx)
    have hbw7 := nx hbw6 hbx
    clear L_6 M_6 y_6 B_6 hh hL8 hq1 hy3 hy4
    clear hbx
    obtain ⟨d0, d1, d2⟩ := bat_block y_7.out
    have dq := (Array.getElem?_eq_some_iff.1 y_7.out).1
    go_wp2_with fail
    refine (batCheck_any (b := b) (M_7.out.below (bel1 _ _))).mono ?_
    rw [btP_yes HOK.out]
    rintro e w8 ⟨rfl, hb8⟩
    have hbx := nx (bel1 w7 (.cells #[.int .i64 noBat.ag, .int .i64 noBat.sq, .slice A8 noBat.sp.length c8] 26)) hb8
    have L_8 := Lib.hid (L_7.out.below hbx)
    have M_8 := Lib.hid (M_7.out.below hbx)
    have y_8 := Lib.hid (blk_below y_7.out hbx)
    have B_8 := Lib.hid (B_7.out.below hbx)
    have hbw8 := nx hbw7 hbx
    clear L_7 M_7 y_7 B_7
    clear hbx d0 d1 d2 dq
    go_wp2_with fail
    refine (eqBytes_any A1 A n1 c1 n c (btB b) l _ B_8.out L_8.out).mono ?_
    rintro e w9 ⟨rfl, hb9⟩
    rw [decide_eq_true HL.out.symm]
    have L_9 := Lib.hid (L_8.out.below hb9)
    have M_9 := Lib.hid (M_8.out.below hb9)
    have y_9 := Lib.hid (blk_below y_8.out hb9)
    have B_9 := Lib.hid (B_8.out.below hb9)
    have hbw9 := nx hbw8 hb9
    clear L_8 M_8 y_8 B_8
    go_wp2_with fail
    go_ret
    exact ⟨rfl, hbw9⟩
  · have HPE := Lib.hid hp
    clear hp hb0
    go_enter Try.func4, Try.ntmps4
    go_wp2_with fail
    have L_0 := Lib.hid (HA.out.below (bel0 w))
    refine (works_any _).mono ?_
    rintro e w1 ⟨rfl, hb1⟩
    have L_1 := Lib.hid (L_0.out.below hb1)
    have hbw1 := hb1
    clear L_0
    go_wp2_with fail
    refine (batParse_any L_1.out).mono ?_
    rw [HPE.out]
    intro e w2 hh
    obtain ⟨A2, c2, rfl, hL2, hb2⟩ := hh.open (by intro s hs; cases hs) (by intro s hs; cases hs) (Nat.zero_le _)
    have L_2 := Lib.hid (L_1.out.below hb2)
    have hbw2 := nx hbw1 hb2
    clear L_1 hh
    go_wp2_with fail
    refine (refBatSame_any (a := noBat) (b := noBat) (hL2.below (bel1 _ _)) (LS.zero _)).mono ?_
    rintro e w3 ⟨bb, rfl, hbb, hb3⟩
    have hbt := hbb.2 rfl
    subst hbt
    have hbx := nx (bel1 w2 (.cells #[.int .i64 noBat.ag, .int .i64 noBat.sq, .slice A2 noBat.sp.length c2] 26)) hb3
    have L_3 := Lib.hid (L_2.out.below hbx)
    have hbw3 := nx hbw2 hbx
    clear L_2 hbb hL2
    go_wp2_with fail
    go_ret
    exact ⟨rfl, hbw3⟩
end Go.Proofs.Ytnaijnbdhojhaaa
