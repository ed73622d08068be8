/- The walk of the law ValueBack. No conditions. -/
import Derived.Test.YtbbejajnfajpoaaVW
import Derived.Test.YtbbejajnfajpoaaVBack
import Derived.Test.YtbbejajnfajpoaaRowA
import Derived.Test.YtbbejajnfajpoaaRowV
set_option linter.unusedSimpArgs false
set_option linter.unusedVariables false
namespace Go.Proofs.Ytbbejajnfajpoaa
open Go.RowKit

theorem left_ok {lo g : Nat} {l : List Nat} {w : World} (n : Nat) (hn : n = l.length) (h : Rdr w lo g 0 l) :
    Calls Try.prog 28 #[.pointer (some ⟨g, 0, none⟩)] w fun r w' => r = .returned (.int .i64 (n : Int)) ∧ w = w' := by
  have := Left_any h
  rw [if_pos rfl] at this
  rw [hn]
  exact this

set_option maxHeartbeats 32000000 in
set_option maxRecDepth 100000 in
theorem valueBack_walk (y : Val) (A : Option Addr) (c : Nat) (l : List Att) (D : Option Addr) (cD : Nat) (d : List Nat) (w : World) (hy : I64 y.k ∧ I64 y.n) (hA : AS w A l.length c l) (hok : ∀ x ∈ l, AttOk x) (hD : BS w D d.length cD d) (hdl : d.length ≤ 140737488351232) :
    Calls Try.prog 12 #[y.v, .slice A l.length c, .slice D d.length cD] w fun e w' => e = .returned (.bool true) ∧ Below w.heap.size w w' := by
  clear hy hok
  have hlim := hA.lim
  have hle := hA.le
  have hpt := hA.pt
  have C1 := Lib.hid (bytesV_any y)
  have K1 := Lib.hid (check_any y)
  have D1 := Lib.hid (fun (w : World) (A : Option Addr) (n c : Nat) (h : AS w A n c l) => attrs_any h)
  have hvb := vb_ok y
  have hat := atP_ok hA.pt
  have LF := Lib.hid (fun (w : World) (lo g : Nat) (h : Rdr w lo g 0 d) => left_ok d.length rfl h)
  have heq : ∀ w, (Op.equalIn 10000 58 (.agg #[.int .i64 y.k, .int .i64 y.n, .string y.b]) (.agg #[.int .i64 y.k, .int .i64 y.n, .string y.b])).run Try.prog w = .ok true w := fun w => by
    have := eqV_run 9998 y y w
    rw [(eqV_iff _ _).2 rfl] at this
    exact this
  obtain ⟨W0, hW0⟩ : ∃ W0, W0 = w.alloc (.cells #[.int .i64 y.k, .int .i64 y.n, .string y.b] 58) := ⟨_, rfl⟩
  have hb0 : Below w.heap.size w W0 := by rw [hW0]; exact (bel0 w).alloc (Nat.le_refl _) _
  have X0 := Lib.hid (show BV W0 w.heap.size y by rw [hW0]; exact BV.new w y)
  have hyc : chkV y = 0 ∨ chkV y = 80 := by
    by_cases h : chkV y = 0
    · exact .inl h
    · exact .inr (chk_80 h)
  have hmc := may_cases l
  have hlen8 := fun h => (may_yes (l := l) h).1
  have TV := Lib.hid (fun h (w : World) (lo g : Nat) (hr : Rdr w lo g 0 ((vb y).1 ++ d)) => (takeV_any hr).mono (R' := fun r w' => TkR w w' r lo g y.v 0 d) (fun e w' h2 => by rw [tkV_to h d] at h2; exact h2))
  have TS := Lib.hid (fun h (w : World) (lo g : Nat) (hr : Rdr w lo g 0 (asB l ++ d)) => (takeAs_any hr).mono (R' := fun r w' => LsR w w' r lo g (l, 0, d)) (fun e w' h2 => by rw [tkAs_to h hpt d] at h2; exact h2))
  have HL := Lib.hid hA
  have HD := Lib.hid hD
  have HPT := Lib.hid hpt
  obtain ⟨bn, hbn⟩ : ∃ n, n = l.length := ⟨_, rfl⟩
  rw [← hbn] at HL hlim hle hlen8 ⊢
  obtain ⟨bd, hbd⟩ : ∃ n, n = d.length := ⟨_, rfl⟩
  rw [← hbd] at HD LF hdl ⊢
  have HBN := Lib.hid hbn
  have HBD := Lib.hid hbd
  clear hA hD hbn hbd hpt
  rcases hyc with hyc | hyc
  · have hvq : (vb y).2 = 0 := by unfold vb; rw [if_pos hyc]
    rw [hvq] at C1
    rw [hyc] at K1
    have TV := Lib.hid (TV.out hyc)
    have HVB := Lib.hid hvb
    clear hvq hyc hvb
    obtain ⟨yk, yn, yb⟩ := y
    unfold Val.v at *
    simp only at *
    rcases hmc with hmc | hmc
    · have haq : atP l = (asB l, 0) := if_pos hmc
      rw [haq] at D1 hat
      have TS := Lib.hid (TS.out hmc)
      have h8 := hlen8 hmc
      have h8i : decide ((bn : Int) ≤ 8) = true := decide_eq_true (by omega)
      have HAT := Lib.hid hat
      clear haq hat hmc hlen8
      go_enter Try.func12, Try.ntmps12
      go_wp2_with fail
      rw [← hW0]
      refine (works08_any _).mono ?_
      rintro r w1 ⟨rfl, hb1⟩
      have X1 := Lib.hid (X0.out.below hb1)
      have hbw1 := nx hb0 hb1
      obtain ⟨x0, x1, x2⟩ := X1.out.cells
      simp only at x0 x1 x2
      go_wp2_with fail
      refine (C1.out _).mono ?_
      intro r w2 hh
      obtain ⟨AP, nP, cP, rfl, hB, hb2⟩ := hh.open HVB.out.1 (by have := HVB.out.2; omega)
      have P2 := Lib.hid hB
      have X2 := Lib.hid (X1.out.below hb2)
      have hbw2 := nx hbw1 hb2
      clear hh hB hb2 X1 x0 x1 x2
      obtain ⟨x0, x1, x2⟩ := X2.out.cells
      simp only at x0 x1 x2
      go_wp2_with fail
      refine (D1.out _ _ _ _ (HL.out.below hbw2)).mono ?_
      intro r w3 hh
      obtain ⟨AR, nR, cR, rfl, hB, hb3⟩ := hh.open HAT.out.1 (by have := HAT.out.2; omega)
      have R3 := Lib.hid hB
      have P3 := Lib.hid (P2.out.below hb3)
      have X3 := Lib.hid (X2.out.below hb3)
      have hbw3 := nx hbw2 hb3
      clear hh hB hb3 P2 X2 x0 x1 x2
      obtain ⟨x0, x1, x2⟩ := X3.out.cells
      simp only at x0 x1 x2
      go_wp2_with fail
      refine (K1.out _).mono ?_
      rintro r w4 ⟨rfl, hb4⟩
      have R4 := Lib.hid (R3.out.below hb4)
      have P4 := Lib.hid (P3.out.below hb4)
      have X4 := Lib.hid (X3.out.below hb4)
      have hbw4 := nx hbw3 hb4
      clear hb4 R3 P3 X3 x0 x1 x2
      go_wp2_with fail
      refine (copyBytes_any AP nP cP (vb ⟨yk, yn, yb⟩).1 _ P4.out).mono ?_
      rintro r w5 ⟨v5, rfl, ho5, hb5⟩
      have O5 := Lib.hid ho5
      clear ho5
      go_wp2_with (at_builtin; refine append_bytes rfl (.tmp 41) (.tmp 42) rfl w4.heap.size v5 (vb ⟨yk, yn, yb⟩).1 d rfl O5.out D bd cD rfl (HD.out.below (nx hbw4 hb5)) (by have := HVB.out.2; have := HBD.out; omega) hb5.size ?_; intro v6 w6 ho6 hg6 hv6; have hb46 := grown_below hb5 hg6 (own_block O5.out); obtain ⟨A6, n6, c6, e6, B6, _⟩ := ownsRow_bs ho6 (HVB.out.1.append HD.out.byt) (by rw [List.length_append]; have := HVB.out.2; have := HBD.out; omega); subst e6; have B6 := Lib.hid B6; clear ho6 hg6 hv6 O5)
      refine (New_any A6 n6 c6 ((vb ⟨yk, yn, yb⟩).1 ++ d) _ B6.out).mono ?_
      rintro r w7 ⟨g1, rfl, hr, hb7⟩
      have R7 := Lib.hid hr
      have hlt7 := hr.lt
      have hbw6 := nx hbw4 hb46
      have hz6 := hbw6.size
      have X6 := X4.out.below hb46
      have hz6x := (Array.getElem?_eq_some_iff.1 X6).1
      have X7 := X6.below hb7
      have SO := Lib.hid (fun a (hg : w7.grownBy a (some g1)) => isS (g := g1) X7 (by omega) hg)
      have RA := Lib.hid (R4.out.below hb46)
      simp only at SO
      clear hr X6 X7 R4 P4 X4
      go_wp2_with fail
      refine wp_region_held_drew (S := (fun w' => w7.grownBy w' (some g1) ∧ w'.cell? ⟨w.heap.size, 0, none⟩ = some (.int .i64 yk) ∧ w'.cell? ⟨w.heap.size, 1, none⟩ = some (.int .i64 yn) ∧ w'.cell? ⟨w.heap.size, 2, none⟩ = some (.string yb))) (by kernel_rfl) (SO.out _ (grown_of_below (bel0 _).drew _)) (fun hHeld => ?_)
      refine' take_val (i := 0) (d := 45) (v := _) rfl rfl (by kernel_rfl) (by kernel_rfl) (by kernel_rfl) (fun _ _ _ h => h) (by rfl) ?_ (by assumption) ?_
      rotate_left
      · (intro w hSw; (try dsimp only at hSw); go_simp; (try with_reducible rfl))
      (try simp only [Act.put, List.setIfInBounds_toArray, List.set_cons_zero, List.set_cons_succ])
      refine' take_val (i := 2) (d := 47) (v := _) rfl rfl (by kernel_rfl) (by kernel_rfl) (by kernel_rfl) (fun _ _ _ h => h) (by rfl) ?_ (by assumption) ?_
      rotate_left
      · (intro w hSw; (try dsimp only at hSw); go_simp; (try with_reducible rfl))
      (try simp only [Act.put, List.setIfInBounds_toArray, List.set_cons_zero, List.set_cons_succ])
      refine wpAnyH_ready (rs := [1]) (by kernel_rfl) (by simp) ?_
      refine AllReadyH.cons rfl (fun K hK => ?_) AllReadyH.nil
      go_simp
      go_at_call 43
      refine (TV.out _ _ _ (R7.out.below (bel0 _).drew)).mono ?_
      rintro r wb ⟨rfl, hr8, hg8⟩
      go_wp2_with fail
      refine hK.out _ _ (SO.out _ (World.grownBy.trans (grown_of_below (bel0 _).drew _) hg8)) (fun hHeld => ?_)
      clear hK K
      (try simp only [Act.put, List.setIfInBounds_toArray, List.set_cons_zero, List.set_cons_succ])
      refine' take_val (i := 3) (d := 48) (v := _) rfl rfl (by kernel_rfl) (by kernel_rfl) (by kernel_rfl) (fun _ _ _ h => h) (by rfl) ?_ (by assumption) ?_
      rotate_left
      · (intro w hSw; (try dsimp only at hSw); go_simp; (try with_reducible rfl))
      (try simp only [Act.put, List.setIfInBounds_toArray, List.set_cons_zero, List.set_cons_succ])
      refine' take_val (i := 4) (d := 49) (v := _) rfl rfl (by kernel_rfl) (by kernel_rfl) (by kernel_rfl) (fun _ _ _ h => h) (by rfl) ?_ (by assumption) ?_
      rotate_left
      · (intro w hSw; (try dsimp only at hSw); go_simp; (try with_reducible rfl))
      (try simp only [Act.put, List.setIfInBounds_toArray, List.set_cons_zero, List.set_cons_succ])
      refine' take_val (i := 5) (d := 50) (v := _) rfl rfl (by kernel_rfl) (by kernel_rfl) (by kernel_rfl) (fun _ _ _ h => h) (by rfl) ?_ (by assumption) ?_
      rotate_left
      · (intro w hSw; (try dsimp only at hSw); go_simp; (try with_reducible rfl))
      (try simp only [Act.put, List.setIfInBounds_toArray, List.set_cons_zero, List.set_cons_succ])
      refine' take_val (i := 7) (d := 52) (v := _) rfl rfl (by kernel_rfl) (by kernel_rfl) (by kernel_rfl) (fun _ _ _ h => h) (by rfl) ?_ (by assumption) ?_
      rotate_left
      · (intro w hSw; (try dsimp only at hSw); go_simp; (try with_reducible rfl))
      (try simp only [Act.put, List.setIfInBounds_toArray, List.set_cons_zero, List.set_cons_succ])
      refine' take_val (i := 8) (d := 53) (v := _) rfl rfl (by kernel_rfl) (by kernel_rfl) (by kernel_rfl) (fun _ _ _ h => h) (by rfl) ?_ (by assumption) ?_
      rotate_left
      · (intro w hSw; (try dsimp only at hSw); go_simp; (try with_reducible rfl))
      (try simp only [Act.put, List.setIfInBounds_toArray, List.set_cons_zero, List.set_cons_succ])
      refine wpAnyH_ready (rs := [6]) (by kernel_rfl) (by simp) ?_
      refine AllReadyH.cons rfl (fun K hK => ?_) AllReadyH.nil
      go_simp
      go_at_call 28
      refine (LF.out _ _ _ hr8).mono ?_
      rintro r wb2 ⟨rfl, rfl⟩
      go_wp2_with fail
      refine hK.out _ _ hHeld (fun hHeld => ?_)
      clear hK K
      (try simp only [Act.put, List.setIfInBounds_toArray, List.set_cons_zero, List.set_cons_succ])
      refine' take_val (i := 9) (d := 54) (v := _) rfl rfl (by kernel_rfl) (by kernel_rfl) (by kernel_rfl) (fun _ _ _ h => h) (by rfl) ?_ (by assumption) ?_
      rotate_left
      · (intro w hSw; (try dsimp only at hSw); go_simp; (try with_reducible rfl))
      (try simp only [Act.put, List.setIfInBounds_toArray, List.set_cons_zero, List.set_cons_succ])
      refine' take_val (i := 10) (d := 55) (v := _) rfl rfl (by kernel_rfl) (by kernel_rfl) (by kernel_rfl) (fun _ _ _ h => h) (by rfl) ?_ (by assumption) ?_
      rotate_left
      · (intro w hSw; (try dsimp only at hSw); go_simp; (try with_reducible rfl))
      (try simp only [Act.put, List.setIfInBounds_toArray, List.set_cons_zero, List.set_cons_succ])
      refine' take_val (i := 11) (d := 56) (v := _) rfl rfl (by kernel_rfl) (by kernel_rfl) (by kernel_rfl) (fun _ _ _ h => h) (by rfl) ?_ (by assumption) ?_
      rotate_left
      · (intro w hSw; (try dsimp only at hSw); go_simp; (try with_reducible rfl))
      (try simp only [Act.put, List.setIfInBounds_toArray, List.set_cons_zero, List.set_cons_succ])
      refine' take_val (i := 12) (d := 57) (v := _) rfl rfl (by kernel_rfl) (by kernel_rfl) (by kernel_rfl) (fun _ _ _ h => h) (by rfl) ?_ (by assumption) ?_
      rotate_left
      · (intro w hSw; (try dsimp only at hSw); go_simp; (try with_reducible rfl))
      (try simp only [Act.put, List.setIfInBounds_toArray, List.set_cons_zero, List.set_cons_succ])
      refine wpAnyH_ready (rs := [13]) (by kernel_rfl) (by simp) ?_
      refine AllReadyH.cons rfl (fun K hK => ?_) AllReadyH.nil
      go_simp
      go_at_call 31
      refine (Err_any hr8).mono ?_
      rintro r wb2 ⟨rfl, rfl⟩
      go_wp2_with fail
      refine hK.out _ _ hHeld (fun hHeld => ?_)
      clear hK K
      (try simp only [Act.put, List.setIfInBounds_toArray, List.set_cons_zero, List.set_cons_succ])
      refine' take_val (i := 14) (d := 59) (v := _) rfl rfl (by kernel_rfl) (by kernel_rfl) (by kernel_rfl) (fun _ _ _ h => h) (by rfl) ?_ (by assumption) ?_
      rotate_left
      · (intro w hSw; (try dsimp only at hSw); go_simp; (try with_reducible rfl))
      (try simp only [Act.put, List.setIfInBounds_toArray, List.set_cons_zero, List.set_cons_succ])
      refine' take_val (i := 15) (d := 60) (v := _) rfl rfl (by kernel_rfl) (by kernel_rfl) (by kernel_rfl) (fun _ _ _ h => h) (by rfl) ?_ (by assumption) ?_
      rotate_left
      · (intro w hSw; (try dsimp only at hSw); go_simp; (try with_reducible rfl))
      (try simp only [Act.put, List.setIfInBounds_toArray, List.set_cons_zero, List.set_cons_succ])
      refine wpAnyH_done (by kernel_rfl) ?_ _
      have hg9 := And.left (b := _) hHeld
      clear hHeld hr8 hg8
      have hb69 := grown_bel hb7 hg9 hlt7.1
      have RZ := Lib.hid (RA.out.below hb69)
      have hbz := nx hbw6 hb69
      clear RA
      go_wp2_with fail
      refine (copyBytes_any AR nR cR (asB l) _ RZ.out).mono ?_
      rintro r u4 ⟨v6, rfl, ho6, hu4⟩
      have O6 := Lib.hid ho6
      clear ho6
      go_wp2_with (at_builtin; refine append_bytes rfl (.tmp 64) (.tmp 65) rfl wb.heap.size v6 (asB l) d rfl O6.out D bd cD rfl (HD.out.below (nx hbz hu4)) (by have := HAT.out.2; have := HBD.out; omega) hu4.size ?_; intro v7 u5 ho7 hg7 hv7; have hu5 := grown_below hu4 hg7 (own_block O6.out); obtain ⟨A7, n7, c7, e7, B7, _⟩ := ownsRow_bs ho7 (HAT.out.1.append HD.out.byt) (by rw [List.length_append]; have := HAT.out.2; have := HBD.out; omega); subst e7; have B7 := Lib.hid B7; clear ho7 hg7 hv7 O6)
      refine (New_any A7 n7 c7 (asB l ++ d) _ B7.out).mono ?_
      rintro r u6 ⟨g2, rfl, hr, hu6⟩
      have R6 := Lib.hid hr
      have hlt6 := hr.lt
      have hbu5 := nx hbz hu5
      have hz5 := hbu5.size
      have hbu6 := nx hbu5 hu6
      clear hr
      go_wp2_with fail
      refine (TS.out _ _ _ R6.out).mono ?_
      rintro r u7 ⟨vL, rfl, ho, hr, hg⟩
      obtain ⟨A8, n8, c8, rfl, hAS⟩ := own_as ho HPT.out (by show l.length ≤ _; have := HBN.out; omega)
      have hbu7 := grown_bel hbu6 hg (by omega)
      have S7 := Lib.hid hAS
      have R7 := Lib.hid hr
      clear ho hr hg hAS R6 B7
      go_wp2_with fail
      refine (same_any (HL.out.below hbu7) S7.out).mono ?_
      rintro r u8 ⟨bb, rfl, hbe, hu8⟩
      obtain rfl : bb = true := hbe.2 rfl
      clear hbe
      go_wp2_with fail
      refine (LF.out _ _ _ (R7.out.below hu8)).mono ?_
      rintro r u9 ⟨rfl, rfl⟩
      go_wp2_with fail
      refine (Err_any (R7.out.below hu8)).mono ?_
      rintro r u9 ⟨rfl, rfl⟩
      go_wp2_with fail
      go_ret
      exact ⟨rfl, nx hbu7 hu8⟩
    · have haq : atP l = ([], 80) := if_neg (by rw [hmc]; decide)
      rw [haq] at D1 hat
      have HAT := Lib.hid hat
      clear haq hat hmc hlen8 TS
      go_enter Try.func12, Try.ntmps12
      go_wp2_with fail
      rw [← hW0]
      refine (works08_any _).mono ?_
      rintro r w1 ⟨rfl, hb1⟩
      have X1 := Lib.hid (X0.out.below hb1)
      have hbw1 := nx hb0 hb1
      obtain ⟨x0, x1, x2⟩ := X1.out.cells
      simp only at x0 x1 x2
      go_wp2_with fail
      refine (C1.out _).mono ?_
      intro r w2 hh
      obtain ⟨AP, nP, cP, rfl, hB, hb2⟩ := hh.open HVB.out.1 (by have := HVB.out.2; omega)
      have P2 := Lib.hid hB
      have X2 := Lib.hid (X1.out.below hb2)
      have hbw2 := nx hbw1 hb2
      clear hh hB hb2 X1 x0 x1 x2
      obtain ⟨x0, x1, x2⟩ := X2.out.cells
      simp only at x0 x1 x2
      go_wp2_with fail
      refine (D1.out _ _ _ _ (HL.out.below hbw2)).mono ?_
      intro r w3 hh
      obtain ⟨AR, nR, cR, rfl, hB, hb3⟩ := hh.open HAT.out.1 (by have := HAT.out.2; omega)
      have R3 := Lib.hid hB
      have P3 := Lib.hid (P2.out.below hb3)
      have X3 := Lib.hid (X2.out.below hb3)
      have hbw3 := nx hbw2 hb3
      clear hh hB hb3 P2 X2 x0 x1 x2
      obtain ⟨x0, x1, x2⟩ := X3.out.cells
      simp only at x0 x1 x2
      go_wp2_with fail
      refine (K1.out _).mono ?_
      rintro r w4 ⟨rfl, hb4⟩
      have R4 := Lib.hid (R3.out.below hb4)
      have P4 := Lib.hid (P3.out.below hb4)
      have X4 := Lib.hid (X3.out.below hb4)
      have hbw4 := nx hbw3 hb4
      clear hb4 R3 P3 X3 x0 x1 x2
      go_wp2_with fail
      refine (copyBytes_any AP nP cP (vb ⟨yk, yn, yb⟩).1 _ P4.out).mono ?_
      rintro r w5 ⟨v5, rfl, ho5, hb5⟩
      have O5 := Lib.hid ho5
      clear ho5
      go_wp2_with (at_builtin; refine append_bytes rfl (.tmp 41) (.tmp 42) rfl w4.heap.size v5 (vb ⟨yk, yn, yb⟩).1 d rfl O5.out D bd cD rfl (HD.out.below (nx hbw4 hb5)) (by have := HVB.out.2; have := HBD.out; omega) hb5.size ?_; intro v6 w6 ho6 hg6 hv6; have hb46 := grown_below hb5 hg6 (own_block O5.out); obtain ⟨A6, n6, c6, e6, B6, _⟩ := ownsRow_bs ho6 (HVB.out.1.append HD.out.byt) (by rw [List.length_append]; have := HVB.out.2; have := HBD.out; omega); subst e6; have B6 := Lib.hid B6; clear ho6 hg6 hv6 O5)
      refine (New_any A6 n6 c6 ((vb ⟨yk, yn, yb⟩).1 ++ d) _ B6.out).mono ?_
      rintro r w7 ⟨g1, rfl, hr, hb7⟩
      have R7 := Lib.hid hr
      have hlt7 := hr.lt
      have hbw6 := nx hbw4 hb46
      have hz6 := hbw6.size
      have X6 := X4.out.below hb46
      have hz6x := (Array.getElem?_eq_some_iff.1 X6).1
      have X7 := X6.below hb7
      have SO := Lib.hid (fun a (hg : w7.grownBy a (some g1)) => isS (g := g1) X7 (by omega) hg)
      have RA := Lib.hid (R4.out.below hb46)
      simp only at SO
      clear hr X6 X7 R4 P4 X4
      go_wp2_with fail
      refine wp_region_held_drew (S := (fun w' => w7.grownBy w' (some g1) ∧ w'.cell? ⟨w.heap.size, 0, none⟩ = some (.int .i64 yk) ∧ w'.cell? ⟨w.heap.size, 1, none⟩ = some (.int .i64 yn) ∧ w'.cell? ⟨w.heap.size, 2, none⟩ = some (.string yb))) (by kernel_rfl) (SO.out _ (grown_of_below (bel0 _).drew _)) (fun hHeld => ?_)
      refine' take_val (i := 0) (d := 45) (v := _) rfl rfl (by kernel_rfl) (by kernel_rfl) (by kernel_rfl) (fun _ _ _ h => h) (by rfl) ?_ (by assumption) ?_
      rotate_left
      · (intro w hSw; (try dsimp only at hSw); go_simp; (try with_reducible rfl))
      (try simp only [Act.put, List.setIfInBounds_toArray, List.set_cons_zero, List.set_cons_succ])
      refine' take_val (i := 2) (d := 47) (v := _) rfl rfl (by kernel_rfl) (by kernel_rfl) (by kernel_rfl) (fun _ _ _ h => h) (by rfl) ?_ (by assumption) ?_
      rotate_left
      · (intro w hSw; (try dsimp only at hSw); go_simp; (try with_reducible rfl))
      (try simp only [Act.put, List.setIfInBounds_toArray, List.set_cons_zero, List.set_cons_succ])
      refine wpAnyH_ready (rs := [1]) (by kernel_rfl) (by simp) ?_
      refine AllReadyH.cons rfl (fun K hK => ?_) AllReadyH.nil
      go_simp
      go_at_call 43
      refine (TV.out _ _ _ (R7.out.below (bel0 _).drew)).mono ?_
      rintro r wb ⟨rfl, hr8, hg8⟩
      go_wp2_with fail
      refine hK.out _ _ (SO.out _ (World.grownBy.trans (grown_of_below (bel0 _).drew _) hg8)) (fun hHeld => ?_)
      clear hK K
      (try simp only [Act.put, List.setIfInBounds_toArray, List.set_cons_zero, List.set_cons_succ])
      refine' take_val (i := 3) (d := 48) (v := _) rfl rfl (by kernel_rfl) (by kernel_rfl) (by kernel_rfl) (fun _ _ _ h => h) (by rfl) ?_ (by assumption) ?_
      rotate_left
      · (intro w hSw; (try dsimp only at hSw); go_simp; (try with_reducible rfl))
      (try simp only [Act.put, List.setIfInBounds_toArray, List.set_cons_zero, List.set_cons_succ])
      refine' take_val (i := 4) (d := 49) (v := _) rfl rfl (by kernel_rfl) (by kernel_rfl) (by kernel_rfl) (fun _ _ _ h => h) (by rfl) ?_ (by assumption) ?_
      rotate_left
      · (intro w hSw; (try dsimp only at hSw); go_simp; (try with_reducible rfl))
      (try simp only [Act.put, List.setIfInBounds_toArray, List.set_cons_zero, List.set_cons_succ])
      refine' take_val (i := 5) (d := 50) (v := _) rfl rfl (by kernel_rfl) (by kernel_rfl) (by kernel_rfl) (fun _ _ _ h => h) (by rfl) ?_ (by assumption) ?_
      rotate_left
      · (intro w hSw; (try dsimp only at hSw); go_simp; (try with_reducible rfl))
      (try simp only [Act.put, List.setIfInBounds_toArray, List.set_cons_zero, List.set_cons_succ])
      refine' take_val (i := 7) (d := 52) (v := _) rfl rfl (by kernel_rfl) (by kernel_rfl) (by kernel_rfl) (fun _ _ _ h => h) (by rfl) ?_ (by assumption) ?_
      rotate_left
      · (intro w hSw; (try dsimp only at hSw); go_simp; (try with_reducible rfl))
      (try simp only [Act.put, List.setIfInBounds_toArray, List.set_cons_zero, List.set_cons_succ])
      refine' take_val (i := 8) (d := 53) (v := _) rfl rfl (by kernel_rfl) (by kernel_rfl) (by kernel_rfl) (fun _ _ _ h => h) (by rfl) ?_ (by assumption) ?_
      rotate_left
      · (intro w hSw; (try dsimp only at hSw); go_simp; (try with_reducible rfl))
      (try simp only [Act.put, List.setIfInBounds_toArray, List.set_cons_zero, List.set_cons_succ])
      refine wpAnyH_ready (rs := [6]) (by kernel_rfl) (by simp) ?_
      refine AllReadyH.cons rfl (fun K hK => ?_) AllReadyH.nil
      go_simp
      go_at_call 28
      refine (LF.out _ _ _ hr8).mono ?_
      rintro r wb2 ⟨rfl, rfl⟩
      go_wp2_with fail
      refine hK.out _ _ hHeld (fun hHeld => ?_)
      clear hK K
      (try simp only [Act.put, List.setIfInBounds_toArray, List.set_cons_zero, List.set_cons_succ])
      refine' take_val (i := 9) (d := 54) (v := _) rfl rfl (by kernel_rfl) (by kernel_rfl) (by kernel_rfl) (fun _ _ _ h => h) (by rfl) ?_ (by assumption) ?_
      rotate_left
      · (intro w hSw; (try dsimp only at hSw); go_simp; (try with_reducible rfl))
      (try simp only [Act.put, List.setIfInBounds_toArray, List.set_cons_zero, List.set_cons_succ])
      refine' take_val (i := 10) (d := 55) (v := _) rfl rfl (by kernel_rfl) (by kernel_rfl) (by kernel_rfl) (fun _ _ _ h => h) (by rfl) ?_ (by assumption) ?_
      rotate_left
      · (intro w hSw; (try dsimp only at hSw); go_simp; (try with_reducible rfl))
      (try simp only [Act.put, List.setIfInBounds_toArray, List.set_cons_zero, List.set_cons_succ])
      refine' take_val (i := 11) (d := 56) (v := _) rfl rfl (by kernel_rfl) (by kernel_rfl) (by kernel_rfl) (fun _ _ _ h => h) (by rfl) ?_ (by assumption) ?_
      rotate_left
      · (intro w hSw; (try dsimp only at hSw); go_simp; (try with_reducible rfl))
      (try simp only [Act.put, List.setIfInBounds_toArray, List.set_cons_zero, List.set_cons_succ])
      refine' take_val (i := 12) (d := 57) (v := _) rfl rfl (by kernel_rfl) (by kernel_rfl) (by kernel_rfl) (fun _ _ _ h => h) (by rfl) ?_ (by assumption) ?_
      rotate_left
      · (intro w hSw; (try dsimp only at hSw); go_simp; (try with_reducible rfl))
      (try simp only [Act.put, List.setIfInBounds_toArray, List.set_cons_zero, List.set_cons_succ])
      refine wpAnyH_ready (rs := [13]) (by kernel_rfl) (by simp) ?_
      refine AllReadyH.cons rfl (fun K hK => ?_) AllReadyH.nil
      go_simp
      go_at_call 31
      refine (Err_any hr8).mono ?_
      rintro r wb2 ⟨rfl, rfl⟩
      go_wp2_with fail
      refine hK.out _ _ hHeld (fun hHeld => ?_)
      clear hK K
      (try simp only [Act.put, List.setIfInBounds_toArray, List.set_cons_zero, List.set_cons_succ])
      refine' take_val (i := 14) (d := 59) (v := _) rfl rfl (by kernel_rfl) (by kernel_rfl) (by kernel_rfl) (fun _ _ _ h => h) (by rfl) ?_ (by assumption) ?_
      rotate_left
      · (intro w hSw; (try dsimp only at hSw); go_simp; (try with_reducible rfl))
      (try simp only [Act.put, List.setIfInBounds_toArray, List.set_cons_zero, List.set_cons_succ])
      refine' take_val (i := 15) (d := 60) (v := _) rfl rfl (by kernel_rfl) (by kernel_rfl) (by kernel_rfl) (fun _ _ _ h => h) (by rfl) ?_ (by assumption) ?_
      rotate_left
      · (intro w hSw; (try dsimp only at hSw); go_simp; (try with_reducible rfl))
      (try simp only [Act.put, List.setIfInBounds_toArray, List.set_cons_zero, List.set_cons_succ])
      refine wpAnyH_done (by kernel_rfl) ?_ _
      have hg9 := And.left (b := _) hHeld
      clear hHeld hr8 hg8
      have hb69 := grown_bel hb7 hg9 hlt7.1
      have RZ := Lib.hid (RA.out.below hb69)
      have hbz := nx hbw6 hb69
      clear RA
      obtain rfl : nR = 0 := RZ.out.len
      go_wp2_with fail
      go_ret
      exact ⟨rfl, hbz⟩
  · have hvq : vb y = ([], 80) := if_neg (by rw [hyc]; decide)
    rw [hvq] at C1 hvb
    rw [hyc] at K1
    have HVB := Lib.hid hvb
    clear hvq hyc hvb TV
    obtain ⟨yk, yn, yb⟩ := y
    unfold Val.v at *
    simp only at *
    rcases hmc with hmc | hmc
    · have haq : atP l = (asB l, 0) := if_pos hmc
      rw [haq] at D1 hat
      have TS := Lib.hid (TS.out hmc)
      have h8 := hlen8 hmc
      have h8i : decide ((bn : Int) ≤ 8) = true := decide_eq_true (by omega)
      have HAT := Lib.hid hat
      clear haq hat hmc hlen8
      go_enter Try.func12, Try.ntmps12
      go_wp2_with fail
      rw [← hW0]
      refine (works08_any _).mono ?_
      rintro r w1 ⟨rfl, hb1⟩
      have X1 := Lib.hid (X0.out.below hb1)
      have hbw1 := nx hb0 hb1
      obtain ⟨x0, x1, x2⟩ := X1.out.cells
      simp only at x0 x1 x2
      go_wp2_with fail
      refine (C1.out _).mono ?_
      intro r w2 hh
      obtain ⟨AP, nP, cP, rfl, hB, hb2⟩ := hh.open HVB.out.1 (by have := HVB.out.2; omega)
      have P2 := Lib.hid hB
      have X2 := Lib.hid (X1.out.below hb2)
      have hbw2 := nx hbw1 hb2
      clear hh hB hb2 X1 x0 x1 x2
      obtain ⟨x0, x1, x2⟩ := X2.out.cells
      simp only at x0 x1 x2
      go_wp2_with fail
      refine (D1.out _ _ _ _ (HL.out.below hbw2)).mono ?_
      intro r w3 hh
      obtain ⟨AR, nR, cR, rfl, hB, hb3⟩ := hh.open HAT.out.1 (by have := HAT.out.2; omega)
      have R3 := Lib.hid hB
      have P3 := Lib.hid (P2.out.below hb3)
      have X3 := Lib.hid (X2.out.below hb3)
      have hbw3 := nx hbw2 hb3
      clear hh hB hb3 P2 X2 x0 x1 x2
      obtain ⟨x0, x1, x2⟩ := X3.out.cells
      simp only at x0 x1 x2
      go_wp2_with fail
      refine (K1.out _).mono ?_
      rintro r w4 ⟨rfl, hb4⟩
      have R4 := Lib.hid (R3.out.below hb4)
      have P4 := Lib.hid (P3.out.below hb4)
      have X4 := Lib.hid (X3.out.below hb4)
      have hbw4 := nx hbw3 hb4
      clear hb4 R3 P3 X3 x0 x1 x2
      go_wp2_with fail
      refine (copyBytes_any AR nR cR (asB l) _ R4.out).mono ?_
      rintro r u4 ⟨v6, rfl, ho6, hu4⟩
      have O6 := Lib.hid ho6
      clear ho6
      go_wp2_with (at_builtin; refine append_bytes rfl (.tmp 64) (.tmp 65) rfl w4.heap.size v6 (asB l) d rfl O6.out D bd cD rfl (HD.out.below (nx hbw4 hu4)) (by have := HAT.out.2; have := HBD.out; omega) hu4.size ?_; intro v7 u5 ho7 hg7 hv7; have hu5 := grown_below hu4 hg7 (own_block O6.out); obtain ⟨A7, n7, c7, e7, B7, _⟩ := ownsRow_bs ho7 (HAT.out.1.append HD.out.byt) (by rw [List.length_append]; have := HAT.out.2; have := HBD.out; omega); subst e7; have B7 := Lib.hid B7; clear ho7 hg7 hv7 O6)
      refine (New_any A7 n7 c7 (asB l ++ d) _ B7.out).mono ?_
      rintro r u6 ⟨g2, rfl, hr, hu6⟩
      have R6 := Lib.hid hr
      have hlt6 := hr.lt
      have hbu5 := nx hbw4 hu5
      have hz5 := hbu5.size
      have hbu6 := nx hbu5 hu6
      clear hr
      go_wp2_with fail
      refine (TS.out _ _ _ R6.out).mono ?_
      rintro r u7 ⟨vL, rfl, ho, hr, hg⟩
      obtain ⟨A8, n8, c8, rfl, hAS⟩ := own_as ho HPT.out (by show l.length ≤ _; have := HBN.out; omega)
      have hbu7 := grown_bel hbu6 hg (by omega)
      have S7 := Lib.hid hAS
      have R7 := Lib.hid hr
      clear ho hr hg hAS R6 B7
      go_wp2_with fail
      refine (same_any (HL.out.below hbu7) S7.out).mono ?_
      rintro r u8 ⟨bb, rfl, hbe, hu8⟩
      obtain rfl : bb = true := hbe.2 rfl
      clear hbe
      go_wp2_with fail
      refine (LF.out _ _ _ (R7.out.below hu8)).mono ?_
      rintro r u9 ⟨rfl, rfl⟩
      go_wp2_with fail
      refine (Err_any (R7.out.below hu8)).mono ?_
      rintro r u9 ⟨rfl, rfl⟩
      go_wp2_with fail
      go_ret
      exact ⟨rfl, nx hbu7 hu8⟩
    · have haq : atP l = ([], 80) := if_neg (by rw [hmc]; decide)
      rw [haq] at D1 hat
      have HAT := Lib.hid hat
      clear haq hat hmc hlen8 TS
      go_enter Try.func12, Try.ntmps12
      go_wp2_with fail
      rw [← hW0]
      refine (works08_any _).mono ?_
      rintro r w1 ⟨rfl, hb1⟩
      have X1 := Lib.hid (X0.out.below hb1)
      have hbw1 := nx hb0 hb1
      obtain ⟨x0, x1, x2⟩ := X1.out.cells
      simp only at x0 x1 x2
      go_wp2_with fail
      refine (C1.out _).mono ?_
      intro r w2 hh
      obtain ⟨AP, nP, cP, rfl, hB, hb2⟩ := hh.open HVB.out.1 (by have := HVB.out.2; omega)
      have P2 := Lib.hid hB
      have X2 := Lib.hid (X1.out.below hb2)
      have hbw2 := nx hbw1 hb2
      clear hh hB hb2 X1 x0 x1 x2
      obtain ⟨x0, x1, x2⟩ := X2.out.cells
      simp only at x0 x1 x2
      go_wp2_with fail
      refine (D1.out _ _ _ _ (HL.out.below hbw2)).mono ?_
      intro r w3 hh
      obtain ⟨AR, nR, cR, rfl, hB, hb3⟩ := hh.open HAT.out.1 (by have := HAT.out.2; omega)
      have R3 := Lib.hid hB
      have P3 := Lib.hid (P2.out.below hb3)
      have X3 := Lib.hid (X2.out.below hb3)
      have hbw3 := nx hbw2 hb3
      clear hh hB hb3 P2 X2 x0 x1 x2
      obtain ⟨x0, x1, x2⟩ := X3.out.cells
      simp only at x0 x1 x2
      go_wp2_with fail
      refine (K1.out _).mono ?_
      rintro r w4 ⟨rfl, hb4⟩
      have R4 := Lib.hid (R3.out.below hb4)
      have P4 := Lib.hid (P3.out.below hb4)
      have X4 := Lib.hid (X3.out.below hb4)
      have hbw4 := nx hbw3 hb4
      clear hb4 R3 P3 X3 x0 x1 x2
      obtain rfl : nR = 0 := R4.out.len
      go_wp2_with fail
      go_ret
      exact ⟨rfl, hbw4⟩
end Go.Proofs.Ytbbejajnfajpoaa
