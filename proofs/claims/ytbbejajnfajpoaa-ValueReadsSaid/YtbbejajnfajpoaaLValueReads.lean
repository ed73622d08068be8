/- The walk of the law ValueReads. No conditions. -/
import Derived.Test.YtbbejajnfajpoaaRTkAs
import Derived.Test.YtbbejajnfajpoaaVW
import Derived.Test.YtbbejajnfajpoaaRow
set_option linter.unusedSimpArgs false
set_option linter.unusedVariables false
namespace Go.Proofs.Ytbbejajnfajpoaa
open Go.RowKit

set_option maxHeartbeats 16000000 in
set_option maxRecDepth 100000 in
theorem valueReads_walk (A : Option Addr) (c : Nat) (l : List Nat) (w : World) (hA : BS w A l.length c l) :
    Calls Try.prog 11 #[.slice A l.length c] w fun e w' => e = .returned (.bool true) ∧ Below w.heap.size w w' := by
  have hsp : (∀ a ∈ (tkAs 0 l).1, a.lab.p < 4294967296) ∧ (tkAs 0 l).1.length ≤ 8 := by
    unfold tkAs
    split
    · exact tkLs_ok 0 l
    · exact ⟨(by intro a ha; cases ha), by simp⟩
  have hTV := fun (w : World) (lo g : Nat) (h : Rdr w lo g 0 l) => takeV_any h
  have hTS := fun (w : World) (lo g : Nat) (h : Rdr w lo g 0 l) => takeAs_any h
  have hUV := fun (w : World) (lo g : Nat) (h : Rfr w lo g 0 l) => refTakeV_any h
  have hUS := fun (w : World) (lo g : Nat) (h : Rfr w lo g 0 l) => refTakeAs_any h
  generalize tkV 0 l = X at *
  generalize tkAs 0 l = Y at *
  obtain ⟨v, e1, r1⟩ := X
  obtain ⟨L, e2, r2⟩ := Y
  obtain ⟨k, n, b⟩ := v
  unfold Val.v at hTV hUV
  simp only at hsp hTV hUV hTS hUS
  have HSP := Lib.hid hsp
  have TV := Lib.hid hTV
  have UV := Lib.hid hUV
  have TS := Lib.hid hTS
  have US := Lib.hid hUS
  have HA := Lib.hid hA
  clear hA hsp hTV hUV hTS hUS
  have heq : ∀ w, (Op.equalIn 10000 58 (.agg #[.int .i64 k, .int .i64 n, .string b]) (.agg #[.int .i64 k, .int .i64 n, .string b])).run Try.prog w = .ok true w := fun w => by
    have := eqV_run 9998 ⟨k, n, b⟩ ⟨k, n, b⟩ w
    rw [(eqV_iff _ _).2 rfl] at this
    exact this
  generalize hbl : l.length = bl at *
  clear hbl
  go_enter Try.func11, Try.ntmps11
  go_wp2_with fail
  refine (New_any A bl c l _ HA.out).mono ?_
  rintro r w1 ⟨g1, rfl, hr, hb1⟩
  have hlt1 := hr.lt
  have hw1 := hb1.size
  have hlo1 : w.heap.size ≤ g1 := hr.lt.1
  have R1 := Lib.hid hr
  have B1 := Lib.hid hb1
  clear hr hb1
  go_wp2_with fail
  refine (refNew_any A bl c l _ (HA.out.below B1.out)).mono ?_
  rintro r w2 ⟨g2, rfl, hr, hb2⟩
  have hlt2 := hr.lt
  have hw2 := hb2.size
  have Q2 := Lib.hid hr
  have R2 := Lib.hid (R1.out.below hb2)
  have B2 := Lib.hid (nx B1.out hb2)
  clear hr hb2 R1 B1
  go_wp2_with fail
  refine (TV.out _ _ _ R2.out).mono ?_
  rintro r w3 ⟨rfl, hr, hg⟩
  have R3 := Lib.hid hr
  have Q3 := Lib.hid (Q2.out.grown hg (fun j hj => by cases hj; omega))
  have B3 := Lib.hid (grown_bel B2.out hg hlo1)
  have hw3 := hg.size
  clear hr hg R2 Q2 B2
  go_wp2_with fail
  refine (UV.out _ _ _ Q3.out).mono ?_
  rintro r w4 ⟨rfl, hr, hg⟩
  have Q4 := Lib.hid hr
  have R4 := Lib.hid (R3.out.grown hg (fun j hj => by cases hj; omega))
  have B4 := Lib.hid (grown_bel B3.out hg (by omega))
  have hw4 := hg.size
  clear hr hg R3 Q3 B3
  go_wp2_with fail
  obtain ⟨w5, hw5⟩ : ∃ W, W = (w4.alloc (.cells #[.int .i64 k, .int .i64 n, .string b] 58)).alloc (.cells #[.int .i64 k, .int .i64 n, .string b] 58) := ⟨_, rfl⟩
  rw [← hw5]
  have hbw5 : Below w4.heap.size w4 w5 := by rw [hw5]; exact ((bel0 w4).alloc (Nat.le_refl _) _).alloc ((bel0 w4).alloc (Nat.le_refl _) _).size _
  have X5 := Lib.hid (show BV w5 w4.heap.size ⟨k, n, b⟩ by rw [hw5]; exact (BV.new w4 ⟨k, n, b⟩).below ((bel0 _).alloc (Nat.le_refl _) _))
  have Y5 := Lib.hid (show BV w5 (w4.heap.size + 1) ⟨k, n, b⟩ by
    rw [hw5]
    have := BV.new (w4.alloc (.cells #[.int .i64 k, .int .i64 n, .string b] 58)) ⟨k, n, b⟩
    rw [show (w4.alloc (.cells #[.int .i64 k, .int .i64 n, .string b] 58)).heap.size = w4.heap.size + 1 from Array.size_push ..] at this
    exact this)
  have hw5s : w4.heap.size + 2 ≤ w5.heap.size := by have := (Array.getElem?_eq_some_iff.1 Y5.out).1; omega
  have Q5 := Lib.hid (Q4.out.below hbw5)
  have R5 := Lib.hid (R4.out.below hbw5)
  have B5 := Lib.hid (nx B4.out hbw5)
  clear hw5 hbw5 Q4 R4 B4
  refine (New_any A bl c l _ (HA.out.below B5.out)).mono ?_
  rintro r w6 ⟨g3, rfl, hr, hb6⟩
  have hlt3 := hr.lt
  have hw6 := hb6.size
  have X6 := Lib.hid (X5.out.below hb6)
  have Y6 := Lib.hid (Y5.out.below hb6)
  have Q6 := Lib.hid (Q5.out.below hb6)
  have R6 := Lib.hid (R5.out.below hb6)
  have S6 := Lib.hid hr
  have B6 := Lib.hid (nx B5.out hb6)
  clear hr hb6 X5 Y5 Q5 R5 B5
  go_wp2_with fail
  refine (refNew_any A bl c l _ (HA.out.below B6.out)).mono ?_
  rintro r w7 ⟨g4, rfl, hr, hb7⟩
  have hlt4 := hr.lt
  have hw7 := hb7.size
  have X7 := Lib.hid (X6.out.below hb7)
  have Y7 := Lib.hid (Y6.out.below hb7)
  have Q7 := Lib.hid (Q6.out.below hb7)
  have R7 := Lib.hid (R6.out.below hb7)
  have S7 := Lib.hid (S6.out.below hb7)
  have T7 := Lib.hid hr
  have B7 := Lib.hid (nx B6.out hb7)
  clear hr hb7 X6 Y6 Q6 R6 S6 B6
  go_wp2_with fail
  refine (TS.out _ _ _ S7.out).mono ?_
  rintro r w8 ⟨vL, rfl, ho, hr, hg⟩
  obtain ⟨A8, n8, c8, rfl, hAS⟩ := own_as ho HSP.out.1 (by show L.length ≤ _; have := HSP.out.2; omega)
  have hw8 := hg.size
  have X8 := Lib.hid (X7.out.grown hg (fun j hj => by cases hj; omega))
  have Y8 := Lib.hid (Y7.out.grown hg (fun j hj => by cases hj; omega))
  have Q8 := Lib.hid (Q7.out.grown hg (fun j hj => by cases hj; omega))
  have R8 := Lib.hid (R7.out.grown hg (fun j hj => by cases hj; omega))
  have S8 := Lib.hid hr
  have T8 := Lib.hid (T7.out.grown hg (fun j hj => by cases hj; omega))
  have B8 := Lib.hid (grown_bel B7.out hg (by omega))
  have O8 := Lib.hid ho
  clear ho hr hg hAS X7 Y7 Q7 R7 S7 T7 B7
  go_wp2_with fail
  refine (US.out _ _ _ T8.out).mono ?_
  rintro r w9 ⟨vM, rfl, ho, hr, hg⟩
  obtain ⟨A9, n9, c9, rfl, hAS⟩ := own_as ho HSP.out.1 (by show L.length ≤ _; have := HSP.out.2; omega)
  have hw9 := hg.size
  have X9 := X8.out.grown hg (fun j hj => by cases hj; omega)
  have Y9 := Y8.out.grown hg (fun j hj => by cases hj; omega)
  have Q9 := Q8.out.grown hg (fun j hj => by cases hj; omega)
  have R9 := Lib.hid (R8.out.grown hg (fun j hj => by cases hj; omega))
  have S9 := Lib.hid (S8.out.grown hg (fun j hj => by cases hj; omega))
  have T9 := hr
  have B9 := Lib.hid (grown_bel B8.out hg (by omega))
  have L9 : Hid (AS w9 A8 n8 c8 L) := by
    obtain ⟨A', n', c', he, h9⟩ := own_as (own_grown O8.out hg (fun k hk => by have := own_block O8.out k hk; omega)) HSP.out.1 (by show L.length ≤ _; have := HSP.out.2; omega)
    cases he
    exact Lib.hid h9
  have M9 : Hid (AS w9 A9 n9 c9 L) := Lib.hid hAS
  simp only at T9
  obtain ⟨_, _, _, _, _, hQE, _⟩ := Q9.open
  obtain ⟨_, _, _, _, _, hTE, _⟩ := T9.open
  obtain ⟨hx0, hx1, hx2⟩ := X9.cells
  obtain ⟨hy0, hy1, hy2⟩ := Y9.cells
  simp only at hx0 hx1 hx2 hy0 hy1 hy2
  have AK := Lib.hid (fun (a : World) (h : Below w9.heap.size w9 a) => show Below w9.heap.size w9 a ∧ a.cell? ⟨w4.heap.size, 0, none⟩ = some (.int .i64 k) ∧ a.cell? ⟨w4.heap.size, 1, none⟩ = some (.int .i64 n) ∧ a.cell? ⟨w4.heap.size, 2, none⟩ = some (.string b) ∧ a.cell? ⟨w4.heap.size + 1, 0, none⟩ = some (.int .i64 k) ∧ a.cell? ⟨w4.heap.size + 1, 1, none⟩ = some (.int .i64 n) ∧ a.cell? ⟨w4.heap.size + 1, 2, none⟩ = some (.string b) ∧ a.cell? ⟨g2, 1, none⟩ = some (.int .i64 e1) ∧ a.cell? ⟨g4, 1, none⟩ = some (.int .i64 e2) from
    ⟨h, (h.cell (World.block_lt_of_cell? w9 _ hx0)).trans hx0, (h.cell (World.block_lt_of_cell? w9 _ hx1)).trans hx1, (h.cell (World.block_lt_of_cell? w9 _ hx2)).trans hx2, (h.cell (World.block_lt_of_cell? w9 _ hy0)).trans hy0, (h.cell (World.block_lt_of_cell? w9 _ hy1)).trans hy1, (h.cell (World.block_lt_of_cell? w9 _ hy2)).trans hy2,
      (h.cell (World.block_lt_of_cell? w9 _ hQE)).trans hQE, (h.cell (World.block_lt_of_cell? w9 _ hTE)).trans hTE⟩)
  have Q9' := Lib.hid Q9
  have T9' := Lib.hid T9
  clear ho hr hg hAS X8 Y8 Q8 R8 S8 T8 B8 O8 hQE hTE hx0 hx1 hx2 hy0 hy1 hy2 X9 Y9 Q9 T9
  obtain ⟨m1, hm1⟩ : ∃ m, m = ((if e1 = 0 then r1.length else 0 : Nat) : Int) := ⟨_, rfl⟩
  obtain ⟨m2, hm2⟩ : ∃ m, m = ((if e2 = 0 then r2.length else 0 : Nat) : Int) := ⟨_, rfl⟩
  have LR := Lib.hid (fun (a : World) h => Left_any (R9.out.below (w' := a) h))
  have LQ := Lib.hid (fun (a : World) h => refLeft_any (Q9'.out.below (w' := a) h))
  have LS := Lib.hid (fun (a : World) h => Left_any (S9.out.below (w' := a) h))
  have LT := Lib.hid (fun (a : World) h => refLeft_any (T9'.out.below (w' := a) h))
  rw [← hm1] at LR LQ
  rw [← hm2] at LS LT
  clear hm1 hm2
  go_wp2_with fail
  refine wp_region_held_drew (S := (fun w' => Below w9.heap.size w9 w' ∧ w'.cell? ⟨w4.heap.size, 0, none⟩ = some (.int .i64 k) ∧ w'.cell? ⟨w4.heap.size, 1, none⟩ = some (.int .i64 n) ∧ w'.cell? ⟨w4.heap.size, 2, none⟩ = some (.string b) ∧ w'.cell? ⟨w4.heap.size + 1, 0, none⟩ = some (.int .i64 k) ∧ w'.cell? ⟨w4.heap.size + 1, 1, none⟩ = some (.int .i64 n) ∧ w'.cell? ⟨w4.heap.size + 1, 2, none⟩ = some (.string b) ∧ w'.cell? ⟨g2, 1, none⟩ = some (.int .i64 e1) ∧ w'.cell? ⟨g4, 1, none⟩ = some (.int .i64 e2))) (by kernel_rfl) (AK.out _ (bel0 _).drew) (fun hHeld => ?_)
  refine' take_val (i := 0) (d := 27) (v := _) rfl rfl (by kernel_rfl) (by kernel_rfl) (by kernel_rfl) (fun _ _ _ h => h) (by rfl) ?_ (by assumption) ?_
  rotate_left
  · (intro w hSw; (try dsimp only at hSw); go_simp; (try with_reducible rfl))
  (try simp only [Act.put, List.setIfInBounds_toArray, List.set_cons_zero, List.set_cons_succ])
  refine' take_val (i := 1) (d := 28) (v := _) rfl rfl (by kernel_rfl) (by kernel_rfl) (by kernel_rfl) (fun _ _ _ h => h) (by rfl) ?_ (by assumption) ?_
  rotate_left
  · (intro w hSw; (try dsimp only at hSw); go_simp; (try with_reducible rfl))
  (try simp only [Act.put, List.setIfInBounds_toArray, List.set_cons_zero, List.set_cons_succ])
  refine' take_val (i := 2) (d := 29) (v := _) rfl rfl (by kernel_rfl) (by kernel_rfl) (by kernel_rfl) (fun _ _ _ h => h) (by rfl) ?_ (by assumption) ?_
  rotate_left
  · (intro w hSw; (try dsimp only at hSw); go_simp; (try with_reducible rfl))
  (try simp only [Act.put, List.setIfInBounds_toArray, List.set_cons_zero, List.set_cons_succ])
  refine' take_val (i := 3) (d := 30) (v := _) rfl rfl (by kernel_rfl) (by kernel_rfl) (by kernel_rfl) (fun _ _ _ h => h) (by rfl) ?_ (by assumption) ?_
  rotate_left
  · (intro w hSw; (try dsimp only at hSw); go_simp; (try with_reducible rfl))
  (try simp only [Act.put, List.setIfInBounds_toArray, List.set_cons_zero, List.set_cons_succ])
  refine' take_val (i := 4) (d := 31) (v := _) rfl rfl (by kernel_rfl) (by kernel_rfl) (by kernel_rfl) (fun _ _ _ h => h) (by rfl) ?_ (by assumption) ?_
  rotate_left
  · (intro w hSw; (try dsimp only at hSw); go_simp; (try with_reducible rfl))
  (try simp only [Act.put, List.setIfInBounds_toArray, List.set_cons_zero, List.set_cons_succ])
  refine' take_val (i := 6) (d := 33) (v := _) rfl rfl (by kernel_rfl) (by kernel_rfl) (by kernel_rfl) (fun _ _ _ h => h) (by rfl) ?_ (by assumption) ?_
  rotate_left
  · (intro w hSw; (try dsimp only at hSw); go_simp; (try with_reducible rfl))
  (try simp only [Act.put, List.setIfInBounds_toArray, List.set_cons_zero, List.set_cons_succ])
  refine' take_val (i := 7) (d := 34) (v := _) rfl rfl (by kernel_rfl) (by kernel_rfl) (by kernel_rfl) (fun _ _ _ h => h) (by rfl) ?_ (by assumption) ?_
  rotate_left
  · (intro w hSw; (try dsimp only at hSw); go_simp; (try with_reducible rfl))
  (try simp only [Act.put, List.setIfInBounds_toArray, List.set_cons_zero, List.set_cons_succ])
  refine' take_val (i := 8) (d := 35) (v := _) rfl rfl (by kernel_rfl) (by kernel_rfl) (by kernel_rfl) (fun _ _ _ h => h) (by rfl) ?_ (by assumption) ?_
  rotate_left
  · (intro w hSw; (try dsimp only at hSw); go_simp; (try with_reducible rfl))
  (try simp only [Act.put, List.setIfInBounds_toArray, List.set_cons_zero, List.set_cons_succ])
  refine' take_val (i := 9) (d := 36) (v := _) rfl rfl (by kernel_rfl) (by kernel_rfl) (by kernel_rfl) (fun _ _ _ h => h) (by rfl) ?_ (by assumption) ?_
  rotate_left
  · (intro w hSw; (try dsimp only at hSw); go_simp; (try with_reducible rfl))
  (try simp only [Act.put, List.setIfInBounds_toArray, List.set_cons_zero, List.set_cons_succ])
  refine wpAnyH_ready (rs := [5]) (by kernel_rfl) (by simp) ?_
  refine AllReadyH.cons rfl (fun K hK => ?_) AllReadyH.nil
  go_simp
  go_at_call 31
  refine (Err_any (R9.out.below (And.left (b := _) hHeld))).mono ?_
  rintro r wb ⟨rfl, rfl⟩
  go_wp2_with fail
  refine hK.out _ _ hHeld (fun hHeld => ?_)
  clear hK K
  (try simp only [Act.put, List.setIfInBounds_toArray, List.set_cons_zero, List.set_cons_succ])
  refine' take_val (i := 10) (d := 37) (v := _) rfl rfl (by kernel_rfl) (by kernel_rfl) (by kernel_rfl) (fun _ _ _ h => h) (by rfl) ?_ (by assumption) ?_
  rotate_left
  · (intro w hSw; (try dsimp only at hSw); go_simp; (try with_reducible rfl))
  (try simp only [Act.put, List.setIfInBounds_toArray, List.set_cons_zero, List.set_cons_succ])
  refine' take_val (i := 11) (d := 38) (v := _) rfl rfl (by kernel_rfl) (by kernel_rfl) (by kernel_rfl) (fun _ _ _ h => h) (by rfl) ?_ (by assumption) ?_
  rotate_left
  · (intro w hSw; (try dsimp only at hSw); go_simp; (try with_reducible rfl))
  (try simp only [Act.put, List.setIfInBounds_toArray, List.set_cons_zero, List.set_cons_succ])
  refine' take_val (i := 12) (d := 39) (v := _) rfl rfl (by kernel_rfl) (by kernel_rfl) (by kernel_rfl) (fun _ _ _ h => h) (by rfl) ?_ (by assumption) ?_
  rotate_left
  · (intro w hSw; (try dsimp only at hSw); go_simp; (try with_reducible rfl))
  (try simp only [Act.put, List.setIfInBounds_toArray, List.set_cons_zero, List.set_cons_succ])
  refine' take_val (i := 13) (d := 40) (v := _) rfl rfl (by kernel_rfl) (by kernel_rfl) (by kernel_rfl) (fun _ _ _ h => h) (by rfl) ?_ (by assumption) ?_
  rotate_left
  · (intro w hSw; (try dsimp only at hSw); go_simp; (try with_reducible rfl))
  (try simp only [Act.put, List.setIfInBounds_toArray, List.set_cons_zero, List.set_cons_succ])
  refine' take_val (i := 15) (d := 42) (v := _) rfl rfl (by kernel_rfl) (by kernel_rfl) (by kernel_rfl) (fun _ _ _ h => h) (by rfl) ?_ (by assumption) ?_
  rotate_left
  · (intro w hSw; (try dsimp only at hSw); go_simp; (try with_reducible rfl))
  (try simp only [Act.put, List.setIfInBounds_toArray, List.set_cons_zero, List.set_cons_succ])
  refine wpAnyH_ready (rs := [14]) (by kernel_rfl) (by simp) ?_
  refine AllReadyH.cons rfl (fun K hK => ?_) AllReadyH.nil
  go_simp
  go_at_call 28
  refine (LR.out _ (And.left (b := _) hHeld)).mono ?_
  rintro r wb ⟨rfl, rfl⟩
  go_wp2_with fail
  refine hK.out _ _ hHeld (fun hHeld => ?_)
  clear hK K
  (try simp only [Act.put, List.setIfInBounds_toArray, List.set_cons_zero, List.set_cons_succ])
  refine wpAnyH_ready (rs := [16]) (by kernel_rfl) (by simp) ?_
  refine AllReadyH.cons rfl (fun K hK => ?_) AllReadyH.nil
  go_simp
  go_at_call 47
  refine (LQ.out _ (And.left (b := _) hHeld)).mono ?_
  rintro r wb ⟨rfl, rfl⟩
  go_wp2_with fail
  refine hK.out _ _ hHeld (fun hHeld => ?_)
  clear hK K
  (try simp only [Act.put, List.setIfInBounds_toArray, List.set_cons_zero, List.set_cons_succ])
  refine' take_val (i := 17) (d := 44) (v := _) rfl rfl (by kernel_rfl) (by kernel_rfl) (by kernel_rfl) (fun _ _ _ h => h) (by rfl) ?_ (by assumption) ?_
  rotate_left
  · (intro w hSw; (try dsimp only at hSw); go_simp; (try with_reducible rfl))
  (try simp only [Act.put, List.setIfInBounds_toArray, List.set_cons_zero, List.set_cons_succ])
  refine' take_val (i := 18) (d := 45) (v := _) rfl rfl (by kernel_rfl) (by kernel_rfl) (by kernel_rfl) (fun _ _ _ h => h) (by rfl) ?_ (by assumption) ?_
  rotate_left
  · (intro w hSw; (try dsimp only at hSw); go_simp; (try with_reducible rfl))
  (try simp only [Act.put, List.setIfInBounds_toArray, List.set_cons_zero, List.set_cons_succ])
  refine' take_val (i := 19) (d := 46) (v := _) rfl rfl (by kernel_rfl) (by kernel_rfl) (by kernel_rfl) (fun _ _ _ h => h) (by rfl) ?_ (by assumption) ?_
  rotate_left
  · (intro w hSw; (try dsimp only at hSw); go_simp; (try with_reducible rfl))
  (try simp only [Act.put, List.setIfInBounds_toArray, List.set_cons_zero, List.set_cons_succ])
  refine' take_val (i := 20) (d := 47) (v := _) rfl rfl (by kernel_rfl) (by kernel_rfl) (by kernel_rfl) (fun _ _ _ h => h) (by rfl) ?_ (by assumption) ?_
  rotate_left
  · (intro w hSw; (try dsimp only at hSw); go_simp; (try with_reducible rfl))
  (try simp only [Act.put, List.setIfInBounds_toArray, List.set_cons_zero, List.set_cons_succ])
  refine' take_val (i := 21) (d := 48) (v := _) rfl rfl (by kernel_rfl) (by kernel_rfl) (by kernel_rfl) (fun _ _ _ h => h) (by rfl) ?_ (by assumption) ?_
  rotate_left
  · (intro w hSw; (try dsimp only at hSw); go_simp; (try with_reducible rfl))
  (try simp only [Act.put, List.setIfInBounds_toArray, List.set_cons_zero, List.set_cons_succ])
  refine wpAnyH_ready (rs := [22]) (by kernel_rfl) (by simp) ?_
  refine AllReadyH.cons rfl (fun K hK => ?_) AllReadyH.nil
  go_simp
  go_at_call 48
  refine (same_any (L9.out.below (And.left (b := _) hHeld)) (M9.out.below (And.left (b := _) hHeld))).mono ?_
  rintro r wb ⟨bb, rfl, hbb, hb⟩
  obtain rfl : bb = true := hbb.2 rfl
  clear hbb
  go_wp2_with fail
  refine hK.out _ _ (AK.out _ (nx (And.left (b := _) hHeld) hb)) (fun hHeld => ?_)
  clear hK K
  (try simp only [Act.put, List.setIfInBounds_toArray, List.set_cons_zero, List.set_cons_succ])
  refine' take_val (i := 23) (d := 50) (v := _) rfl rfl (by kernel_rfl) (by kernel_rfl) (by kernel_rfl) (fun _ _ _ h => h) (by rfl) ?_ (by assumption) ?_
  rotate_left
  · (intro w hSw; (try dsimp only at hSw); go_simp; (try with_reducible rfl))
  (try simp only [Act.put, List.setIfInBounds_toArray, List.set_cons_zero, List.set_cons_succ])
  refine' take_val (i := 24) (d := 51) (v := _) rfl rfl (by kernel_rfl) (by kernel_rfl) (by kernel_rfl) (fun _ _ _ h => h) (by rfl) ?_ (by assumption) ?_
  rotate_left
  · (intro w hSw; (try dsimp only at hSw); go_simp; (try with_reducible rfl))
  (try simp only [Act.put, List.setIfInBounds_toArray, List.set_cons_zero, List.set_cons_succ])
  refine' take_val (i := 25) (d := 52) (v := _) rfl rfl (by kernel_rfl) (by kernel_rfl) (by kernel_rfl) (fun _ _ _ h => h) (by rfl) ?_ (by assumption) ?_
  rotate_left
  · (intro w hSw; (try dsimp only at hSw); go_simp; (try with_reducible rfl))
  (try simp only [Act.put, List.setIfInBounds_toArray, List.set_cons_zero, List.set_cons_succ])
  refine' take_val (i := 27) (d := 54) (v := _) rfl rfl (by kernel_rfl) (by kernel_rfl) (by kernel_rfl) (fun _ _ _ h => h) (by rfl) ?_ (by assumption) ?_
  rotate_left
  · (intro w hSw; (try dsimp only at hSw); go_simp; (try with_reducible rfl))
  (try simp only [Act.put, List.setIfInBounds_toArray, List.set_cons_zero, List.set_cons_succ])
  refine' take_val (i := 28) (d := 55) (v := _) rfl rfl (by kernel_rfl) (by kernel_rfl) (by kernel_rfl) (fun _ _ _ h => h) (by rfl) ?_ (by assumption) ?_
  rotate_left
  · (intro w hSw; (try dsimp only at hSw); go_simp; (try with_reducible rfl))
  (try simp only [Act.put, List.setIfInBounds_toArray, List.set_cons_zero, List.set_cons_succ])
  refine' take_val (i := 29) (d := 56) (v := _) rfl rfl (by kernel_rfl) (by kernel_rfl) (by kernel_rfl) (fun _ _ _ h => h) (by rfl) ?_ (by assumption) ?_
  rotate_left
  · (intro w hSw; (try dsimp only at hSw); go_simp; (try with_reducible rfl))
  (try simp only [Act.put, List.setIfInBounds_toArray, List.set_cons_zero, List.set_cons_succ])
  refine' take_val (i := 30) (d := 57) (v := _) rfl rfl (by kernel_rfl) (by kernel_rfl) (by kernel_rfl) (fun _ _ _ h => h) (by rfl) ?_ (by assumption) ?_
  rotate_left
  · (intro w hSw; (try dsimp only at hSw); go_simp; (try with_reducible rfl))
  (try simp only [Act.put, List.setIfInBounds_toArray, List.set_cons_zero, List.set_cons_succ])
  refine wpAnyH_ready (rs := [26]) (by kernel_rfl) (by simp) ?_
  refine AllReadyH.cons rfl (fun K hK => ?_) AllReadyH.nil
  go_simp
  go_at_call 31
  refine (Err_any (S9.out.below (And.left (b := _) hHeld))).mono ?_
  rintro r wb ⟨rfl, rfl⟩
  go_wp2_with fail
  refine hK.out _ _ hHeld (fun hHeld => ?_)
  clear hK K
  (try simp only [Act.put, List.setIfInBounds_toArray, List.set_cons_zero, List.set_cons_succ])
  refine' take_val (i := 31) (d := 58) (v := _) rfl rfl (by kernel_rfl) (by kernel_rfl) (by kernel_rfl) (fun _ _ _ h => h) (by rfl) ?_ (by assumption) ?_
  rotate_left
  · (intro w hSw; (try dsimp only at hSw); go_simp; (try with_reducible rfl))
  (try simp only [Act.put, List.setIfInBounds_toArray, List.set_cons_zero, List.set_cons_succ])
  refine' take_val (i := 32) (d := 59) (v := _) rfl rfl (by kernel_rfl) (by kernel_rfl) (by kernel_rfl) (fun _ _ _ h => h) (by rfl) ?_ (by assumption) ?_
  rotate_left
  · (intro w hSw; (try dsimp only at hSw); go_simp; (try with_reducible rfl))
  (try simp only [Act.put, List.setIfInBounds_toArray, List.set_cons_zero, List.set_cons_succ])
  refine' take_val (i := 33) (d := 60) (v := _) rfl rfl (by kernel_rfl) (by kernel_rfl) (by kernel_rfl) (fun _ _ _ h => h) (by rfl) ?_ (by assumption) ?_
  rotate_left
  · (intro w hSw; (try dsimp only at hSw); go_simp; (try with_reducible rfl))
  (try simp only [Act.put, List.setIfInBounds_toArray, List.set_cons_zero, List.set_cons_succ])
  refine' take_val (i := 34) (d := 61) (v := _) rfl rfl (by kernel_rfl) (by kernel_rfl) (by kernel_rfl) (fun _ _ _ h => h) (by rfl) ?_ (by assumption) ?_
  rotate_left
  · (intro w hSw; (try dsimp only at hSw); go_simp; (try with_reducible rfl))
  (try simp only [Act.put, List.setIfInBounds_toArray, List.set_cons_zero, List.set_cons_succ])
  refine' take_val (i := 36) (d := 63) (v := _) rfl rfl (by kernel_rfl) (by kernel_rfl) (by kernel_rfl) (fun _ _ _ h => h) (by rfl) ?_ (by assumption) ?_
  rotate_left
  · (intro w hSw; (try dsimp only at hSw); go_simp; (try with_reducible rfl))
  (try simp only [Act.put, List.setIfInBounds_toArray, List.set_cons_zero, List.set_cons_succ])
  refine wpAnyH_ready (rs := [35]) (by kernel_rfl) (by simp) ?_
  refine AllReadyH.cons rfl (fun K hK => ?_) AllReadyH.nil
  go_simp
  go_at_call 28
  refine (LS.out _ (And.left (b := _) hHeld)).mono ?_
  rintro r wb ⟨rfl, rfl⟩
  go_wp2_with fail
  refine hK.out _ _ hHeld (fun hHeld => ?_)
  clear hK K
  (try simp only [Act.put, List.setIfInBounds_toArray, List.set_cons_zero, List.set_cons_succ])
  refine wpAnyH_ready (rs := [37]) (by kernel_rfl) (by simp) ?_
  refine AllReadyH.cons rfl (fun K hK => ?_) AllReadyH.nil
  go_simp
  go_at_call 47
  refine (LT.out _ (And.left (b := _) hHeld)).mono ?_
  rintro r wb ⟨rfl, rfl⟩
  go_wp2_with fail
  refine hK.out _ _ hHeld (fun hHeld => ?_)
  clear hK K
  (try simp only [Act.put, List.setIfInBounds_toArray, List.set_cons_zero, List.set_cons_succ])
  refine' take_val (i := 38) (d := 65) (v := _) rfl rfl (by kernel_rfl) (by kernel_rfl) (by kernel_rfl) (fun _ _ _ h => h) (by rfl) ?_ (by assumption) ?_
  rotate_left
  · (intro w hSw; (try dsimp only at hSw); go_simp; (try with_reducible rfl))
  (try simp only [Act.put, List.setIfInBounds_toArray, List.set_cons_zero, List.set_cons_succ])
  refine' take_val (i := 39) (d := 66) (v := _) rfl rfl (by kernel_rfl) (by kernel_rfl) (by kernel_rfl) (fun _ _ _ h => h) (by rfl) ?_ (by assumption) ?_
  rotate_left
  · (intro w hSw; (try dsimp only at hSw); go_simp; (try with_reducible rfl))
  (try simp only [Act.put, List.setIfInBounds_toArray, List.set_cons_zero, List.set_cons_succ])
  refine' take_val (i := 40) (d := 67) (v := _) rfl rfl (by kernel_rfl) (by kernel_rfl) (by kernel_rfl) (fun _ _ _ h => h) (by rfl) ?_ (by assumption) ?_
  rotate_left
  · (intro w hSw; (try dsimp only at hSw); go_simp; (try with_reducible rfl))
  (try simp only [Act.put, List.setIfInBounds_toArray, List.set_cons_zero, List.set_cons_succ])
  refine wpAnyH_ready (rs := [41]) (by kernel_rfl) (by simp) ?_
  refine AllReadyH.cons rfl (fun K hK => ?_) AllReadyH.nil
  go_simp
  go_at_call 49
  refine (works08_any _).mono ?_
  rintro r wb ⟨rfl, hb⟩
  go_wp2_with fail
  refine hK.out _ _ (AK.out _ (nx (And.left (b := _) hHeld) hb)) (fun hHeld => ?_)
  clear hK K
  (try simp only [Act.put, List.setIfInBounds_toArray, List.set_cons_zero, List.set_cons_succ])
  refine' take_val (i := 42) (d := 69) (v := _) rfl rfl (by kernel_rfl) (by kernel_rfl) (by kernel_rfl) (fun _ _ _ h => h) (by rfl) ?_ (by assumption) ?_
  rotate_left
  · (intro w hSw; (try dsimp only at hSw); go_simp; (try with_reducible rfl))
  (try simp only [Act.put, List.setIfInBounds_toArray, List.set_cons_zero, List.set_cons_succ])
  refine' take_val (i := 43) (d := 2) (v := _) rfl rfl (by kernel_rfl) (by kernel_rfl) (by kernel_rfl) (fun _ _ _ h => h) (by rfl) ?_ (by assumption) ?_
  rotate_left
  · (intro w hSw; (try dsimp only at hSw); go_simp; (try with_reducible rfl))
  (try simp only [Act.put, List.setIfInBounds_toArray, List.set_cons_zero, List.set_cons_succ])
  refine wpAnyH_done (by kernel_rfl) ?_ _
  go_wp2_with fail
  go_ret
  exact ⟨rfl, nx B9.out (And.left (b := _) hHeld)⟩
end Go.Proofs.Ytbbejajnfajpoaa
