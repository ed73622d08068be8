/- A list of an answer's parts: may it be? No conditions. -/
import Derived.Test.YtfedgjahbmcpoaaGreatGB28
import Derived.Deep.RegionHeld3
set_option linter.unusedSimpArgs false
set_option linter.unusedVariables false
namespace Go.Proofs.YtfedgjahbmcpoaaGreat
open Go.RowKit

set_option maxHeartbeats 16000000 in
set_option maxRecDepth 100000 in
theorem mayEd_any {A : Option Addr} {n c : Nat} {l : List Edg} {w : World} {most : Int} (hm : 0 ≤ most ∧ most ≤ 100000) (h : EL edR w A n c l) :
    Calls Tryz.prog 55 #[.slice A n c, .int .i64 most, .func (.func 56) #[] #[], .func (.func 57) #[] #[]] w fun e w' => SmR w w' e (MayL OkEd aheadE l ∧ (l.length : Int) ≤ most) := by
  have HL := Lib.hid h
  have HN := Lib.hid h.len
  have hlim : n ≤ 8796093021952 := by rw [h.len]; exact h.lim
  have hb0 := bel0 w
  clear h
  go_enter Tryz.func55, Tryz.ntmps55
  go_wp2_with fail
  go_loopw [13] (fun i wr => ∃ k : Nat, k ≤ n ∧ i = .int .i64 k ∧ Hid (MayL OkEd aheadE (l.take k)) ∧ Below w.heap.size w wr) (fun i _ => n - (intOf i).toNat)
  case atStart => exact ⟨0, Nat.zero_le _, rfl, Lib.hid (MayL.nil _ _), hb0⟩
  case round =>
    clear hb0
    obtain ⟨k, hk, rfl, HP, hb⟩ := hrel
    by_cases hlt : k < n
    · have hl1 : k < l.length := by rw [← HN.out]; exact hlt
      obtain ⟨g, o, csx, hA, hrdx, hcx⟩ := HL.out.cellsAt hb hl1
      obtain rfl := hrdx
      have HSN := Lib.hid (MayL.snoc (is := OkEd) (ah := aheadE) hl1)
      have HIS := Lib.hid (fun (h : MayL OkEd aheadE l) => h.1 _ (List.getElem_mem hl1))
      have haa : (⟨g, o, none⟩ : Addr).add (k * 3) = ⟨g, o + k * 3, none⟩ := addr_add _ _ _
      have hk0 : (0 : Int) ≤ (k : Int) := by omega
      have hk1 : (k : Int) < (n : Int) := by omega
      have e0 : wr.cell? ⟨g, o + k * 3, none⟩ = some (.string l[k].fr) := hcx 0 _ rfl
      have e1 : wr.cell? ⟨g, o + k * 3 + 1, none⟩ = some (.string l[k].to') := hcx 1 _ rfl
      have e2 : wr.cell? ⟨g, o + k * 3 + 2, none⟩ = some (.int .i64 l[k].ct) := hcx 2 _ rfl
      clear hcx
      by_cases hz : k = 0
      · subst hz
        subst hA
        have HSN1 := Lib.hid (fun hx => HSN.out.2 ⟨HP.out, hx, fun h => absurd h (Nat.lt_irrefl 0)⟩)
        generalize l[0] = x at *
        simp only [Nat.zero_mul, Nat.add_zero] at e0 e1 e2
        rw [show ((0 : Nat) : Int) = 0 from rfl]
        clear HSN HP haa hk0 hk1 hk
        by_cases hx : OkEd x
        · have HX := Lib.hid hx
          clear hx
          go_wp2_with fail
          obtain ⟨W1, hW⟩ : ∃ W, W = wr.alloc (.cells #[.string x.fr, .string x.to', .int .i64 x.ct] 58) := ⟨_, rfl⟩
          have hbw : Below wr.heap.size wr W1 := by rw [hW]; exact bel1 _ _
          have hq := heap_alloc_new wr (.cells #[.string x.fr, .string x.to', .int .i64 x.ct] 58)
          rw [← hW] at hq ⊢
          clear hW
          obtain ⟨q, hqq⟩ : ∃ q, q = wr.heap.size := ⟨_, rfl⟩
          rw [← hqq] at hq ⊢
          clear hqq
          have HQ := Lib.hid hq
          clear hq
          have AK := Lib.hid (fun (a : World) (h : Below W1.heap.size W1 a) => show Below W1.heap.size W1 a ∧ a.cell? ⟨q, 0, none⟩ = some (.string x.fr) ∧ a.cell? ⟨q, 1, none⟩ = some (.string x.to') ∧ a.cell? ⟨q, 2, none⟩ = some (.int .i64 x.ct) from ⟨h, cell_of (blkB HQ.out h) 0, cell_of (blkB HQ.out h) 1, cell_of (blkB HQ.out h) 2⟩)
          clear e0 e1 e2
          refine wp_region_held_drew (S := (fun w' => Below W1.heap.size W1 w' ∧ w'.cell? ⟨q, 0, none⟩ = some (.string x.fr) ∧ w'.cell? ⟨q, 1, none⟩ = some (.string x.to') ∧ w'.cell? ⟨q, 2, none⟩ = some (.int .i64 x.ct))) (by kernel_rfl) (AK.out _ (bel0 _).drew) (fun hHeld => ?_)
          refine' take_val (i := 0) (d := 18) (v := _) rfl rfl (by kernel_rfl) (by kernel_rfl) (by kernel_rfl) (fun _ _ _ h => h) (by rfl) ?_ (by assumption) ?_
          rotate_left
          · (intro w hSw; (try dsimp only at hSw); go_simp; (try with_reducible rfl))
          (try simp only [Act.put, List.setIfInBounds_toArray, List.set_cons_zero, List.set_cons_succ])
          refine' take_val (i := 1) (d := 19) (v := _) rfl rfl (by kernel_rfl) (by kernel_rfl) (by kernel_rfl) (fun _ _ _ h => h) (by rfl) ?_ (by assumption) ?_
          rotate_left
          · (intro w hSw; (try dsimp only at hSw); go_simp; (try with_reducible rfl))
          (try simp only [Act.put, List.setIfInBounds_toArray, List.set_cons_zero, List.set_cons_succ])
          refine wpAnyH_ready (rs := [2]) (by kernel_rfl) (by simp) ?_
          refine AllReadyH.cons rfl (fun K hK => ?_) AllReadyH.nil
          go_simp
          refine (mayEdge_any x _).mono ?_
          rintro r wb ⟨bb, rfl, hbb, hbx⟩
          obtain rfl : bb = true := hbb.2 HX.out
          clear hbb
          go_wp2_with fail
          refine hK.out _ _ (AK.out _ (nx (And.left (b := _) hHeld) hbx)) (fun hHeld => ?_)
          clear hK K
          (try simp only [Act.put, List.setIfInBounds_toArray, List.set_cons_zero, List.set_cons_succ])
          refine' take_val (i := 3) (d := 21) (v := _) rfl rfl (by kernel_rfl) (by kernel_rfl) (by kernel_rfl) (fun _ _ _ h => h) (by rfl) ?_ (by assumption) ?_
          rotate_left
          · (intro w hSw; (try dsimp only at hSw); go_simp; (try with_reducible rfl))
          (try simp only [Act.put, List.setIfInBounds_toArray, List.set_cons_zero, List.set_cons_succ])
          refine' take_val (i := 4) (d := 22) (v := _) rfl rfl (by kernel_rfl) (by kernel_rfl) (by kernel_rfl) (fun _ _ _ h => h) (by rfl) ?_ (by assumption) ?_
          rotate_left
          · (intro w hSw; (try dsimp only at hSw); go_simp; (try with_reducible rfl))
          (try simp only [Act.put, List.setIfInBounds_toArray, List.set_cons_zero, List.set_cons_succ])
          refine' take_val (i := 5) (d := 23) (v := _) rfl rfl (by kernel_rfl) (by kernel_rfl) (by kernel_rfl) (fun _ _ _ h => h) (by rfl) ?_ (by assumption) ?_
          rotate_left
          · (intro w hSw; (try dsimp only at hSw); go_simp; (try with_reducible rfl))
          (try simp only [Act.put, List.setIfInBounds_toArray, List.set_cons_zero, List.set_cons_succ])
          refine' take_val (i := 6) (d := 24) (v := _) rfl rfl (by kernel_rfl) (by kernel_rfl) (by kernel_rfl) (fun _ _ _ h => h) (by rfl) ?_ (by assumption) ?_
          rotate_left
          · (intro w hSw; (try dsimp only at hSw); go_simp; (try with_reducible rfl))
          (try simp only [Act.put, List.setIfInBounds_toArray, List.set_cons_zero, List.set_cons_succ])
          refine' take_val (i := 7) (d := 25) (v := _) rfl rfl (by kernel_rfl) (by kernel_rfl) (by kernel_rfl) (fun _ _ _ h => h) (by rfl) ?_ (by assumption) ?_
          rotate_left
          · (intro w hSw; (try dsimp only at hSw); go_simp; (try with_reducible rfl))
          (try simp only [Act.put, List.setIfInBounds_toArray, List.set_cons_zero, List.set_cons_succ])
          refine take_skip (i := 8) (d := 26) rfl rfl (by kernel_rfl) (by kernel_rfl) (by kernel_rfl) (fun _ _ _ h => h) (by rfl) (by assumption) ?_
          (try simp only [Act.put, List.setIfInBounds_toArray, List.set_cons_zero, List.set_cons_succ])
          refine take_skip (i := 9) (d := 27) rfl rfl (by kernel_rfl) (by kernel_rfl) (by kernel_rfl) (fun _ _ _ h => h) (by rfl) (by assumption) ?_
          (try simp only [Act.put, List.setIfInBounds_toArray, List.set_cons_zero, List.set_cons_succ])
          refine take_skip (i := 10) (d := 28) rfl rfl (by kernel_rfl) (by kernel_rfl) (by kernel_rfl) (fun _ _ _ h => h) (by rfl) (by assumption) ?_
          (try simp only [Act.put, List.setIfInBounds_toArray, List.set_cons_zero, List.set_cons_succ])
          refine take_skip (i := 11) (d := 29) rfl rfl (by kernel_rfl) (by kernel_rfl) (by kernel_rfl) (fun _ _ _ h => h) (by rfl) (by assumption) ?_
          (try simp only [Act.put, List.setIfInBounds_toArray, List.set_cons_zero, List.set_cons_succ])
          refine take_skip (i := 12) (d := 30) rfl rfl (by kernel_rfl) (by kernel_rfl) (by kernel_rfl) (fun _ _ _ h => h) (by rfl) (by assumption) ?_
          (try simp only [Act.put, List.setIfInBounds_toArray, List.set_cons_zero, List.set_cons_succ])
          refine take_skip (i := 13) (d := 31) rfl rfl (by kernel_rfl) (by kernel_rfl) (by kernel_rfl) (fun _ _ _ h => h) (by rfl) (by assumption) ?_
          (try simp only [Act.put, List.setIfInBounds_toArray, List.set_cons_zero, List.set_cons_succ])
          refine take_skip (i := 14) (d := 32) rfl rfl (by kernel_rfl) (by kernel_rfl) (by kernel_rfl) (fun _ _ _ h => h) (by rfl) (by assumption) ?_
          (try simp only [Act.put, List.setIfInBounds_toArray, List.set_cons_zero, List.set_cons_succ])
          refine take_skip (i := 15) (d := 33) rfl rfl (by kernel_rfl) (by kernel_rfl) (by kernel_rfl) (fun _ _ _ h => h) (by rfl) (by assumption) ?_
          (try simp only [Act.put, List.setIfInBounds_toArray, List.set_cons_zero, List.set_cons_succ])
          refine take_skip (i := 16) (d := 34) rfl rfl (by kernel_rfl) (by kernel_rfl) (by kernel_rfl) (fun _ _ _ h => h) (by rfl) (by assumption) ?_
          (try simp only [Act.put, List.setIfInBounds_toArray, List.set_cons_zero, List.set_cons_succ])
          refine' take_val (i := 17) (d := 35) (v := _) rfl rfl (by kernel_rfl) (by kernel_rfl) (by kernel_rfl) (fun _ _ _ h => h) (by rfl) ?_ (by assumption) ?_
          rotate_left
          · (intro w hSw; (try dsimp only at hSw); go_simp; (try with_reducible rfl))
          (try simp only [Act.put, List.setIfInBounds_toArray, List.set_cons_zero, List.set_cons_succ])
          refine' take_val (i := 18) (d := 36) (v := _) rfl rfl (by kernel_rfl) (by kernel_rfl) (by kernel_rfl) (fun _ _ _ h => h) (by rfl) ?_ (by assumption) ?_
          rotate_left
          · (intro w hSw; (try dsimp only at hSw); go_simp; (try with_reducible rfl))
          (try simp only [Act.put, List.setIfInBounds_toArray, List.set_cons_zero, List.set_cons_succ])
          refine wpAnyH_done (by kernel_rfl) ?_ _
          have hbk := nx hb (nx hbw hHeld.1)
          clear hHeld AK
          go_wp2_with fail
          exact ⟨⟨0 + 1, by omega, (by first | rfl | go_num), Lib.hid (HSN1.out HX.out), hbk⟩, by simp [intOf]; omega⟩
        · have HX := Lib.hid hx
          clear hx
          go_wp2_with fail
          obtain ⟨W1, hW⟩ : ∃ W, W = wr.alloc (.cells #[.string x.fr, .string x.to', .int .i64 x.ct] 58) := ⟨_, rfl⟩
          have hbw : Below wr.heap.size wr W1 := by rw [hW]; exact bel1 _ _
          have hq := heap_alloc_new wr (.cells #[.string x.fr, .string x.to', .int .i64 x.ct] 58)
          rw [← hW] at hq ⊢
          clear hW
          obtain ⟨q, hqq⟩ : ∃ q, q = wr.heap.size := ⟨_, rfl⟩
          rw [← hqq] at hq ⊢
          clear hqq
          have HQ := Lib.hid hq
          clear hq
          have AK := Lib.hid (fun (a : World) (h : Below W1.heap.size W1 a) => show Below W1.heap.size W1 a ∧ a.cell? ⟨q, 0, none⟩ = some (.string x.fr) ∧ a.cell? ⟨q, 1, none⟩ = some (.string x.to') ∧ a.cell? ⟨q, 2, none⟩ = some (.int .i64 x.ct) from ⟨h, cell_of (blkB HQ.out h) 0, cell_of (blkB HQ.out h) 1, cell_of (blkB HQ.out h) 2⟩)
          clear e0 e1 e2
          refine wp_region_held_drew (S := (fun w' => Below W1.heap.size W1 w' ∧ w'.cell? ⟨q, 0, none⟩ = some (.string x.fr) ∧ w'.cell? ⟨q, 1, none⟩ = some (.string x.to') ∧ w'.cell? ⟨q, 2, none⟩ = some (.int .i64 x.ct))) (by kernel_rfl) (AK.out _ (bel0 _).drew) (fun hHeld => ?_)
          refine' take_val (i := 0) (d := 18) (v := _) rfl rfl (by kernel_rfl) (by kernel_rfl) (by kernel_rfl) (fun _ _ _ h => h) (by rfl) ?_ (by assumption) ?_
          rotate_left
          · (intro w hSw; (try dsimp only at hSw); go_simp; (try with_reducible rfl))
          (try simp only [Act.put, List.setIfInBounds_toArray, List.set_cons_zero, List.set_cons_succ])
          refine' take_val (i := 1) (d := 19) (v := _) rfl rfl (by kernel_rfl) (by kernel_rfl) (by kernel_rfl) (fun _ _ _ h => h) (by rfl) ?_ (by assumption) ?_
          rotate_left
          · (intro w hSw; (try dsimp only at hSw); go_simp; (try with_reducible rfl))
          (try simp only [Act.put, List.setIfInBounds_toArray, List.set_cons_zero, List.set_cons_succ])
          refine wpAnyH_ready (rs := [2]) (by kernel_rfl) (by simp) ?_
          refine AllReadyH.cons rfl (fun K hK => ?_) AllReadyH.nil
          go_simp
          refine (mayEdge_any x _).mono ?_
          rintro r wb ⟨bb, rfl, hbb, hbx⟩
          obtain rfl : bb = false := by cases bb with | false => rfl | true => exact absurd (hbb.1 rfl) HX.out
          clear hbb
          go_wp2_with fail
          refine hK.out _ _ (AK.out _ (nx (And.left (b := _) hHeld) hbx)) (fun hHeld => ?_)
          clear hK K
          (try simp only [Act.put, List.setIfInBounds_toArray, List.set_cons_zero, List.set_cons_succ])
          refine' take_val (i := 3) (d := 21) (v := _) rfl rfl (by kernel_rfl) (by kernel_rfl) (by kernel_rfl) (fun _ _ _ h => h) (by rfl) ?_ (by assumption) ?_
          rotate_left
          · (intro w hSw; (try dsimp only at hSw); go_simp; (try with_reducible rfl))
          (try simp only [Act.put, List.setIfInBounds_toArray, List.set_cons_zero, List.set_cons_succ])
          refine' take_val (i := 4) (d := 22) (v := _) rfl rfl (by kernel_rfl) (by kernel_rfl) (by kernel_rfl) (fun _ _ _ h => h) (by rfl) ?_ (by assumption) ?_
          rotate_left
          · (intro w hSw; (try dsimp only at hSw); go_simp; (try with_reducible rfl))
          (try simp only [Act.put, List.setIfInBounds_toArray, List.set_cons_zero, List.set_cons_succ])
          refine take_skip (i := 5) (d := 23) rfl rfl (by kernel_rfl) (by kernel_rfl) (by kernel_rfl) (fun _ _ _ h => h) (by rfl) (by assumption) ?_
          (try simp only [Act.put, List.setIfInBounds_toArray, List.set_cons_zero, List.set_cons_succ])
          refine take_skip (i := 6) (d := 24) rfl rfl (by kernel_rfl) (by kernel_rfl) (by kernel_rfl) (fun _ _ _ h => h) (by rfl) (by assumption) ?_
          (try simp only [Act.put, List.setIfInBounds_toArray, List.set_cons_zero, List.set_cons_succ])
          refine take_skip (i := 7) (d := 25) rfl rfl (by kernel_rfl) (by kernel_rfl) (by kernel_rfl) (fun _ _ _ h => h) (by rfl) (by assumption) ?_
          (try simp only [Act.put, List.setIfInBounds_toArray, List.set_cons_zero, List.set_cons_succ])
          refine take_skip (i := 8) (d := 26) rfl rfl (by kernel_rfl) (by kernel_rfl) (by kernel_rfl) (fun _ _ _ h => h) (by rfl) (by assumption) ?_
          (try simp only [Act.put, List.setIfInBounds_toArray, List.set_cons_zero, List.set_cons_succ])
          refine take_skip (i := 9) (d := 27) rfl rfl (by kernel_rfl) (by kernel_rfl) (by kernel_rfl) (fun _ _ _ h => h) (by rfl) (by assumption) ?_
          (try simp only [Act.put, List.setIfInBounds_toArray, List.set_cons_zero, List.set_cons_succ])
          refine take_skip (i := 10) (d := 28) rfl rfl (by kernel_rfl) (by kernel_rfl) (by kernel_rfl) (fun _ _ _ h => h) (by rfl) (by assumption) ?_
          (try simp only [Act.put, List.setIfInBounds_toArray, List.set_cons_zero, List.set_cons_succ])
          refine take_skip (i := 11) (d := 29) rfl rfl (by kernel_rfl) (by kernel_rfl) (by kernel_rfl) (fun _ _ _ h => h) (by rfl) (by assumption) ?_
          (try simp only [Act.put, List.setIfInBounds_toArray, List.set_cons_zero, List.set_cons_succ])
          refine take_skip (i := 12) (d := 30) rfl rfl (by kernel_rfl) (by kernel_rfl) (by kernel_rfl) (fun _ _ _ h => h) (by rfl) (by assumption) ?_
          (try simp only [Act.put, List.setIfInBounds_toArray, List.set_cons_zero, List.set_cons_succ])
          refine take_skip (i := 13) (d := 31) rfl rfl (by kernel_rfl) (by kernel_rfl) (by kernel_rfl) (fun _ _ _ h => h) (by rfl) (by assumption) ?_
          (try simp only [Act.put, List.setIfInBounds_toArray, List.set_cons_zero, List.set_cons_succ])
          refine take_skip (i := 14) (d := 32) rfl rfl (by kernel_rfl) (by kernel_rfl) (by kernel_rfl) (fun _ _ _ h => h) (by rfl) (by assumption) ?_
          (try simp only [Act.put, List.setIfInBounds_toArray, List.set_cons_zero, List.set_cons_succ])
          refine take_skip (i := 15) (d := 33) rfl rfl (by kernel_rfl) (by kernel_rfl) (by kernel_rfl) (fun _ _ _ h => h) (by rfl) (by assumption) ?_
          (try simp only [Act.put, List.setIfInBounds_toArray, List.set_cons_zero, List.set_cons_succ])
          refine take_skip (i := 16) (d := 34) rfl rfl (by kernel_rfl) (by kernel_rfl) (by kernel_rfl) (fun _ _ _ h => h) (by rfl) (by assumption) ?_
          (try simp only [Act.put, List.setIfInBounds_toArray, List.set_cons_zero, List.set_cons_succ])
          refine take_skip (i := 17) (d := 35) rfl rfl (by kernel_rfl) (by kernel_rfl) (by kernel_rfl) (fun _ _ _ h => h) (by rfl) (by assumption) ?_
          (try simp only [Act.put, List.setIfInBounds_toArray, List.set_cons_zero, List.set_cons_succ])
          refine' take_val (i := 18) (d := 36) (v := _) rfl rfl (by kernel_rfl) (by kernel_rfl) (by kernel_rfl) (fun _ _ _ h => h) (by rfl) ?_ (by assumption) ?_
          rotate_left
          · (intro w hSw; (try dsimp only at hSw); go_simp; (try with_reducible rfl))
          (try simp only [Act.put, List.setIfInBounds_toArray, List.set_cons_zero, List.set_cons_succ])
          refine wpAnyH_done (by kernel_rfl) ?_ _
          have hbk := nx hb (nx hbw hHeld.1)
          clear hHeld AK
          go_wp2_with fail
          go_ret
          exact smNo (fun h => HX.out (HIS.out h.1)) hbk
      · obtain ⟨j, rfl⟩ : ∃ j, k = j + 1 := ⟨k - 1, by omega⟩
        have hl2 : j < l.length := by omega
        obtain ⟨g', o', csy, hA', hrdy, hcy⟩ := HL.out.cellsAt hb hl2
        rw [hA] at hA'
        cases hA'
        obtain rfl := hrdy
        subst hA
        have hab : (⟨g, o, none⟩ : Addr).add (j * 3) = ⟨g, o + j * 3, none⟩ := addr_add _ _ _
        have HAH := Lib.hid (fun (h : MayL OkEd aheadE l) => show aheadE l[j] l[j + 1] from h.2 j hl1)
        have HSN1 := Lib.hid (fun hx (hz : aheadE l[j] l[j + 1]) => HSN.out.2 ⟨HP.out, hx, fun _ => hz⟩)
        have r0 : wr.cell? ⟨g, o + j * 3, none⟩ = some (.string l[j].fr) := hcy 0 _ rfl
        have r1 : wr.cell? ⟨g, o + j * 3 + 1, none⟩ = some (.string l[j].to') := hcy 1 _ rfl
        have r2 : wr.cell? ⟨g, o + j * 3 + 2, none⟩ = some (.int .i64 l[j].ct) := hcy 2 _ rfl
        clear hcy
        rw [show ((j + 1 : Nat) : Int) = (j : Int) + 1 from rfl] at hk0 hk1 ⊢
        have hk2 : (0 : Int) ≤ (j : Int) := by omega
        have hk3 : (j : Int) < (n : Int) := by omega
        have hk4 : decide ((0 : Int) < (j : Int) + 1) = true := decide_eq_true (by omega)
        have hk5 : IntKind.i64.wrap (j : Int) = (j : Int) := by rw [IntKind.wrap_i64]; omega
        generalize l[j + 1] = x at *
        generalize l[j] = y at *
        clear HSN HP hz hk
        by_cases hx : OkEd x
        · have HX := Lib.hid hx
          clear hx
          by_cases hz2 : aheadE y x
          · have HZ := Lib.hid hz2
            clear hz2
            go_wp2_with fail
            obtain ⟨W1, hW⟩ : ∃ W, W = wr.alloc (.cells #[.string x.fr, .string x.to', .int .i64 x.ct] 58) := ⟨_, rfl⟩
            have hbw : Below wr.heap.size wr W1 := by rw [hW]; exact bel1 _ _
            have hq := heap_alloc_new wr (.cells #[.string x.fr, .string x.to', .int .i64 x.ct] 58)
            rw [← hW] at hq ⊢
            clear hW
            obtain ⟨q, hqq⟩ : ∃ q, q = wr.heap.size := ⟨_, rfl⟩
            rw [← hqq] at hq ⊢
            clear hqq
            have HQ := Lib.hid hq
            clear hq
            have p0 := Lib.hid ((hbw.cell (p := ⟨g, o + j * 3, none⟩) (World.block_lt_of_cell? _ _ r0)).trans r0)
            have p1 := Lib.hid ((hbw.cell (p := ⟨g, o + j * 3 + 1, none⟩) (World.block_lt_of_cell? _ _ r1)).trans r1)
            have p2 := Lib.hid ((hbw.cell (p := ⟨g, o + j * 3 + 2, none⟩) (World.block_lt_of_cell? _ _ r2)).trans r2)
            clear r0 r1 r2
            have AK := Lib.hid (fun (a : World) (h : Below W1.heap.size W1 a) => show Below W1.heap.size W1 a ∧ a.cell? ⟨q, 0, none⟩ = some (.string x.fr) ∧ a.cell? ⟨q, 1, none⟩ = some (.string x.to') ∧ a.cell? ⟨q, 2, none⟩ = some (.int .i64 x.ct) ∧ a.cell? ⟨g, o + j * 3, none⟩ = some (.string y.fr) ∧ a.cell? ⟨g, o + j * 3 + 1, none⟩ = some (.string y.to') ∧ a.cell? ⟨g, o + j * 3 + 2, none⟩ = some (.int .i64 y.ct) from ⟨h, cell_of (blkB HQ.out h) 0, cell_of (blkB HQ.out h) 1, cell_of (blkB HQ.out h) 2, (h.cell (p := ⟨g, o + j * 3, none⟩) (World.block_lt_of_cell? _ _ (p0.out))).trans p0.out, (h.cell (p := ⟨g, o + j * 3 + 1, none⟩) (World.block_lt_of_cell? _ _ (p1.out))).trans p1.out, (h.cell (p := ⟨g, o + j * 3 + 2, none⟩) (World.block_lt_of_cell? _ _ (p2.out))).trans p2.out⟩)
            clear e0 e1 e2
            refine wp_region_held_drew (S := (fun w' => Below W1.heap.size W1 w' ∧ w'.cell? ⟨q, 0, none⟩ = some (.string x.fr) ∧ w'.cell? ⟨q, 1, none⟩ = some (.string x.to') ∧ w'.cell? ⟨q, 2, none⟩ = some (.int .i64 x.ct) ∧ w'.cell? ⟨g, o + j * 3, none⟩ = some (.string y.fr) ∧ w'.cell? ⟨g, o + j * 3 + 1, none⟩ = some (.string y.to') ∧ w'.cell? ⟨g, o + j * 3 + 2, none⟩ = some (.int .i64 y.ct))) (by kernel_rfl) (AK.out _ (bel0 _).drew) (fun hHeld => ?_)
            refine' take_val (i := 0) (d := 18) (v := _) rfl rfl (by kernel_rfl) (by kernel_rfl) (by kernel_rfl) (fun _ _ _ h => h) (by rfl) ?_ (by assumption) ?_
            rotate_left
            · (intro w hSw; (try dsimp only at hSw); go_simp; (try with_reducible rfl))
            (try simp only [Act.put, List.setIfInBounds_toArray, List.set_cons_zero, List.set_cons_succ])
            refine' take_val (i := 1) (d := 19) (v := _) rfl rfl (by kernel_rfl) (by kernel_rfl) (by kernel_rfl) (fun _ _ _ h => h) (by rfl) ?_ (by assumption) ?_
            rotate_left
            · (intro w hSw; (try dsimp only at hSw); go_simp; (try with_reducible rfl))
            (try simp only [Act.put, List.setIfInBounds_toArray, List.set_cons_zero, List.set_cons_succ])
            refine wpAnyH_ready (rs := [2]) (by kernel_rfl) (by simp) ?_
            refine AllReadyH.cons rfl (fun K hK => ?_) AllReadyH.nil
            go_simp
            refine (mayEdge_any x _).mono ?_
            rintro r wb ⟨bb, rfl, hbb, hbx⟩
            obtain rfl : bb = true := hbb.2 HX.out
            clear hbb
            go_wp2_with fail
            refine hK.out _ _ (AK.out _ (nx (And.left (b := _) hHeld) hbx)) (fun hHeld => ?_)
            clear hK K
            (try simp only [Act.put, List.setIfInBounds_toArray, List.set_cons_zero, List.set_cons_succ])
            refine' take_val (i := 3) (d := 21) (v := _) rfl rfl (by kernel_rfl) (by kernel_rfl) (by kernel_rfl) (fun _ _ _ h => h) (by rfl) ?_ (by assumption) ?_
            rotate_left
            · (intro w hSw; (try dsimp only at hSw); go_simp; (try with_reducible rfl))
            (try simp only [Act.put, List.setIfInBounds_toArray, List.set_cons_zero, List.set_cons_succ])
            refine' take_val (i := 4) (d := 22) (v := _) rfl rfl (by kernel_rfl) (by kernel_rfl) (by kernel_rfl) (fun _ _ _ h => h) (by rfl) ?_ (by assumption) ?_
            rotate_left
            · (intro w hSw; (try dsimp only at hSw); go_simp; (try with_reducible rfl))
            (try simp only [Act.put, List.setIfInBounds_toArray, List.set_cons_zero, List.set_cons_succ])
            refine' take_val (i := 5) (d := 23) (v := _) rfl rfl (by kernel_rfl) (by kernel_rfl) (by kernel_rfl) (fun _ _ _ h => h) (by rfl) ?_ (by assumption) ?_
            rotate_left
            · (intro w hSw; (try dsimp only at hSw); go_simp; (try with_reducible rfl))
            (try simp only [Act.put, List.setIfInBounds_toArray, List.set_cons_zero, List.set_cons_succ])
            refine' take_val (i := 6) (d := 24) (v := _) rfl rfl (by kernel_rfl) (by kernel_rfl) (by kernel_rfl) (fun _ _ _ h => h) (by rfl) ?_ (by assumption) ?_
            rotate_left
            · (intro w hSw; (try dsimp only at hSw); go_simp; (try with_reducible rfl))
            (try simp only [Act.put, List.setIfInBounds_toArray, List.set_cons_zero, List.set_cons_succ])
            refine' take_val (i := 7) (d := 25) (v := _) rfl rfl (by kernel_rfl) (by kernel_rfl) (by kernel_rfl) (fun _ _ _ h => h) (by rfl) ?_ (by assumption) ?_
            rotate_left
            · (intro w hSw; (try dsimp only at hSw); go_simp; (try with_reducible rfl))
            (try simp only [Act.put, List.setIfInBounds_toArray, List.set_cons_zero, List.set_cons_succ])
            refine' take_val (i := 8) (d := 26) (v := _) rfl rfl (by kernel_rfl) (by kernel_rfl) (by kernel_rfl) (fun _ _ _ h => h) (by rfl) ?_ (by assumption) ?_
            rotate_left
            · (intro w hSw; (try dsimp only at hSw); go_simp; (try with_reducible rfl))
            (try simp only [Act.put, List.setIfInBounds_toArray, List.set_cons_zero, List.set_cons_succ])
            refine' take_val (i := 9) (d := 27) (v := _) rfl rfl (by kernel_rfl) (by kernel_rfl) (by kernel_rfl) (fun _ _ _ h => h) (by rfl) ?_ (by assumption) ?_
            rotate_left
            · (intro w hSw; (try dsimp only at hSw); go_simp; (try with_reducible rfl))
            (try simp only [Act.put, List.setIfInBounds_toArray, List.set_cons_zero, List.set_cons_succ])
            refine' take_val (i := 10) (d := 28) (v := _) rfl rfl (by kernel_rfl) (by kernel_rfl) (by kernel_rfl) (fun _ _ _ h => h) (by rfl) ?_ (by assumption) ?_
            rotate_left
            · (intro w hSw; (try dsimp only at hSw); go_simp; (try with_reducible rfl))
            (try simp only [Act.put, List.setIfInBounds_toArray, List.set_cons_zero, List.set_cons_succ])
            refine' take_val (i := 11) (d := 29) (v := _) rfl rfl (by kernel_rfl) (by kernel_rfl) (by kernel_rfl) (fun _ _ _ h => h) (by rfl) ?_ (by assumption) ?_
            rotate_left
            · (intro w hSw; (try dsimp only at hSw); go_simp; (try with_reducible rfl))
            (try simp only [Act.put, List.setIfInBounds_toArray, List.set_cons_zero, List.set_cons_succ])
            refine' take_val (i := 12) (d := 30) (v := _) rfl rfl (by kernel_rfl) (by kernel_rfl) (by kernel_rfl) (fun _ _ _ h => h) (by rfl) ?_ (by assumption) ?_
            rotate_left
            · (intro w hSw; (try dsimp only at hSw); go_simp; (try with_reducible rfl))
            (try simp only [Act.put, List.setIfInBounds_toArray, List.set_cons_zero, List.set_cons_succ])
            refine' take_val (i := 13) (d := 31) (v := _) rfl rfl (by kernel_rfl) (by kernel_rfl) (by kernel_rfl) (fun _ _ _ h => h) (by rfl) ?_ (by assumption) ?_
            rotate_left
            · (intro w hSw; (try dsimp only at hSw); go_simp; (try with_reducible rfl))
            (try simp only [Act.put, List.setIfInBounds_toArray, List.set_cons_zero, List.set_cons_succ])
            refine' take_val (i := 14) (d := 32) (v := _) rfl rfl (by kernel_rfl) (by kernel_rfl) (by kernel_rfl) (fun _ _ _ h => h) (by rfl) ?_ (by assumption) ?_
            rotate_left
            · (intro w hSw; (try dsimp only at hSw); go_simp; (try with_reducible rfl))
            (try simp only [Act.put, List.setIfInBounds_toArray, List.set_cons_zero, List.set_cons_succ])
            refine wpAnyH_ready (rs := [15]) (by kernel_rfl) (by simp) ?_
            refine AllReadyH.cons rfl (fun K hK => ?_) AllReadyH.nil
            go_simp
            refine (edgeAhead_any y x _).mono ?_
            rintro r wb ⟨bb, rfl, hbb, hbx⟩
            obtain rfl : bb = true := hbb.2 HZ.out
            clear hbb
            go_wp2_with fail
            refine hK.out _ _ (AK.out _ (nx (And.left (b := _) hHeld) hbx)) (fun hHeld => ?_)
            clear hK K
            (try simp only [Act.put, List.setIfInBounds_toArray, List.set_cons_zero, List.set_cons_succ])
            refine' take_val (i := 16) (d := 34) (v := _) rfl rfl (by kernel_rfl) (by kernel_rfl) (by kernel_rfl) (fun _ _ _ h => h) (by rfl) ?_ (by assumption) ?_
            rotate_left
            · (intro w hSw; (try dsimp only at hSw); go_simp; (try with_reducible rfl))
            (try simp only [Act.put, List.setIfInBounds_toArray, List.set_cons_zero, List.set_cons_succ])
            refine' take_val (i := 17) (d := 35) (v := _) rfl rfl (by kernel_rfl) (by kernel_rfl) (by kernel_rfl) (fun _ _ _ h => h) (by rfl) ?_ (by assumption) ?_
            rotate_left
            · (intro w hSw; (try dsimp only at hSw); go_simp; (try with_reducible rfl))
            (try simp only [Act.put, List.setIfInBounds_toArray, List.set_cons_zero, List.set_cons_succ])
            refine' take_val (i := 18) (d := 36) (v := _) rfl rfl (by kernel_rfl) (by kernel_rfl) (by kernel_rfl) (fun _ _ _ h => h) (by rfl) ?_ (by assumption) ?_
            rotate_left
            · (intro w hSw; (try dsimp only at hSw); go_simp; (try with_reducible rfl))
            (try simp only [Act.put, List.setIfInBounds_toArray, List.set_cons_zero, List.set_cons_succ])
            refine wpAnyH_done (by kernel_rfl) ?_ _
            have hbk := nx hb (nx hbw hHeld.1)
            clear hHeld AK
            go_wp2_with fail
            exact ⟨⟨j + 1 + 1, by omega, (by first | rfl | go_num), Lib.hid (HSN1.out HX.out HZ.out), hbk⟩, by simp [intOf]; omega⟩
          · have HZ := Lib.hid hz2
            clear hz2
            go_wp2_with fail
            obtain ⟨W1, hW⟩ : ∃ W, W = wr.alloc (.cells #[.string x.fr, .string x.to', .int .i64 x.ct] 58) := ⟨_, rfl⟩
            have hbw : Below wr.heap.size wr W1 := by rw [hW]; exact bel1 _ _
            have hq := heap_alloc_new wr (.cells #[.string x.fr, .string x.to', .int .i64 x.ct] 58)
            rw [← hW] at hq ⊢
            clear hW
            obtain ⟨q, hqq⟩ : ∃ q, q = wr.heap.size := ⟨_, rfl⟩
            rw [← hqq] at hq ⊢
            clear hqq
            have HQ := Lib.hid hq
            clear hq
            have p0 := Lib.hid ((hbw.cell (p := ⟨g, o + j * 3, none⟩) (World.block_lt_of_cell? _ _ r0)).trans r0)
            have p1 := Lib.hid ((hbw.cell (p := ⟨g, o + j * 3 + 1, none⟩) (World.block_lt_of_cell? _ _ r1)).trans r1)
            have p2 := Lib.hid ((hbw.cell (p := ⟨g, o + j * 3 + 2, none⟩) (World.block_lt_of_cell? _ _ r2)).trans r2)
            clear r0 r1 r2
            have AK := Lib.hid (fun (a : World) (h : Below W1.heap.size W1 a) => show Below W1.heap.size W1 a ∧ a.cell? ⟨q, 0, none⟩ = some (.string x.fr) ∧ a.cell? ⟨q, 1, none⟩ = some (.string x.to') ∧ a.cell? ⟨q, 2, none⟩ = some (.int .i64 x.ct) ∧ a.cell? ⟨g, o + j * 3, none⟩ = some (.string y.fr) ∧ a.cell? ⟨g, o + j * 3 + 1, none⟩ = some (.string y.to') ∧ a.cell? ⟨g, o + j * 3 + 2, none⟩ = some (.int .i64 y.ct) from ⟨h, cell_of (blkB HQ.out h) 0, cell_of (blkB HQ.out h) 1, cell_of (blkB HQ.out h) 2, (h.cell (p := ⟨g, o + j * 3, none⟩) (World.block_lt_of_cell? _ _ (p0.out))).trans p0.out, (h.cell (p := ⟨g, o + j * 3 + 1, none⟩) (World.block_lt_of_cell? _ _ (p1.out))).trans p1.out, (h.cell (p := ⟨g, o + j * 3 + 2, none⟩) (World.block_lt_of_cell? _ _ (p2.out))).trans p2.out⟩)
            clear e0 e1 e2
            refine wp_region_held_drew (S := (fun w' => Below W1.heap.size W1 w' ∧ w'.cell? ⟨q, 0, none⟩ = some (.string x.fr) ∧ w'.cell? ⟨q, 1, none⟩ = some (.string x.to') ∧ w'.cell? ⟨q, 2, none⟩ = some (.int .i64 x.ct) ∧ w'.cell? ⟨g, o + j * 3, none⟩ = some (.string y.fr) ∧ w'.cell? ⟨g, o + j * 3 + 1, none⟩ = some (.string y.to') ∧ w'.cell? ⟨g, o + j * 3 + 2, none⟩ = some (.int .i64 y.ct))) (by kernel_rfl) (AK.out _ (bel0 _).drew) (fun hHeld => ?_)
            refine' take_val (i := 0) (d := 18) (v := _) rfl rfl (by kernel_rfl) (by kernel_rfl) (by kernel_rfl) (fun _ _ _ h => h) (by rfl) ?_ (by assumption) ?_
            rotate_left
            · (intro w hSw; (try dsimp only at hSw); go_simp; (try with_reducible rfl))
            (try simp only [Act.put, List.setIfInBounds_toArray, List.set_cons_zero, List.set_cons_succ])
            refine' take_val (i := 1) (d := 19) (v := _) rfl rfl (by kernel_rfl) (by kernel_rfl) (by kernel_rfl) (fun _ _ _ h => h) (by rfl) ?_ (by assumption) ?_
            rotate_left
            · (intro w hSw; (try dsimp only at hSw); go_simp; (try with_reducible rfl))
            (try simp only [Act.put, List.setIfInBounds_toArray, List.set_cons_zero, List.set_cons_succ])
            refine wpAnyH_ready (rs := [2]) (by kernel_rfl) (by simp) ?_
            refine AllReadyH.cons rfl (fun K hK => ?_) AllReadyH.nil
            go_simp
            refine (mayEdge_any x _).mono ?_
            rintro r wb ⟨bb, rfl, hbb, hbx⟩
            obtain rfl : bb = true := hbb.2 HX.out
            clear hbb
            go_wp2_with fail
            refine hK.out _ _ (AK.out _ (nx (And.left (b := _) hHeld) hbx)) (fun hHeld => ?_)
            clear hK K
            (try simp only [Act.put, List.setIfInBounds_toArray, List.set_cons_zero, List.set_cons_succ])
            refine' take_val (i := 3) (d := 21) (v := _) rfl rfl (by kernel_rfl) (by kernel_rfl) (by kernel_rfl) (fun _ _ _ h => h) (by rfl) ?_ (by assumption) ?_
            rotate_left
            · (intro w hSw; (try dsimp only at hSw); go_simp; (try with_reducible rfl))
            (try simp only [Act.put, List.setIfInBounds_toArray, List.set_cons_zero, List.set_cons_succ])
            refine' take_val (i := 4) (d := 22) (v := _) rfl rfl (by kernel_rfl) (by kernel_rfl) (by kernel_rfl) (fun _ _ _ h => h) (by rfl) ?_ (by assumption) ?_
            rotate_left
            · (intro w hSw; (try dsimp only at hSw); go_simp; (try with_reducible rfl))
            (try simp only [Act.put, List.setIfInBounds_toArray, List.set_cons_zero, List.set_cons_succ])
            refine' take_val (i := 5) (d := 23) (v := _) rfl rfl (by kernel_rfl) (by kernel_rfl) (by kernel_rfl) (fun _ _ _ h => h) (by rfl) ?_ (by assumption) ?_
            rotate_left
            · (intro w hSw; (try dsimp only at hSw); go_simp; (try with_reducible rfl))
            (try simp only [Act.put, List.setIfInBounds_toArray, List.set_cons_zero, List.set_cons_succ])
            refine' take_val (i := 6) (d := 24) (v := _) rfl rfl (by kernel_rfl) (by kernel_rfl) (by kernel_rfl) (fun _ _ _ h => h) (by rfl) ?_ (by assumption) ?_
            rotate_left
            · (intro w hSw; (try dsimp only at hSw); go_simp; (try with_reducible rfl))
            (try simp only [Act.put, List.setIfInBounds_toArray, List.set_cons_zero, List.set_cons_succ])
            refine' take_val (i := 7) (d := 25) (v := _) rfl rfl (by kernel_rfl) (by kernel_rfl) (by kernel_rfl) (fun _ _ _ h => h) (by rfl) ?_ (by assumption) ?_
            rotate_left
            · (intro w hSw; (try dsimp only at hSw); go_simp; (try with_reducible rfl))
            (try simp only [Act.put, List.setIfInBounds_toArray, List.set_cons_zero, List.set_cons_succ])
            refine' take_val (i := 8) (d := 26) (v := _) rfl rfl (by kernel_rfl) (by kernel_rfl) (by kernel_rfl) (fun _ _ _ h => h) (by rfl) ?_ (by assumption) ?_
            rotate_left
            · (intro w hSw; (try dsimp only at hSw); go_simp; (try with_reducible rfl))
            (try simp only [Act.put, List.setIfInBounds_toArray, List.set_cons_zero, List.set_cons_succ])
            refine' take_val (i := 9) (d := 27) (v := _) rfl rfl (by kernel_rfl) (by kernel_rfl) (by kernel_rfl) (fun _ _ _ h => h) (by rfl) ?_ (by assumption) ?_
            rotate_left
            · (intro w hSw; (try dsimp only at hSw); go_simp; (try with_reducible rfl))
            (try simp only [Act.put, List.setIfInBounds_toArray, List.set_cons_zero, List.set_cons_succ])
            refine' take_val (i := 10) (d := 28) (v := _) rfl rfl (by kernel_rfl) (by kernel_rfl) (by kernel_rfl) (fun _ _ _ h => h) (by rfl) ?_ (by assumption) ?_
            rotate_left
            · (intro w hSw; (try dsimp only at hSw); go_simp; (try with_reducible rfl))
            (try simp only [Act.put, List.setIfInBounds_toArray, List.set_cons_zero, List.set_cons_succ])
            refine' take_val (i := 11) (d := 29) (v := _) rfl rfl (by kernel_rfl) (by kernel_rfl) (by kernel_rfl) (fun _ _ _ h => h) (by rfl) ?_ (by assumption) ?_
            rotate_left
            · (intro w hSw; (try dsimp only at hSw); go_simp; (try with_reducible rfl))
            (try simp only [Act.put, List.setIfInBounds_toArray, List.set_cons_zero, List.set_cons_succ])
            refine' take_val (i := 12) (d := 30) (v := _) rfl rfl (by kernel_rfl) (by kernel_rfl) (by kernel_rfl) (fun _ _ _ h => h) (by rfl) ?_ (by assumption) ?_
            rotate_left
            · (intro w hSw; (try dsimp only at hSw); go_simp; (try with_reducible rfl))
            (try simp only [Act.put, List.setIfInBounds_toArray, List.set_cons_zero, List.set_cons_succ])
            refine' take_val (i := 13) (d := 31) (v := _) rfl rfl (by kernel_rfl) (by kernel_rfl) (by kernel_rfl) (fun _ _ _ h => h) (by rfl) ?_ (by assumption) ?_
            rotate_left
            · (intro w hSw; (try dsimp only at hSw); go_simp; (try with_reducible rfl))
            (try simp only [Act.put, List.setIfInBounds_toArray, List.set_cons_zero, List.set_cons_succ])
            refine' take_val (i := 14) (d := 32) (v := _) rfl rfl (by kernel_rfl) (by kernel_rfl) (by kernel_rfl) (fun _ _ _ h => h) (by rfl) ?_ (by assumption) ?_
            rotate_left
            · (intro w hSw; (try dsimp only at hSw); go_simp; (try with_reducible rfl))
            (try simp only [Act.put, List.setIfInBounds_toArray, List.set_cons_zero, List.set_cons_succ])
            refine wpAnyH_ready (rs := [15]) (by kernel_rfl) (by simp) ?_
            refine AllReadyH.cons rfl (fun K hK => ?_) AllReadyH.nil
            go_simp
            refine (edgeAhead_any y x _).mono ?_
            rintro r wb ⟨bb, rfl, hbb, hbx⟩
            obtain rfl : bb = false := by cases bb with | false => rfl | true => exact absurd (hbb.1 (by trivial)) HZ.out
            clear hbb
            go_wp2_with fail
            refine hK.out _ _ (AK.out _ (nx (And.left (b := _) hHeld) hbx)) (fun hHeld => ?_)
            clear hK K
            (try simp only [Act.put, List.setIfInBounds_toArray, List.set_cons_zero, List.set_cons_succ])
            refine' take_val (i := 16) (d := 34) (v := _) rfl rfl (by kernel_rfl) (by kernel_rfl) (by kernel_rfl) (fun _ _ _ h => h) (by rfl) ?_ (by assumption) ?_
            rotate_left
            · (intro w hSw; (try dsimp only at hSw); go_simp; (try with_reducible rfl))
            (try simp only [Act.put, List.setIfInBounds_toArray, List.set_cons_zero, List.set_cons_succ])
            refine' take_val (i := 17) (d := 35) (v := _) rfl rfl (by kernel_rfl) (by kernel_rfl) (by kernel_rfl) (fun _ _ _ h => h) (by rfl) ?_ (by assumption) ?_
            rotate_left
            · (intro w hSw; (try dsimp only at hSw); go_simp; (try with_reducible rfl))
            (try simp only [Act.put, List.setIfInBounds_toArray, List.set_cons_zero, List.set_cons_succ])
            refine' take_val (i := 18) (d := 36) (v := _) rfl rfl (by kernel_rfl) (by kernel_rfl) (by kernel_rfl) (fun _ _ _ h => h) (by rfl) ?_ (by assumption) ?_
            rotate_left
            · (intro w hSw; (try dsimp only at hSw); go_simp; (try with_reducible rfl))
            (try simp only [Act.put, List.setIfInBounds_toArray, List.set_cons_zero, List.set_cons_succ])
            refine wpAnyH_done (by kernel_rfl) ?_ _
            have hbk := nx hb (nx hbw hHeld.1)
            clear hHeld AK
            go_wp2_with fail
            go_ret
            exact smNo (fun h => HZ.out (HAH.out h.1)) hbk
        · have HX := Lib.hid hx
          clear hx
          go_wp2_with fail
          obtain ⟨W1, hW⟩ : ∃ W, W = wr.alloc (.cells #[.string x.fr, .string x.to', .int .i64 x.ct] 58) := ⟨_, rfl⟩
          have hbw : Below wr.heap.size wr W1 := by rw [hW]; exact bel1 _ _
          have hq := heap_alloc_new wr (.cells #[.string x.fr, .string x.to', .int .i64 x.ct] 58)
          rw [← hW] at hq ⊢
          clear hW
          obtain ⟨q, hqq⟩ : ∃ q, q = wr.heap.size := ⟨_, rfl⟩
          rw [← hqq] at hq ⊢
          clear hqq
          have HQ := Lib.hid hq
          clear hq
          have AK := Lib.hid (fun (a : World) (h : Below W1.heap.size W1 a) => show Below W1.heap.size W1 a ∧ a.cell? ⟨q, 0, none⟩ = some (.string x.fr) ∧ a.cell? ⟨q, 1, none⟩ = some (.string x.to') ∧ a.cell? ⟨q, 2, none⟩ = some (.int .i64 x.ct) from ⟨h, cell_of (blkB HQ.out h) 0, cell_of (blkB HQ.out h) 1, cell_of (blkB HQ.out h) 2⟩)
          clear e0 e1 e2
          refine wp_region_held_drew (S := (fun w' => Below W1.heap.size W1 w' ∧ w'.cell? ⟨q, 0, none⟩ = some (.string x.fr) ∧ w'.cell? ⟨q, 1, none⟩ = some (.string x.to') ∧ w'.cell? ⟨q, 2, none⟩ = some (.int .i64 x.ct))) (by kernel_rfl) (AK.out _ (bel0 _).drew) (fun hHeld => ?_)
          refine' take_val (i := 0) (d := 18) (v := _) rfl rfl (by kernel_rfl) (by kernel_rfl) (by kernel_rfl) (fun _ _ _ h => h) (by rfl) ?_ (by assumption) ?_
          rotate_left
          · (intro w hSw; (try dsimp only at hSw); go_simp; (try with_reducible rfl))
          (try simp only [Act.put, List.setIfInBounds_toArray, List.set_cons_zero, List.set_cons_succ])
          refine' take_val (i := 1) (d := 19) (v := _) rfl rfl (by kernel_rfl) (by kernel_rfl) (by kernel_rfl) (fun _ _ _ h => h) (by rfl) ?_ (by assumption) ?_
          rotate_left
          · (intro w hSw; (try dsimp only at hSw); go_simp; (try with_reducible rfl))
          (try simp only [Act.put, List.setIfInBounds_toArray, List.set_cons_zero, List.set_cons_succ])
          refine wpAnyH_ready (rs := [2]) (by kernel_rfl) (by simp) ?_
          refine AllReadyH.cons rfl (fun K hK => ?_) AllReadyH.nil
          go_simp
          refine (mayEdge_any x _).mono ?_
          rintro r wb ⟨bb, rfl, hbb, hbx⟩
          obtain rfl : bb = false := by cases bb with | false => rfl | true => exact absurd (hbb.1 rfl) HX.out
          clear hbb
          go_wp2_with fail
          refine hK.out _ _ (AK.out _ (nx (And.left (b := _) hHeld) hbx)) (fun hHeld => ?_)
          clear hK K
          (try simp only [Act.put, List.setIfInBounds_toArray, List.set_cons_zero, List.set_cons_succ])
          refine' take_val (i := 3) (d := 21) (v := _) rfl rfl (by kernel_rfl) (by kernel_rfl) (by kernel_rfl) (fun _ _ _ h => h) (by rfl) ?_ (by assumption) ?_
          rotate_left
          · (intro w hSw; (try dsimp only at hSw); go_simp; (try with_reducible rfl))
          (try simp only [Act.put, List.setIfInBounds_toArray, List.set_cons_zero, List.set_cons_succ])
          refine' take_val (i := 4) (d := 22) (v := _) rfl rfl (by kernel_rfl) (by kernel_rfl) (by kernel_rfl) (fun _ _ _ h => h) (by rfl) ?_ (by assumption) ?_
          rotate_left
          · (intro w hSw; (try dsimp only at hSw); go_simp; (try with_reducible rfl))
          (try simp only [Act.put, List.setIfInBounds_toArray, List.set_cons_zero, List.set_cons_succ])
          refine take_skip (i := 5) (d := 23) rfl rfl (by kernel_rfl) (by kernel_rfl) (by kernel_rfl) (fun _ _ _ h => h) (by rfl) (by assumption) ?_
          (try simp only [Act.put, List.setIfInBounds_toArray, List.set_cons_zero, List.set_cons_succ])
          refine take_skip (i := 6) (d := 24) rfl rfl (by kernel_rfl) (by kernel_rfl) (by kernel_rfl) (fun _ _ _ h => h) (by rfl) (by assumption) ?_
          (try simp only [Act.put, List.setIfInBounds_toArray, List.set_cons_zero, List.set_cons_succ])
          refine take_skip (i := 7) (d := 25) rfl rfl (by kernel_rfl) (by kernel_rfl) (by kernel_rfl) (fun _ _ _ h => h) (by rfl) (by assumption) ?_
          (try simp only [Act.put, List.setIfInBounds_toArray, List.set_cons_zero, List.set_cons_succ])
          refine take_skip (i := 8) (d := 26) rfl rfl (by kernel_rfl) (by kernel_rfl) (by kernel_rfl) (fun _ _ _ h => h) (by rfl) (by assumption) ?_
          (try simp only [Act.put, List.setIfInBounds_toArray, List.set_cons_zero, List.set_cons_succ])
          refine take_skip (i := 9) (d := 27) rfl rfl (by kernel_rfl) (by kernel_rfl) (by kernel_rfl) (fun _ _ _ h => h) (by rfl) (by assumption) ?_
          (try simp only [Act.put, List.setIfInBounds_toArray, List.set_cons_zero, List.set_cons_succ])
          refine take_skip (i := 10) (d := 28) rfl rfl (by kernel_rfl) (by kernel_rfl) (by kernel_rfl) (fun _ _ _ h => h) (by rfl) (by assumption) ?_
          (try simp only [Act.put, List.setIfInBounds_toArray, List.set_cons_zero, List.set_cons_succ])
          refine take_skip (i := 11) (d := 29) rfl rfl (by kernel_rfl) (by kernel_rfl) (by kernel_rfl) (fun _ _ _ h => h) (by rfl) (by assumption) ?_
          (try simp only [Act.put, List.setIfInBounds_toArray, List.set_cons_zero, List.set_cons_succ])
          refine take_skip (i := 12) (d := 30) rfl rfl (by kernel_rfl) (by kernel_rfl) (by kernel_rfl) (fun _ _ _ h => h) (by rfl) (by assumption) ?_
          (try simp only [Act.put, List.setIfInBounds_toArray, List.set_cons_zero, List.set_cons_succ])
          refine take_skip (i := 13) (d := 31) rfl rfl (by kernel_rfl) (by kernel_rfl) (by kernel_rfl) (fun _ _ _ h => h) (by rfl) (by assumption) ?_
          (try simp only [Act.put, List.setIfInBounds_toArray, List.set_cons_zero, List.set_cons_succ])
          refine take_skip (i := 14) (d := 32) rfl rfl (by kernel_rfl) (by kernel_rfl) (by kernel_rfl) (fun _ _ _ h => h) (by rfl) (by assumption) ?_
          (try simp only [Act.put, List.setIfInBounds_toArray, List.set_cons_zero, List.set_cons_succ])
          refine take_skip (i := 15) (d := 33) rfl rfl (by kernel_rfl) (by kernel_rfl) (by kernel_rfl) (fun _ _ _ h => h) (by rfl) (by assumption) ?_
          (try simp only [Act.put, List.setIfInBounds_toArray, List.set_cons_zero, List.set_cons_succ])
          refine take_skip (i := 16) (d := 34) rfl rfl (by kernel_rfl) (by kernel_rfl) (by kernel_rfl) (fun _ _ _ h => h) (by rfl) (by assumption) ?_
          (try simp only [Act.put, List.setIfInBounds_toArray, List.set_cons_zero, List.set_cons_succ])
          refine take_skip (i := 17) (d := 35) rfl rfl (by kernel_rfl) (by kernel_rfl) (by kernel_rfl) (fun _ _ _ h => h) (by rfl) (by assumption) ?_
          (try simp only [Act.put, List.setIfInBounds_toArray, List.set_cons_zero, List.set_cons_succ])
          refine' take_val (i := 18) (d := 36) (v := _) rfl rfl (by kernel_rfl) (by kernel_rfl) (by kernel_rfl) (fun _ _ _ h => h) (by rfl) ?_ (by assumption) ?_
          rotate_left
          · (intro w hSw; (try dsimp only at hSw); go_simp; (try with_reducible rfl))
          (try simp only [Act.put, List.setIfInBounds_toArray, List.set_cons_zero, List.set_cons_succ])
          refine wpAnyH_done (by kernel_rfl) ?_ _
          have hbk := nx hb (nx hbw hHeld.1)
          clear hHeld AK
          go_wp2_with fail
          go_ret
          exact smNo (fun h => HX.out (HIS.out h.1)) hbk
    · obtain rfl : n = k := by omega
      have HY := Lib.hid (show MayL OkEd aheadE l by
        have := HP.out
        rw [List.take_of_length_le (by rw [HN.out]; exact Nat.le_refl _)] at this
        exact this)
      by_cases hmo : (n : Int) ≤ most
      · have HM := Lib.hid (show (l.length : Int) ≤ most by rw [← HN.out]; exact hmo)
        go_wp2_with fail
        go_ret
        exact smYes ⟨HY.out, HM.out⟩ hb
      · have HM := Lib.hid (show ¬ (l.length : Int) ≤ most by rw [← HN.out]; exact hmo)
        go_wp2_with fail
        go_ret
        refine smNo ?_ hb
        intro h
        have h1 := h.2
        have h2 := HM.out
        omega
end Go.Proofs.YtfedgjahbmcpoaaGreat
