/- Lists of spans compared, by the document and by the program. No conditions. -/
import Derived.Test.YtbhfbpaaghpadaaGC26
import Derived.Deep.RegionHeld3
set_option linter.unusedSimpArgs false
set_option linter.unusedVariables false
namespace Go.Proofs.Ytbhfbpaaghpadaa
open Go.RowKit

set_option maxHeartbeats 32000000 in
set_option maxRecDepth 100000 in
theorem refSameSpans_any {A B : Option Addr} {n c m d : Nat} {l r : List Spn} {w : World} (h : LS w A n c l) (h2 : LS w B m d r) :
    Calls Try.prog 36 #[.slice A n c, .slice B m d] w fun e w' => SmR w w' e (l = r) := by
  have HN := Lib.hid h.len
  have HM := Lib.hid h2.len
  have HL := Lib.hid h
  have HR := Lib.hid h2
  have hlim : n ≤ 1256584717421 := by rw [h.len]; exact h.lim
  have hlim2 : m ≤ 1256584717421 := by rw [h2.len]; exact h2.lim
  have hb0 := bel0 w
  clear h h2
  by_cases hlen : n = m
  case neg =>
    have hne : ¬ l = r := fun e => hlen (by rw [HN.out, HM.out, e])
    have HNE := Lib.hid hne
    have hd : ((n : Int) != (m : Int)) = true := by simp; omega
    clear hne
    go_enter Try.func36, Try.ntmps36
    go_wp2_with fail
    go_ret
    exact smNo HNE.out hb0
  subst hlen
  go_enter Try.func36, Try.ntmps36
  go_wp2_with fail
  go_loopw [5] (fun i wr => ∃ k : Nat, k ≤ n ∧ i = .int .i64 k ∧ Hid (l.take k = r.take k) ∧ Below w.heap.size w wr) (fun i _ => n - (intOf i).toNat)
  case atStart => exact ⟨0, Nat.zero_le _, rfl, Lib.hid rfl, hb0⟩
  case round =>
    clear hb0
    obtain ⟨k, hk, rfl, HE, hb⟩ := hrel
    by_cases hlt : k < n
    · have hl1 : k < l.length := by rw [← HN.out]; exact hlt
      have hr1 : k < r.length := by rw [← HM.out]; exact hlt
      obtain ⟨g, o, P, m1, d1, hA, hAS, y0, y1, y2, y3, y4, y5, y6, y7, y8⟩ := HL.out.cellsAt hb hl1
      obtain ⟨g2, o2, Q, m2, d2, hB, hBS, x0, x1, x2, x3, x4, x5, x6, x7, x8⟩ := HR.out.cellsAt hb hr1
      subst hA hB
      have haa : (⟨g, o, none⟩ : Addr).add (k * 9) = ⟨g, o + k * 9, none⟩ := addr_add _ _ _
      have hab : (⟨g2, o2, none⟩ : Addr).add (k * 9) = ⟨g2, o2 + k * 9, none⟩ := addr_add _ _ _
      have HTL := Lib.hid (show l.take (k + 1) = l.take k ++ [l[k]] from List.take_succ_eq_append_getElem hl1)
      have HTR := Lib.hid (show r.take (k + 1) = r.take k ++ [r[k]] from List.take_succ_eq_append_getElem hr1)
      have HAS := Lib.hid (hAS.below hb)
      have HBS := Lib.hid (hBS.below hb)
      have hk0 : (0 : Int) ≤ (k : Int) := by omega
      have hk1 : (k : Int) < (n : Int) := by omega
      generalize l[k] = s at *
      generalize r[k] = t at *
      clear hAS hBS
      have AK := Lib.hid (fun (a : World) (h : Below wr.heap.size wr a) => show (fun w' => Below wr.heap.size wr w' ∧ w'.cell? ⟨g, o + k * 9, none⟩ = some (.int .i64 s.tr) ∧ w'.cell? ⟨g, o + k * 9 + 1, none⟩ = some (.int .i64 s.id) ∧ w'.cell? ⟨g, o + k * 9 + 2, none⟩ = some (.int .i64 s.pa) ∧ w'.cell? ⟨g, o + k * 9 + 3, none⟩ = some (.string s.sv) ∧ w'.cell? ⟨g, o + k * 9 + 4, none⟩ = some (.string s.op) ∧ w'.cell? ⟨g, o + k * 9 + 5, none⟩ = some (.int .i64 s.st) ∧ w'.cell? ⟨g, o + k * 9 + 6, none⟩ = some (.int .i64 s.ln) ∧ w'.cell? ⟨g, o + k * 9 + 7, none⟩ = some (.string s.sj) ∧ w'.cell? ⟨g, o + k * 9 + 8, none⟩ = some (.slice P m1 d1) ∧ w'.cell? ⟨g2, o2 + k * 9, none⟩ = some (.int .i64 t.tr) ∧ w'.cell? ⟨g2, o2 + k * 9 + 1, none⟩ = some (.int .i64 t.id) ∧ w'.cell? ⟨g2, o2 + k * 9 + 2, none⟩ = some (.int .i64 t.pa) ∧ w'.cell? ⟨g2, o2 + k * 9 + 3, none⟩ = some (.string t.sv) ∧ w'.cell? ⟨g2, o2 + k * 9 + 4, none⟩ = some (.string t.op) ∧ w'.cell? ⟨g2, o2 + k * 9 + 5, none⟩ = some (.int .i64 t.st) ∧ w'.cell? ⟨g2, o2 + k * 9 + 6, none⟩ = some (.int .i64 t.ln) ∧ w'.cell? ⟨g2, o2 + k * 9 + 7, none⟩ = some (.string t.sj) ∧ w'.cell? ⟨g2, o2 + k * 9 + 8, none⟩ = some (.slice Q m2 d2)) a from ⟨h, (h.cell (p := ⟨g, o + k * 9, none⟩) (World.block_lt_of_cell? wr _ y0)).trans y0, (h.cell (p := ⟨g, o + k * 9 + 1, none⟩) (World.block_lt_of_cell? wr _ y1)).trans y1, (h.cell (p := ⟨g, o + k * 9 + 2, none⟩) (World.block_lt_of_cell? wr _ y2)).trans y2, (h.cell (p := ⟨g, o + k * 9 + 3, none⟩) (World.block_lt_of_cell? wr _ y3)).trans y3, (h.cell (p := ⟨g, o + k * 9 + 4, none⟩) (World.block_lt_of_cell? wr _ y4)).trans y4, (h.cell (p := ⟨g, o + k * 9 + 5, none⟩) (World.block_lt_of_cell? wr _ y5)).trans y5, (h.cell (p := ⟨g, o + k * 9 + 6, none⟩) (World.block_lt_of_cell? wr _ y6)).trans y6, (h.cell (p := ⟨g, o + k * 9 + 7, none⟩) (World.block_lt_of_cell? wr _ y7)).trans y7, (h.cell (p := ⟨g, o + k * 9 + 8, none⟩) (World.block_lt_of_cell? wr _ y8)).trans y8, (h.cell (p := ⟨g2, o2 + k * 9, none⟩) (World.block_lt_of_cell? wr _ x0)).trans x0, (h.cell (p := ⟨g2, o2 + k * 9 + 1, none⟩) (World.block_lt_of_cell? wr _ x1)).trans x1, (h.cell (p := ⟨g2, o2 + k * 9 + 2, none⟩) (World.block_lt_of_cell? wr _ x2)).trans x2, (h.cell (p := ⟨g2, o2 + k * 9 + 3, none⟩) (World.block_lt_of_cell? wr _ x3)).trans x3, (h.cell (p := ⟨g2, o2 + k * 9 + 4, none⟩) (World.block_lt_of_cell? wr _ x4)).trans x4, (h.cell (p := ⟨g2, o2 + k * 9 + 5, none⟩) (World.block_lt_of_cell? wr _ x5)).trans x5, (h.cell (p := ⟨g2, o2 + k * 9 + 6, none⟩) (World.block_lt_of_cell? wr _ x6)).trans x6, (h.cell (p := ⟨g2, o2 + k * 9 + 7, none⟩) (World.block_lt_of_cell? wr _ x7)).trans x7, (h.cell (p := ⟨g2, o2 + k * 9 + 8, none⟩) (World.block_lt_of_cell? wr _ x8)).trans x8⟩)
      clear x0 x1 x2 x3 x4 x5 x6 x7 x8 y0 y1 y2 y3 y4 y5 y6 y7 y8
      go_wp2_with fail
      refine wp_region_held_drew (S := (fun w' => Below wr.heap.size wr w' ∧ w'.cell? ⟨g, o + k * 9, none⟩ = some (.int .i64 s.tr) ∧ w'.cell? ⟨g, o + k * 9 + 1, none⟩ = some (.int .i64 s.id) ∧ w'.cell? ⟨g, o + k * 9 + 2, none⟩ = some (.int .i64 s.pa) ∧ w'.cell? ⟨g, o + k * 9 + 3, none⟩ = some (.string s.sv) ∧ w'.cell? ⟨g, o + k * 9 + 4, none⟩ = some (.string s.op) ∧ w'.cell? ⟨g, o + k * 9 + 5, none⟩ = some (.int .i64 s.st) ∧ w'.cell? ⟨g, o + k * 9 + 6, none⟩ = some (.int .i64 s.ln) ∧ w'.cell? ⟨g, o + k * 9 + 7, none⟩ = some (.string s.sj) ∧ w'.cell? ⟨g, o + k * 9 + 8, none⟩ = some (.slice P m1 d1) ∧ w'.cell? ⟨g2, o2 + k * 9, none⟩ = some (.int .i64 t.tr) ∧ w'.cell? ⟨g2, o2 + k * 9 + 1, none⟩ = some (.int .i64 t.id) ∧ w'.cell? ⟨g2, o2 + k * 9 + 2, none⟩ = some (.int .i64 t.pa) ∧ w'.cell? ⟨g2, o2 + k * 9 + 3, none⟩ = some (.string t.sv) ∧ w'.cell? ⟨g2, o2 + k * 9 + 4, none⟩ = some (.string t.op) ∧ w'.cell? ⟨g2, o2 + k * 9 + 5, none⟩ = some (.int .i64 t.st) ∧ w'.cell? ⟨g2, o2 + k * 9 + 6, none⟩ = some (.int .i64 t.ln) ∧ w'.cell? ⟨g2, o2 + k * 9 + 7, none⟩ = some (.string t.sj) ∧ w'.cell? ⟨g2, o2 + k * 9 + 8, none⟩ = some (.slice Q m2 d2))) (by kernel_rfl) (AK.out _ (bel0 _).drew) (fun hHeld => ?_)
      refine' take_val (i := 0) (d := 17) (v := _) rfl rfl (by kernel_rfl) (by kernel_rfl) (by kernel_rfl) (fun _ _ _ h => h) (by rfl) ?_ (by assumption) ?_
      rotate_left
      · (intro w hSw; (try dsimp only at hSw); go_simp; (try with_reducible rfl))
      (try simp only [Act.put, List.setIfInBounds_toArray, List.set_cons_zero, List.set_cons_succ])
      refine' take_val (i := 1) (d := 18) (v := _) rfl rfl (by kernel_rfl) (by kernel_rfl) (by kernel_rfl) (fun _ _ _ h => h) (by rfl) ?_ (by assumption) ?_
      rotate_left
      · (intro w hSw; (try dsimp only at hSw); go_simp; (try with_reducible rfl))
      (try simp only [Act.put, List.setIfInBounds_toArray, List.set_cons_zero, List.set_cons_succ])
      refine' take_val (i := 2) (d := 19) (v := _) rfl rfl (by kernel_rfl) (by kernel_rfl) (by kernel_rfl) (fun _ _ _ h => h) (by rfl) ?_ (by assumption) ?_
      rotate_left
      · (intro w hSw; (try dsimp only at hSw); go_simp; (try with_reducible rfl))
      (try simp only [Act.put, List.setIfInBounds_toArray, List.set_cons_zero, List.set_cons_succ])
      refine' take_val (i := 3) (d := 20) (v := _) rfl rfl (by kernel_rfl) (by kernel_rfl) (by kernel_rfl) (fun _ _ _ h => h) (by rfl) ?_ (by assumption) ?_
      rotate_left
      · (intro w hSw; (try dsimp only at hSw); go_simp; (try with_reducible rfl))
      (try simp only [Act.put, List.setIfInBounds_toArray, List.set_cons_zero, List.set_cons_succ])
      refine' take_val (i := 4) (d := 21) (v := _) rfl rfl (by kernel_rfl) (by kernel_rfl) (by kernel_rfl) (fun _ _ _ h => h) (by rfl) ?_ (by assumption) ?_
      rotate_left
      · (intro w hSw; (try dsimp only at hSw); go_simp; (try with_reducible rfl))
      (try simp only [Act.put, List.setIfInBounds_toArray, List.set_cons_zero, List.set_cons_succ])
      refine' take_val (i := 5) (d := 22) (v := _) rfl rfl (by kernel_rfl) (by kernel_rfl) (by kernel_rfl) (fun _ _ _ h => h) (by rfl) ?_ (by assumption) ?_
      rotate_left
      · (intro w hSw; (try dsimp only at hSw); go_simp; (try with_reducible rfl))
      (try simp only [Act.put, List.setIfInBounds_toArray, List.set_cons_zero, List.set_cons_succ])
      refine' take_val (i := 6) (d := 23) (v := _) rfl rfl (by kernel_rfl) (by kernel_rfl) (by kernel_rfl) (fun _ _ _ h => h) (by rfl) ?_ (by assumption) ?_
      rotate_left
      · (intro w hSw; (try dsimp only at hSw); go_simp; (try with_reducible rfl))
      (try simp only [Act.put, List.setIfInBounds_toArray, List.set_cons_zero, List.set_cons_succ])
      refine' take_val (i := 7) (d := 24) (v := _) rfl rfl (by kernel_rfl) (by kernel_rfl) (by kernel_rfl) (fun _ _ _ h => h) (by rfl) ?_ (by assumption) ?_
      rotate_left
      · (intro w hSw; (try dsimp only at hSw); go_simp; (try with_reducible rfl))
      (try simp only [Act.put, List.setIfInBounds_toArray, List.set_cons_zero, List.set_cons_succ])
      refine wpAnyH_ready (rs := [8]) (by kernel_rfl) (by simp) ?_
      refine AllReadyH.cons rfl (fun K hK => ?_) AllReadyH.nil
      go_simp
      go_at_call 59
      refine (refSameSpan_any (HAS.out.below (And.left (b := _) hHeld)) (HBS.out.below (And.left (b := _) hHeld))).mono ?_
      rintro e w2 ⟨bb, rfl, hbb, hb2⟩
      have HBB := Lib.hid hbb
      clear hbb
      go_wp2_with fail
      refine hK.out _ _ (AK.out _ (nx (And.left (b := _) hHeld) hb2)) (fun hHeld => ?_)
      clear hK K
      (try simp only [Act.put, List.setIfInBounds_toArray, List.set_cons_zero, List.set_cons_succ])
      refine' take_val (i := 9) (d := 26) (v := _) rfl rfl (by kernel_rfl) (by kernel_rfl) (by kernel_rfl) (fun _ _ _ h => h) (by rfl) ?_ (by assumption) ?_
      rotate_left
      · (intro w hSw; (try dsimp only at hSw); go_simp; (try with_reducible rfl))
      (try simp only [Act.put, List.setIfInBounds_toArray, List.set_cons_zero, List.set_cons_succ])
      refine wpAnyH_done (by kernel_rfl) ?_ _
      have hb3 := nx hb (And.left (b := _) hHeld)
      clear AK
      cases bb with
      | true =>
        go_wp2_with fail
        exact ⟨⟨k + 1, by omega, by go_num, Lib.hid (by rw [HTL.out, HTR.out, HE.out, HBB.out.1 (by trivial)]), hb3⟩, by simp [intOf]; omega⟩
      | false =>
        have HNE := Lib.hid (show ¬ l = r by
          intro e
          subst e
          have h1 := HTL.out
          rw [HTR.out] at h1
          have h2 := List.append_cancel_left h1
          injection h2 with h3
          have := HBB.out.2 h3.symm
          cases this)
        go_wp2_with fail
        go_ret
        exact smNo HNE.out hb3
    · obtain rfl : k = n := by omega
      have HY := Lib.hid (show l = r by
        have h1 := HE.out
        rw [List.take_of_length_le (by rw [HN.out]; exact Nat.le_refl _), List.take_of_length_le (by rw [HM.out]; exact Nat.le_refl _)] at h1
        exact h1)
      go_wp2_with fail
      go_ret
      exact ⟨true, rfl, ⟨fun _ => HY.out, fun _ => rfl⟩, hb⟩
end Go.Proofs.Ytbhfbpaaghpadaa
/- Two batches compared, by the document and by the program. No conditions. -/
set_option linter.unusedSimpArgs false
set_option linter.unusedVariables false
namespace Go.Proofs.Ytbhfbpaaghpadaa
open Go.RowKit

set_option maxHeartbeats 16000000 in
set_option maxRecDepth 100000 in
theorem refBatSame_any {A B : Option Addr} {n c m d : Nat} {a b : Bat} {w : World} (h : LS w A n c a.sp) (h2 : LS w B m d b.sp) :
    Calls Try.prog 16 #[.agg #[.int .i64 a.ag, .int .i64 a.sq, .slice A n c], .agg #[.int .i64 b.ag, .int .i64 b.sq, .slice B m d]] w fun e w' => SmR w w' e (a = b) := by
  obtain ⟨a1, q1, l⟩ := a
  obtain ⟨a2, q2, r⟩ := b
  simp only at h h2 ⊢
  have hb1 := nx ((bel0 w).alloc (Nat.le_refl _) (.cells #[.int .i64 a1, .int .i64 q1, .slice A n c] 24)) ((bel0 (w.alloc (.cells #[.int .i64 a1, .int .i64 q1, .slice A n c] 24))).alloc (Nat.le_refl _) (.cells #[.int .i64 a2, .int .i64 q2, .slice B m d] 24))
  have C := Lib.hid (refSameSpans_any (h.below hb1) (h2.below hb1))
  have HB1 := Lib.hid hb1
  clear h h2 hb1
  by_cases e1 : a1 = a2
  case neg =>
    have hsf : (a1 == a2) = false := by simpa using e1
    go_enter Try.func16, Try.ntmps16
    go_wp2_with fail
    go_ret
    exact smNo (fun e => e1 (by injection e)) HB1.out
  by_cases e2 : q1 = q2
  case neg =>
    have hsf : (q1 == q2) = false := by simpa using e2
    subst e1
    go_enter Try.func16, Try.ntmps16
    go_wp2_with fail
    go_ret
    exact smNo (fun e => e2 (by injection e)) HB1.out
  subst e1 e2
  go_enter Try.func16, Try.ntmps16
  go_wp2_with fail
  refine C.out.mono ?_
  rintro e w2 ⟨bb, rfl, hbb, hb2⟩
  have HBB := Lib.hid hbb
  have HB2 := Lib.hid (nx HB1.out hb2)
  clear hbb hb2 C
  go_wp2_with fail
  go_ret
  exact ⟨bb, rfl, ⟨fun h => by rw [HBB.out.1 h], fun e => HBB.out.2 (by injection e)⟩, HB2.out⟩
end Go.Proofs.Ytbhfbpaaghpadaa
