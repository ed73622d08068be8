/- Answers compared, by the document. No conditions. -/
import Derived.Test.YtfedgjahbmcpoaaGreatGB48
import Derived.Deep.QuietTactic
import Derived.BigQuiet
set_option linter.unusedSimpArgs false
set_option linter.unusedVariables false
namespace Go.Proofs.YtfedgjahbmcpoaaGreat
open Go.RowKit

set_option maxHeartbeats 64000000 in
set_option maxRecDepth 100000 in
theorem refSameAnswer_any {a b : Ans} {u v x u' v' x' : Value} {w : World} (h : AnL w a u v x) (h2 : AnL w b u' v' x') :
    Calls Tryz.prog 34 #[anV a u v x, anV b u' v' x'] w fun e w' => SmR w w' e (a = b) := by
  obtain ⟨⟨A1, c1, rfl, ha1⟩, ⟨B1, d1, rfl, ha2⟩, ⟨D1, e1, rfl, ha3⟩⟩ := h
  obtain ⟨⟨A2, c2, rfl, hb1⟩, ⟨B2, d2, rfl, hb2⟩, ⟨D2, e2, rfl, hb3⟩⟩ := h2
  obtain ⟨er1, sn1, nx1, ce1, ed1, lf1⟩ := a
  obtain ⟨er2, sn2, nx2, ce2, ed2, lf2⟩ := b
  unfold anV
  simp only at *
  have hbx := nx (bel1 w (.cells #[.int .i64 er1, .slice A1 sn1.length c1, .int .i64 nx1, .slice B1 ce1.length d1, .slice D1 ed1.length e1, .int .i64 lf1] 29)) (bel1 (w.alloc (.cells #[.int .i64 er1, .slice A1 sn1.length c1, .int .i64 nx1, .slice B1 ce1.length d1, .slice D1 ed1.length e1, .int .i64 lf1] 29)) (.cells #[.int .i64 er2, .slice A2 sn2.length c2, .int .i64 nx2, .slice B2 ce2.length d2, .slice D2 ed2.length e2, .int .i64 lf2] 29))
  have X1 := blkB (heap_alloc_new w (.cells #[.int .i64 er1, .slice A1 sn1.length c1, .int .i64 nx1, .slice B1 ce1.length d1, .slice D1 ed1.length e1, .int .i64 lf1] 29)) (bel1 _ (.cells #[.int .i64 er2, .slice A2 sn2.length c2, .int .i64 nx2, .slice B2 ce2.length d2, .slice D2 ed2.length e2, .int .i64 lf2] 29))
  have X2 := heap_alloc_new (w.alloc (.cells #[.int .i64 er1, .slice A1 sn1.length c1, .int .i64 nx1, .slice B1 ce1.length d1, .slice D1 ed1.length e1, .int .i64 lf1] 29)) (.cells #[.int .i64 er2, .slice A2 sn2.length c2, .int .i64 nx2, .slice B2 ce2.length d2, .slice D2 ed2.length e2, .int .i64 lf2] 29)
  rw [World.size_alloc] at X2
  have Hha1 := Lib.hid (ha1.below hbx)
  have Hha2 := Lib.hid (ha2.below hbx)
  have Hha3 := Lib.hid (ha3.below hbx)
  have Hhb1 := Lib.hid (hb1.below hbx)
  have Hhb2 := Lib.hid (hb2.below hbx)
  have Hhb3 := Lib.hid (hb3.below hbx)
  have lmha1 := ha1.lim
  have lmha2 := ha2.lim
  have lmha3 := ha3.lim
  have lmhb1 := hb1.lim
  have lmhb2 := hb2.lim
  have lmhb3 := hb3.lim
  clear ha1 ha2 ha3 hb1 hb2 hb3
  go_enter Tryz.func34, Tryz.ntmps34
  go_upto_region 1 with (fail)
  (try simp only [List.append_eq, List.cons_append, List.nil_append])
  obtain ⟨W0, hW⟩ : ∃ W, W = (w.alloc (.cells #[.int .i64 er1, .slice A1 sn1.length c1, .int .i64 nx1, .slice B1 ce1.length d1, .slice D1 ed1.length e1, .int .i64 lf1] 29)).alloc (.cells #[.int .i64 er2, .slice A2 sn2.length c2, .int .i64 nx2, .slice B2 ce2.length d2, .slice D2 ed2.length e2, .int .i64 lf2] 29) := ⟨_, rfl⟩
  rw [← hW] at X1 X2 hbx Hha1 Hha2 Hha3 Hhb1 Hhb2 Hhb3 ⊢
  clear hW
  obtain ⟨q2, hqq⟩ : ∃ q, q = w.heap.size + 1 := ⟨_, rfl⟩
  rw [← hqq] at X2 ⊢
  clear hqq
  obtain ⟨q1, hqq⟩ : ∃ q, q = w.heap.size := ⟨_, rfl⟩
  rw [← hqq] at X1 ⊢
  clear hqq
  have HB0 := Lib.hid hbx
  have HX1 := Lib.hid X1
  have HX2 := Lib.hid X2
  have x0 := cell_of X1 0
  have y0 := cell_of X2 0
  have x1 := cell_of X1 1
  have y1 := cell_of X2 1
  have x2 := cell_of X1 2
  have y2 := cell_of X2 2
  have x3 := cell_of X1 3
  have y3 := cell_of X2 3
  have x4 := cell_of X1 4
  have y4 := cell_of X2 4
  have x5 := cell_of X1 5
  have y5 := cell_of X2 5
  simp at x0 y0 x1 y1 x2 y2 x3 y3 x4 y4 x5 y5
  clear X1 X2 hbx
  by_cases eer : er1 = er2
  case neg =>
    have hsf : (er1 == er2) = false := by simpa using eer
    have hsf2 : (er1 != er2) = true := by rw [bne, hsf]; rfl
    go_wp2_with fail
    go_ret
    exact smNo (fun e => eer (congrArg (fun z : Ans => z.er) e)) HB0.out
  subst eer
  by_cases enx : nx1 = nx2
  case neg =>
    have hsf : (nx1 == nx2) = false := by simpa using enx
    have hsf2 : (nx1 != nx2) = true := by rw [bne, hsf]; rfl
    go_wp2_with fail
    go_ret
    exact smNo (fun e => enx (congrArg (fun z : Ans => z.nx) e)) HB0.out
  subst enx
  by_cases elf : lf1 = lf2
  case neg =>
    have hsf : (lf1 == lf2) = false := by simpa using elf
    have hsf2 : (lf1 != lf2) = true := by rw [bne, hsf]; rfl
    go_wp2_with fail
    go_ret
    exact smNo (fun e => elf (congrArg (fun z : Ans => z.lf) e)) HB0.out
  subst elf
  by_cases esn : sn1.length = sn2.length
  case neg =>
    have hsf : ((sn1.length : Int) == (sn2.length : Int)) = false := by simp; omega
    have hsf2 : ((sn1.length : Int) != (sn2.length : Int)) = true := by rw [bne, hsf]; rfl
    have HNE := Lib.hid esn
    go_wp2_with fail
    go_ret
    exact smNo (fun e => HNE.out (congrArg (fun z : Ans => z.sn.length) e)) HB0.out
  have heqsn : ((sn1.length : Int) != (sn2.length : Int)) = false := by rw [esn]; simp
  have HHsn := Lib.hid esn
  clear esn
  by_cases ece : ce1.length = ce2.length
  case neg =>
    have hsf : ((ce1.length : Int) == (ce2.length : Int)) = false := by simp; omega
    have hsf2 : ((ce1.length : Int) != (ce2.length : Int)) = true := by rw [bne, hsf]; rfl
    have HNE := Lib.hid ece
    go_wp2_with fail
    go_ret
    exact smNo (fun e => HNE.out (congrArg (fun z : Ans => z.ce.length) e)) HB0.out
  have heqce : ((ce1.length : Int) != (ce2.length : Int)) = false := by rw [ece]; simp
  have HHce := Lib.hid ece
  clear ece
  by_cases eed : ed1.length = ed2.length
  case neg =>
    have hsf : ((ed1.length : Int) == (ed2.length : Int)) = false := by simp; omega
    have hsf2 : ((ed1.length : Int) != (ed2.length : Int)) = true := by rw [bne, hsf]; rfl
    have HNE := Lib.hid eed
    go_wp2_with fail
    go_ret
    exact smNo (fun e => HNE.out (congrArg (fun z : Ans => z.ed.length) e)) HB0.out
  have heqed : ((ed1.length : Int) != (ed2.length : Int)) = false := by rw [eed]; simp
  have HHed := Lib.hid eed
  clear eed
  have HLs := HHsn
  have HLc := HHce
  have HLe := HHed
  go_wp2_with fail
  clear heqsn heqce heqed x0 y0 x1 y1 x2 y2 x3 y3 x4 y4 x5 y5
  go_loopw [5] (fun i wr => ∃ k : Nat, k ≤ sn1.length ∧ i = .int .i64 k ∧ Hid (sn1.take k = sn2.take k) ∧ Below W0.heap.size W0 wr) (fun i _ => sn1.length - (intOf i).toNat)
  case atStart => exact ⟨0, Nat.zero_le _, rfl, Lib.hid rfl, bel0 _⟩
  case round =>
    obtain ⟨k, hk, rfl, HE, hb⟩ := hrel
    obtain ⟨_, x1, _, x3, x4, _⟩ := an_block (blkB HX1.out hb)
    obtain ⟨_, y1, _, y3, y4, _⟩ := an_block (blkB HX2.out hb)
    by_cases hlt : k < sn1.length
    · have hlt2 : k < sn2.length := by have := HLs.out; omega
      have hkI : (k : Int) < (sn1.length : Int) := by omega
      have hkJ : (k : Int) < (sn2.length : Int) := by omega
      have hk0 : (0 : Int) ≤ (k : Int) := by omega
      have HL1 := Lib.hid (take_snoc sn1 k hlt)
      have HM1 := Lib.hid (take_snoc sn2 k hlt2)
      obtain ⟨g, o, cs, hA, ⟨P, m1, r1, rfl, hAS⟩, hc⟩ := Hha1.out.cellsAt hb hlt
      obtain ⟨g2, o2, cs2, hB, ⟨Q, m2, r2, rfl, hBS⟩, hc2⟩ := Hhb1.out.cellsAt hb hlt2
      subst hA hB
      have haa : (⟨g, o, none⟩ : Addr).add (k * 11) = ⟨g, o + k * 11, none⟩ := addr_add _ _ _
      have hab : (⟨g2, o2, none⟩ : Addr).add (k * 11) = ⟨g2, o2 + k * 11, none⟩ := addr_add _ _ _
      have HAS := Lib.hid hAS
      have HBS := Lib.hid hBS
      generalize sn1[k] = s at *
      generalize sn2[k] = t at *
      clear hAS hBS
      have AK := Lib.hid (fun (a : World) (h : Below wr.heap.size wr a) => show Below wr.heap.size wr a ∧ a.cell? ⟨q1, 1, none⟩ = some (.slice (some ⟨g, o, none⟩) sn1.length c1) ∧ a.cell? ⟨q2, 1, none⟩ = some (.slice (some ⟨g2, o2, none⟩) sn2.length c2) ∧ a.cell? ⟨g, o + k * 11, none⟩ = some (.int .i64 s.sp.tr) ∧ a.cell? ⟨g, o + k * 11 + 1, none⟩ = some (.int .i64 s.sp.id) ∧ a.cell? ⟨g, o + k * 11 + 2, none⟩ = some (.int .i64 s.sp.pa) ∧ a.cell? ⟨g, o + k * 11 + 3, none⟩ = some (.string s.sp.sv) ∧ a.cell? ⟨g, o + k * 11 + 4, none⟩ = some (.string s.sp.op) ∧ a.cell? ⟨g, o + k * 11 + 5, none⟩ = some (.int .i64 s.sp.st) ∧ a.cell? ⟨g, o + k * 11 + 6, none⟩ = some (.int .i64 s.sp.ln) ∧ a.cell? ⟨g, o + k * 11 + 7, none⟩ = some (.string s.sp.sj) ∧ a.cell? ⟨g, o + k * 11 + 8, none⟩ = some (.slice P m1 r1) ∧ a.cell? ⟨g, o + k * 11 + 9, none⟩ = some (.int .i64 s.dp) ∧ a.cell? ⟨g, o + k * 11 + 10, none⟩ = some (.bool s.lo) ∧ a.cell? ⟨g2, o2 + k * 11, none⟩ = some (.int .i64 t.sp.tr) ∧ a.cell? ⟨g2, o2 + k * 11 + 1, none⟩ = some (.int .i64 t.sp.id) ∧ a.cell? ⟨g2, o2 + k * 11 + 2, none⟩ = some (.int .i64 t.sp.pa) ∧ a.cell? ⟨g2, o2 + k * 11 + 3, none⟩ = some (.string t.sp.sv) ∧ a.cell? ⟨g2, o2 + k * 11 + 4, none⟩ = some (.string t.sp.op) ∧ a.cell? ⟨g2, o2 + k * 11 + 5, none⟩ = some (.int .i64 t.sp.st) ∧ a.cell? ⟨g2, o2 + k * 11 + 6, none⟩ = some (.int .i64 t.sp.ln) ∧ a.cell? ⟨g2, o2 + k * 11 + 7, none⟩ = some (.string t.sp.sj) ∧ a.cell? ⟨g2, o2 + k * 11 + 8, none⟩ = some (.slice Q m2 r2) ∧ a.cell? ⟨g2, o2 + k * 11 + 9, none⟩ = some (.int .i64 t.dp) ∧ a.cell? ⟨g2, o2 + k * 11 + 10, none⟩ = some (.bool t.lo) from ⟨h, ((h.cell (p := ⟨q1, 1, none⟩) (World.block_lt_of_cell? _ _ (x1))).trans (x1)), ((h.cell (p := ⟨q2, 1, none⟩) (World.block_lt_of_cell? _ _ (y1))).trans (y1)), ((h.cell (p := ⟨g, o + k * 11, none⟩) (World.block_lt_of_cell? _ _ (hc 0 _ rfl))).trans (hc 0 _ rfl)), ((h.cell (p := ⟨g, o + k * 11 + 1, none⟩) (World.block_lt_of_cell? _ _ (hc 1 _ rfl))).trans (hc 1 _ rfl)), ((h.cell (p := ⟨g, o + k * 11 + 2, none⟩) (World.block_lt_of_cell? _ _ (hc 2 _ rfl))).trans (hc 2 _ rfl)), ((h.cell (p := ⟨g, o + k * 11 + 3, none⟩) (World.block_lt_of_cell? _ _ (hc 3 _ rfl))).trans (hc 3 _ rfl)), ((h.cell (p := ⟨g, o + k * 11 + 4, none⟩) (World.block_lt_of_cell? _ _ (hc 4 _ rfl))).trans (hc 4 _ rfl)), ((h.cell (p := ⟨g, o + k * 11 + 5, none⟩) (World.block_lt_of_cell? _ _ (hc 5 _ rfl))).trans (hc 5 _ rfl)), ((h.cell (p := ⟨g, o + k * 11 + 6, none⟩) (World.block_lt_of_cell? _ _ (hc 6 _ rfl))).trans (hc 6 _ rfl)), ((h.cell (p := ⟨g, o + k * 11 + 7, none⟩) (World.block_lt_of_cell? _ _ (hc 7 _ rfl))).trans (hc 7 _ rfl)), ((h.cell (p := ⟨g, o + k * 11 + 8, none⟩) (World.block_lt_of_cell? _ _ (hc 8 _ rfl))).trans (hc 8 _ rfl)), ((h.cell (p := ⟨g, o + k * 11 + 9, none⟩) (World.block_lt_of_cell? _ _ (hc 9 _ rfl))).trans (hc 9 _ rfl)), ((h.cell (p := ⟨g, o + k * 11 + 10, none⟩) (World.block_lt_of_cell? _ _ (hc 10 _ rfl))).trans (hc 10 _ rfl)), ((h.cell (p := ⟨g2, o2 + k * 11, none⟩) (World.block_lt_of_cell? _ _ (hc2 0 _ rfl))).trans (hc2 0 _ rfl)), ((h.cell (p := ⟨g2, o2 + k * 11 + 1, none⟩) (World.block_lt_of_cell? _ _ (hc2 1 _ rfl))).trans (hc2 1 _ rfl)), ((h.cell (p := ⟨g2, o2 + k * 11 + 2, none⟩) (World.block_lt_of_cell? _ _ (hc2 2 _ rfl))).trans (hc2 2 _ rfl)), ((h.cell (p := ⟨g2, o2 + k * 11 + 3, none⟩) (World.block_lt_of_cell? _ _ (hc2 3 _ rfl))).trans (hc2 3 _ rfl)), ((h.cell (p := ⟨g2, o2 + k * 11 + 4, none⟩) (World.block_lt_of_cell? _ _ (hc2 4 _ rfl))).trans (hc2 4 _ rfl)), ((h.cell (p := ⟨g2, o2 + k * 11 + 5, none⟩) (World.block_lt_of_cell? _ _ (hc2 5 _ rfl))).trans (hc2 5 _ rfl)), ((h.cell (p := ⟨g2, o2 + k * 11 + 6, none⟩) (World.block_lt_of_cell? _ _ (hc2 6 _ rfl))).trans (hc2 6 _ rfl)), ((h.cell (p := ⟨g2, o2 + k * 11 + 7, none⟩) (World.block_lt_of_cell? _ _ (hc2 7 _ rfl))).trans (hc2 7 _ rfl)), ((h.cell (p := ⟨g2, o2 + k * 11 + 8, none⟩) (World.block_lt_of_cell? _ _ (hc2 8 _ rfl))).trans (hc2 8 _ rfl)), ((h.cell (p := ⟨g2, o2 + k * 11 + 9, none⟩) (World.block_lt_of_cell? _ _ (hc2 9 _ rfl))).trans (hc2 9 _ rfl)), ((h.cell (p := ⟨g2, o2 + k * 11 + 10, none⟩) (World.block_lt_of_cell? _ _ (hc2 10 _ rfl))).trans (hc2 10 _ rfl))⟩)
      clear hc hc2
      go_wp2_with fail
      refine wp_region_held_drew (S := (fun w' => Below wr.heap.size wr w' ∧ w'.cell? ⟨q1, 1, none⟩ = some (.slice (some ⟨g, o, none⟩) sn1.length c1) ∧ w'.cell? ⟨q2, 1, none⟩ = some (.slice (some ⟨g2, o2, none⟩) sn2.length c2) ∧ w'.cell? ⟨g, o + k * 11, none⟩ = some (.int .i64 s.sp.tr) ∧ w'.cell? ⟨g, o + k * 11 + 1, none⟩ = some (.int .i64 s.sp.id) ∧ w'.cell? ⟨g, o + k * 11 + 2, none⟩ = some (.int .i64 s.sp.pa) ∧ w'.cell? ⟨g, o + k * 11 + 3, none⟩ = some (.string s.sp.sv) ∧ w'.cell? ⟨g, o + k * 11 + 4, none⟩ = some (.string s.sp.op) ∧ w'.cell? ⟨g, o + k * 11 + 5, none⟩ = some (.int .i64 s.sp.st) ∧ w'.cell? ⟨g, o + k * 11 + 6, none⟩ = some (.int .i64 s.sp.ln) ∧ w'.cell? ⟨g, o + k * 11 + 7, none⟩ = some (.string s.sp.sj) ∧ w'.cell? ⟨g, o + k * 11 + 8, none⟩ = some (.slice P m1 r1) ∧ w'.cell? ⟨g, o + k * 11 + 9, none⟩ = some (.int .i64 s.dp) ∧ w'.cell? ⟨g, o + k * 11 + 10, none⟩ = some (.bool s.lo) ∧ w'.cell? ⟨g2, o2 + k * 11, none⟩ = some (.int .i64 t.sp.tr) ∧ w'.cell? ⟨g2, o2 + k * 11 + 1, none⟩ = some (.int .i64 t.sp.id) ∧ w'.cell? ⟨g2, o2 + k * 11 + 2, none⟩ = some (.int .i64 t.sp.pa) ∧ w'.cell? ⟨g2, o2 + k * 11 + 3, none⟩ = some (.string t.sp.sv) ∧ w'.cell? ⟨g2, o2 + k * 11 + 4, none⟩ = some (.string t.sp.op) ∧ w'.cell? ⟨g2, o2 + k * 11 + 5, none⟩ = some (.int .i64 t.sp.st) ∧ w'.cell? ⟨g2, o2 + k * 11 + 6, none⟩ = some (.int .i64 t.sp.ln) ∧ w'.cell? ⟨g2, o2 + k * 11 + 7, none⟩ = some (.string t.sp.sj) ∧ w'.cell? ⟨g2, o2 + k * 11 + 8, none⟩ = some (.slice Q m2 r2) ∧ w'.cell? ⟨g2, o2 + k * 11 + 9, none⟩ = some (.int .i64 t.dp) ∧ w'.cell? ⟨g2, o2 + k * 11 + 10, none⟩ = some (.bool t.lo))) (by kernel_rfl) (AK.out _ (bel0 _).drew) (fun hHeld => ?_)
      refine' take_val (i := 0) (d := 61) (v := _) rfl rfl (by kernel_rfl) (by kernel_rfl) (by kernel_rfl) (fun _ _ _ h => h) (by rfl) ?_ (by assumption) ?_
      rotate_left
      · (intro w hSw; (try dsimp only at hSw); go_simp; (try with_reducible rfl))
      (try simp only [Act.put, List.setIfInBounds_toArray, List.set_cons_zero, List.set_cons_succ])
      refine' take_val (i := 1) (d := 62) (v := _) rfl rfl (by kernel_rfl) (by kernel_rfl) (by kernel_rfl) (fun _ _ _ h => h) (by rfl) ?_ (by assumption) ?_
      rotate_left
      · (intro w hSw; (try dsimp only at hSw); go_simp; (try with_reducible rfl))
      (try simp only [Act.put, List.setIfInBounds_toArray, List.set_cons_zero, List.set_cons_succ])
      refine' take_val (i := 2) (d := 63) (v := _) rfl rfl (by kernel_rfl) (by kernel_rfl) (by kernel_rfl) (fun _ _ _ h => h) (by rfl) ?_ (by assumption) ?_
      rotate_left
      · (intro w hSw; (try dsimp only at hSw); go_simp; (try with_reducible rfl))
      (try simp only [Act.put, List.setIfInBounds_toArray, List.set_cons_zero, List.set_cons_succ])
      refine' take_val (i := 3) (d := 64) (v := _) rfl rfl (by kernel_rfl) (by kernel_rfl) (by kernel_rfl) (fun _ _ _ h => h) (by rfl) ?_ (by assumption) ?_
      rotate_left
      · (intro w hSw; (try dsimp only at hSw); go_simp; (try with_reducible rfl))
      (try simp only [Act.put, List.setIfInBounds_toArray, List.set_cons_zero, List.set_cons_succ])
      refine' take_val (i := 4) (d := 65) (v := _) rfl rfl (by kernel_rfl) (by kernel_rfl) (by kernel_rfl) (fun _ _ _ h => h) (by rfl) ?_ (by assumption) ?_
      rotate_left
      · (intro w hSw; (try dsimp only at hSw); go_simp; (try with_reducible rfl))
      (try simp only [Act.put, List.setIfInBounds_toArray, List.set_cons_zero, List.set_cons_succ])
      refine' take_val (i := 5) (d := 66) (v := _) rfl rfl (by kernel_rfl) (by kernel_rfl) (by kernel_rfl) (fun _ _ _ h => h) (by rfl) ?_ (by assumption) ?_
      rotate_left
      · (intro w hSw; (try dsimp only at hSw); go_simp; (try with_reducible rfl))
      (try simp only [Act.put, List.setIfInBounds_toArray, List.set_cons_zero, List.set_cons_succ])
      refine' take_val (i := 6) (d := 67) (v := _) rfl rfl (by kernel_rfl) (by kernel_rfl) (by kernel_rfl) (fun _ _ _ h => h) (by rfl) ?_ (by assumption) ?_
      rotate_left
      · (intro w hSw; (try dsimp only at hSw); go_simp; (try with_reducible rfl))
      (try simp only [Act.put, List.setIfInBounds_toArray, List.set_cons_zero, List.set_cons_succ])
      refine' take_val (i := 7) (d := 68) (v := _) rfl rfl (by kernel_rfl) (by kernel_rfl) (by kernel_rfl) (fun _ _ _ h => h) (by rfl) ?_ (by assumption) ?_
      rotate_left
      · (intro w hSw; (try dsimp only at hSw); go_simp; (try with_reducible rfl))
      (try simp only [Act.put, List.setIfInBounds_toArray, List.set_cons_zero, List.set_cons_succ])
      refine' take_val (i := 8) (d := 69) (v := _) rfl rfl (by kernel_rfl) (by kernel_rfl) (by kernel_rfl) (fun _ _ _ h => h) (by rfl) ?_ (by assumption) ?_
      rotate_left
      · (intro w hSw; (try dsimp only at hSw); go_simp; (try with_reducible rfl))
      (try simp only [Act.put, List.setIfInBounds_toArray, List.set_cons_zero, List.set_cons_succ])
      refine' take_val (i := 9) (d := 70) (v := _) rfl rfl (by kernel_rfl) (by kernel_rfl) (by kernel_rfl) (fun _ _ _ h => h) (by rfl) ?_ (by assumption) ?_
      rotate_left
      · (intro w hSw; (try dsimp only at hSw); go_simp; (try with_reducible rfl))
      (try simp only [Act.put, List.setIfInBounds_toArray, List.set_cons_zero, List.set_cons_succ])
      refine wpAnyH_ready (rs := [10]) (by kernel_rfl) (by simp) ?_
      refine AllReadyH.cons rfl (fun K hK => ?_) AllReadyH.nil
      go_simp
      go_at_call 78
      refine (refSameSeen_any (HAS.out.below (And.left (b := _) hHeld)) (HBS.out.below (And.left (b := _) hHeld))).mono ?_
      rintro e w2 ⟨bb, rfl, hbb, hb2⟩
      have HBB := Lib.hid hbb
      clear hbb
      go_wp2_with fail
      refine hK.out _ _ (AK.out _ (nx (And.left (b := _) hHeld) hb2)) (fun hHeld => ?_)
      clear hK K
      (try simp only [Act.put, List.setIfInBounds_toArray, List.set_cons_zero, List.set_cons_succ])
      refine' take_val (i := 11) (d := 72) (v := _) rfl rfl (by kernel_rfl) (by kernel_rfl) (by kernel_rfl) (fun _ _ _ h => h) (by rfl) ?_ (by assumption) ?_
      rotate_left
      · (intro w hSw; (try dsimp only at hSw); go_simp; (try with_reducible rfl))
      (try simp only [Act.put, List.setIfInBounds_toArray, List.set_cons_zero, List.set_cons_succ])
      refine wpAnyH_done (by kernel_rfl) ?_ _
      have hb3 := nx hb (And.left (b := _) hHeld)
      clear AK hHeld x1 x3 x4 y1 y3 y4
      cases bb with
      | true =>
        go_wp2_with fail
        exact ⟨⟨k + 1, by omega, by go_num, Lib.hid (by rw [HL1.out, HM1.out, HE.out, HBB.out.1 (by trivial)]), hb3⟩, by simp [intOf]; omega⟩
      | false =>
        have HNE := Lib.hid (show ¬ sn1 = sn2 by
          intro e
          have h1 := HL1.out
          rw [show sn1.take (k + 1) = sn2.take (k + 1) by rw [e], HM1.out, show sn1.take k = sn2.take k by rw [e]] at h1
          have h2 := List.append_cancel_left h1
          injection h2 with h3
          have := HBB.out.2 h3.symm
          first | (cases this; done) | (simp at this; done))
        go_wp2_with fail
        go_ret
        exact smNo (fun e => HNE.out (congrArg (fun z : Ans => z.sn) e)) (nx HB0.out hb3)
    · obtain rfl : k = sn1.length := by omega
      have HF1 := Lib.hid (show sn1 = sn2 by
        have h1 := HE.out
        rw [List.take_of_length_le (Nat.le_refl _), List.take_of_length_le (by rw [HLs.out]; exact Nat.le_refl _)] at h1
        exact h1)
      clear HE hlt hk
      go_wp2_with fail
      go_loopw [6] (fun i wr => ∃ k : Nat, k ≤ ce1.length ∧ i = .int .i64 k ∧ Hid (ce1.take k = ce2.take k) ∧ Below W0.heap.size W0 wr) (fun i _ => ce1.length - (intOf i).toNat)
      case atStart => exact ⟨0, Nat.zero_le _, rfl, Lib.hid rfl, hb⟩
      case round =>
        clear hb x1 x3 x4 y1 y3 y4
        obtain ⟨k, hk, rfl, HE, hb⟩ := hrel
        obtain ⟨_, x1, _, x3, x4, _⟩ := an_block (blkB HX1.out hb)
        obtain ⟨_, y1, _, y3, y4, _⟩ := an_block (blkB HX2.out hb)
        by_cases hlt : k < ce1.length
        · have hlt2 : k < ce2.length := by have := HLc.out; omega
          have hkI : (k : Int) < (ce1.length : Int) := by omega
          have hkJ : (k : Int) < (ce2.length : Int) := by omega
          have hk0 : (0 : Int) ≤ (k : Int) := by omega
          have HL1 := Lib.hid (take_snoc ce1 k hlt)
          have HM1 := Lib.hid (take_snoc ce2 k hlt2)
          obtain ⟨g, o, cs, hA, rfl, hc⟩ := Hha2.out.cellsAt hb hlt
          obtain ⟨g2, o2, cs2, hB, rfl, hc2⟩ := Hhb2.out.cellsAt hb hlt2
          subst hA hB
          have haa : (⟨g, o, none⟩ : Addr).add (k * 2) = ⟨g, o + k * 2, none⟩ := addr_add _ _ _
          have hab : (⟨g2, o2, none⟩ : Addr).add (k * 2) = ⟨g2, o2 + k * 2, none⟩ := addr_add _ _ _
          generalize ce1[k] = s at *
          generalize ce2[k] = t at *
          have u0 : wr.cell? ⟨g, o + k * 2, none⟩ = _ := hc 0 _ rfl
          have v0 : wr.cell? ⟨g2, o2 + k * 2, none⟩ = _ := hc2 0 _ rfl
          have u1 : wr.cell? ⟨g, o + k * 2 + 1, none⟩ = _ := hc 1 _ rfl
          have v1 : wr.cell? ⟨g2, o2 + k * 2 + 1, none⟩ = _ := hc2 1 _ rfl
          clear hc hc2
          have heq := eqC_run s t
          have HBB := Lib.hid (eqC_iff s t)
          generalize eqC s t = bb at *
          cases bb with
          | true =>
            go_wp2_with fail
            go_quiet (fail)
            go_wp2_with fail
            exact ⟨⟨k + 1, by omega, by go_num, Lib.hid (by rw [HL1.out, HM1.out, HE.out, HBB.out.1 (by trivial)]), below_drewN hb _⟩, by simp [intOf]; omega⟩
          | false =>
            have HNE := Lib.hid (show ¬ ce1 = ce2 by
              intro e
              have h1 := HL1.out
              rw [show ce1.take (k + 1) = ce2.take (k + 1) by rw [e], HM1.out, show ce1.take k = ce2.take k by rw [e]] at h1
              have h2 := List.append_cancel_left h1
              injection h2 with h3
              have := HBB.out.2 h3.symm
              first | (cases this; done) | (simp at this; done))
            go_wp2_with fail
            go_quiet (fail)
            go_wp2_with fail
            go_ret
            exact smNo (fun e => HNE.out (congrArg (fun z : Ans => z.ce) e)) (nx HB0.out (below_drewN hb _))
        · obtain rfl : k = ce1.length := by omega
          have HF2 := Lib.hid (show ce1 = ce2 by
            have h1 := HE.out
            rw [List.take_of_length_le (Nat.le_refl _), List.take_of_length_le (by rw [HLc.out]; exact Nat.le_refl _)] at h1
            exact h1)
          clear HE hlt hk
          go_wp2_with fail
          go_loopw [7] (fun i wr => ∃ k : Nat, k ≤ ed1.length ∧ i = .int .i64 k ∧ Hid (ed1.take k = ed2.take k) ∧ Below W0.heap.size W0 wr) (fun i _ => ed1.length - (intOf i).toNat)
          case atStart => exact ⟨0, Nat.zero_le _, rfl, Lib.hid rfl, hb⟩
          case round =>
            clear hb x1 x3 x4 y1 y3 y4
            obtain ⟨k, hk, rfl, HE, hb⟩ := hrel
            obtain ⟨_, x1, _, x3, x4, _⟩ := an_block (blkB HX1.out hb)
            obtain ⟨_, y1, _, y3, y4, _⟩ := an_block (blkB HX2.out hb)
            by_cases hlt : k < ed1.length
            · have hlt2 : k < ed2.length := by have := HLe.out; omega
              have hkI : (k : Int) < (ed1.length : Int) := by omega
              have hkJ : (k : Int) < (ed2.length : Int) := by omega
              have hk0 : (0 : Int) ≤ (k : Int) := by omega
              have HL1 := Lib.hid (take_snoc ed1 k hlt)
              have HM1 := Lib.hid (take_snoc ed2 k hlt2)
              obtain ⟨g, o, cs, hA, rfl, hc⟩ := Hha3.out.cellsAt hb hlt
              obtain ⟨g2, o2, cs2, hB, rfl, hc2⟩ := Hhb3.out.cellsAt hb hlt2
              subst hA hB
              have haa : (⟨g, o, none⟩ : Addr).add (k * 3) = ⟨g, o + k * 3, none⟩ := addr_add _ _ _
              have hab : (⟨g2, o2, none⟩ : Addr).add (k * 3) = ⟨g2, o2 + k * 3, none⟩ := addr_add _ _ _
              generalize ed1[k] = s at *
              generalize ed2[k] = t at *
              have u0 : wr.cell? ⟨g, o + k * 3, none⟩ = _ := hc 0 _ rfl
              have v0 : wr.cell? ⟨g2, o2 + k * 3, none⟩ = _ := hc2 0 _ rfl
              have u1 : wr.cell? ⟨g, o + k * 3 + 1, none⟩ = _ := hc 1 _ rfl
              have v1 : wr.cell? ⟨g2, o2 + k * 3 + 1, none⟩ = _ := hc2 1 _ rfl
              have u2 : wr.cell? ⟨g, o + k * 3 + 2, none⟩ = _ := hc 2 _ rfl
              have v2 : wr.cell? ⟨g2, o2 + k * 3 + 2, none⟩ = _ := hc2 2 _ rfl
              clear hc hc2
              have heq := eqE_run s t
              have HBB := Lib.hid (eqE_iff s t)
              generalize eqE s t = bb at *
              cases bb with
              | true =>
                go_wp2_with fail
                go_quiet (fail)
                go_wp2_with fail
                exact ⟨⟨k + 1, by omega, by go_num, Lib.hid (by rw [HL1.out, HM1.out, HE.out, HBB.out.1 (by trivial)]), below_drewN hb _⟩, by simp [intOf]; omega⟩
              | false =>
                have HNE := Lib.hid (show ¬ ed1 = ed2 by
                  intro e
                  have h1 := HL1.out
                  rw [show ed1.take (k + 1) = ed2.take (k + 1) by rw [e], HM1.out, show ed1.take k = ed2.take k by rw [e]] at h1
                  have h2 := List.append_cancel_left h1
                  injection h2 with h3
                  have := HBB.out.2 h3.symm
                  first | (cases this; done) | (simp at this; done))
                go_wp2_with fail
                go_quiet (fail)
                go_wp2_with fail
                go_ret
                exact smNo (fun e => HNE.out (congrArg (fun z : Ans => z.ed) e)) (nx HB0.out (below_drewN hb _))
            · obtain rfl : k = ed1.length := by omega
              have HF3 := Lib.hid (show ed1 = ed2 by
                have h1 := HE.out
                rw [List.take_of_length_le (Nat.le_refl _), List.take_of_length_le (by rw [HLe.out]; exact Nat.le_refl _)] at h1
                exact h1)
              clear HE hlt hk
              go_wp2_with fail
              go_ret
              exact smYes (by rw [HF1.out, HF2.out, HF3.out]) (nx HB0.out hb)
set_option maxHeartbeats 64000000 in
set_option maxRecDepth 100000 in
theorem refAnSame_any {a b : Ans} {u v x u' v' x' : Value} {w : World} (h : AnL w a u v x) (h2 : AnL w b u' v' x') :
    Calls Tryz.prog 8 #[anV a u v x, anV b u' v' x'] w fun e w' => SmR w w' e (a = b) := by
  obtain ⟨⟨A1, c1, rfl, ha1⟩, ⟨B1, d1, rfl, ha2⟩, ⟨D1, e1, rfl, ha3⟩⟩ := h
  obtain ⟨⟨A2, c2, rfl, hb1⟩, ⟨B2, d2, rfl, hb2⟩, ⟨D2, e2, rfl, hb3⟩⟩ := h2
  have C := Lib.hid (fun (W : World) (hW : Below w.heap.size w W) => refSameAnswer_any (a := a) (b := b) (AnL.below ⟨⟨A1, c1, rfl, ha1⟩, ⟨B1, d1, rfl, ha2⟩, ⟨D1, e1, rfl, ha3⟩⟩ hW) (AnL.below ⟨⟨A2, c2, rfl, hb1⟩, ⟨B2, d2, rfl, hb2⟩, ⟨D2, e2, rfl, hb3⟩⟩ hW))
  unfold anV at C ⊢
  have hb := nx (bel1 w (.cells #[.int .i64 a.er, .slice A1 a.sn.length c1, .int .i64 a.nx, .slice B1 a.ce.length d1, .slice D1 a.ed.length e1, .int .i64 a.lf] 29)) (bel1 (w.alloc (.cells #[.int .i64 a.er, .slice A1 a.sn.length c1, .int .i64 a.nx, .slice B1 a.ce.length d1, .slice D1 a.ed.length e1, .int .i64 a.lf] 29)) (.cells #[.int .i64 b.er, .slice A2 b.sn.length c2, .int .i64 b.nx, .slice B2 b.ce.length d2, .slice D2 b.ed.length e2, .int .i64 b.lf] 29))
  clear ha1 ha2 ha3 hb1 hb2 hb3
  go_enter Tryz.func8, Tryz.ntmps8
  go_wp2_with fail
  first
  | (refine (C.out _ (bel0 _)).mono ?_
     rintro r w5 ⟨bb, rfl, hbb, hb5⟩
     have HBB := Lib.hid hbb
     have HB := Lib.hid hb5
     clear hbb hb5 hb
     go_wp2_with fail
     go_ret
     exact ⟨bb, rfl, HBB.out, HB.out⟩)
  | (refine (C.out _ hb).mono ?_
     rintro r w5 ⟨bb, rfl, hbb, hb5⟩
     have HBB := Lib.hid hbb
     have HB := Lib.hid (nx hb hb5)
     clear hbb hb5 hb
     go_wp2_with fail
     go_ret
     exact ⟨bb, rfl, HBB.out, HB.out⟩)
end Go.Proofs.YtfedgjahbmcpoaaGreat
