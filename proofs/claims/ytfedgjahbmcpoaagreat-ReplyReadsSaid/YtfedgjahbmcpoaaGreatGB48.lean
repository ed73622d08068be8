/- Lists of spans as seen compared; answers compared, by the program and by the document. No conditions. -/
import Derived.Test.YtfedgjahbmcpoaaGreatGB47
import Derived.Test.YtfedgjahbmcpoaaGreatGB36
import Derived.Deep.RegionHeld3
set_option linter.unusedSimpArgs false
set_option linter.unusedVariables false
namespace Go.Proofs.YtfedgjahbmcpoaaGreat
open Go.RowKit

set_option maxHeartbeats 32000000 in
set_option maxRecDepth 100000 in
theorem eqSens_any {A B : Option Addr} {n c m d : Nat} {l r : List Sen} {w : World} (h : EL snR w A n c l) (h2 : EL snR w B m d r) :
    Calls Tryz.prog 62 #[.slice A n c, .slice B m d, .func (.func 60) #[] #[]] w fun e w' => SmR w w' e (l = r) := by
  have HN := Lib.hid h.len
  have HM := Lib.hid h2.len
  have HL := Lib.hid h
  have HR := Lib.hid h2
  have hlim : n ≤ 8796093021952 := by rw [h.len]; exact h.lim
  have hlim2 : m ≤ 8796093021952 := by rw [h2.len]; exact h2.lim
  have hb0 := bel0 w
  clear h h2
  by_cases hlen : n = m
  case neg =>
    have hne : ¬ l = r := fun e => hlen (by rw [HN.out, HM.out, e])
    have HNE := Lib.hid hne
    have hd : ((n : Int) != (m : Int)) = true := by simp; omega
    clear hne
    go_enter Tryz.func62, Tryz.ntmps62
    go_wp2_with fail
    go_ret
    exact smNo HNE.out hb0
  subst hlen
  go_enter Tryz.func62, Tryz.ntmps62
  go_wp2_with fail
  go_loopw [17] (fun i wr => ∃ k : Nat, k ≤ n ∧ i = .int .i64 k ∧ Hid (l.take k = r.take k) ∧ Below w.heap.size w wr) (fun i _ => n - (intOf i).toNat)
  case atStart => exact ⟨0, Nat.zero_le _, rfl, Lib.hid rfl, hb0⟩
  case round =>
    clear hb0
    obtain ⟨k, hk, rfl, HE, hb⟩ := hrel
    by_cases hlt : k < n
    · have hl1 : k < l.length := by rw [← HN.out]; exact hlt
      have hr1 : k < r.length := by rw [← HM.out]; exact hlt
      obtain ⟨g, o, cs, hA, ⟨P, m1, d1, rfl, hAS⟩, hc⟩ := HL.out.cellsAt hb hl1
      obtain ⟨g2, o2, cs2, hB, ⟨Q, m2, d2, rfl, hBS⟩, hc2⟩ := HR.out.cellsAt hb hr1
      subst hA hB
      have haa : (⟨g, o, none⟩ : Addr).add (k * 11) = ⟨g, o + k * 11, none⟩ := addr_add _ _ _
      have hab : (⟨g2, o2, none⟩ : Addr).add (k * 11) = ⟨g2, o2 + k * 11, none⟩ := addr_add _ _ _
      have HTL := Lib.hid (show l.take (k + 1) = l.take k ++ [l[k]] from List.take_succ_eq_append_getElem hl1)
      have HTR := Lib.hid (show r.take (k + 1) = r.take k ++ [r[k]] from List.take_succ_eq_append_getElem hr1)
      have HAS := Lib.hid hAS
      have HBS := Lib.hid hBS
      have hk0 : (0 : Int) ≤ (k : Int) := by omega
      have hk1 : (k : Int) < (n : Int) := by omega
      generalize l[k] = s at *
      generalize r[k] = t at *
      clear hAS hBS
      have hbx := nx (bel1 wr (.cells #[.int .i64 s.sp.tr, .int .i64 s.sp.id, .int .i64 s.sp.pa, .string s.sp.sv, .string s.sp.op, .int .i64 s.sp.st, .int .i64 s.sp.ln, .string s.sp.sj, .slice P m1 d1, .int .i64 s.dp, .bool s.lo] 50)) (bel1 (wr.alloc (.cells #[.int .i64 s.sp.tr, .int .i64 s.sp.id, .int .i64 s.sp.pa, .string s.sp.sv, .string s.sp.op, .int .i64 s.sp.st, .int .i64 s.sp.ln, .string s.sp.sj, .slice P m1 d1, .int .i64 s.dp, .bool s.lo] 50)) (.cells #[.int .i64 t.sp.tr, .int .i64 t.sp.id, .int .i64 t.sp.pa, .string t.sp.sv, .string t.sp.op, .int .i64 t.sp.st, .int .i64 t.sp.ln, .string t.sp.sj, .slice Q m2 d2, .int .i64 t.dp, .bool t.lo] 50))
      have gs : g < wr.heap.size := World.block_lt_of_cell? wr _ (hc 0 _ rfl)
      have gs2 : g2 < wr.heap.size := World.block_lt_of_cell? wr _ (hc2 0 _ rfl)
      have hq1 : w.heap.size ≤ wr.heap.size := hb.size
      have C1 := Lib.hid (sameSeen_any (HAS.out.below hbx) (HBS.out.below hbx))
      unfold Sen.v at C1
      clear HAS HBS
      have u0 := bel1 wr (.cells #[.int .i64 s.sp.tr, .int .i64 s.sp.id, .int .i64 s.sp.pa, .string s.sp.sv, .string s.sp.op, .int .i64 s.sp.st, .int .i64 s.sp.ln, .string s.sp.sj, .slice P m1 d1, .int .i64 s.dp, .bool s.lo] 50)
      have y0 : wr.cell? ⟨g, o + k * 11, none⟩ = _ := hc 0 _ rfl
      have v0 : (wr.alloc (.cells #[.int .i64 s.sp.tr, .int .i64 s.sp.id, .int .i64 s.sp.pa, .string s.sp.sv, .string s.sp.op, .int .i64 s.sp.st, .int .i64 s.sp.ln, .string s.sp.sj, .slice P m1 d1, .int .i64 s.dp, .bool s.lo] 50)).cell? ⟨g2, o2 + k * 11, none⟩ = _ := (u0.cell (p := ⟨g2, o2 + k * 11, none⟩) gs2).trans (hc2 0 _ rfl)
      have y1 : wr.cell? ⟨g, o + k * 11 + 1, none⟩ = _ := hc 1 _ rfl
      have v1 : (wr.alloc (.cells #[.int .i64 s.sp.tr, .int .i64 s.sp.id, .int .i64 s.sp.pa, .string s.sp.sv, .string s.sp.op, .int .i64 s.sp.st, .int .i64 s.sp.ln, .string s.sp.sj, .slice P m1 d1, .int .i64 s.dp, .bool s.lo] 50)).cell? ⟨g2, o2 + k * 11 + 1, none⟩ = _ := (u0.cell (p := ⟨g2, o2 + k * 11 + 1, none⟩) gs2).trans (hc2 1 _ rfl)
      have y2 : wr.cell? ⟨g, o + k * 11 + 2, none⟩ = _ := hc 2 _ rfl
      have v2 : (wr.alloc (.cells #[.int .i64 s.sp.tr, .int .i64 s.sp.id, .int .i64 s.sp.pa, .string s.sp.sv, .string s.sp.op, .int .i64 s.sp.st, .int .i64 s.sp.ln, .string s.sp.sj, .slice P m1 d1, .int .i64 s.dp, .bool s.lo] 50)).cell? ⟨g2, o2 + k * 11 + 2, none⟩ = _ := (u0.cell (p := ⟨g2, o2 + k * 11 + 2, none⟩) gs2).trans (hc2 2 _ rfl)
      have y3 : wr.cell? ⟨g, o + k * 11 + 3, none⟩ = _ := hc 3 _ rfl
      have v3 : (wr.alloc (.cells #[.int .i64 s.sp.tr, .int .i64 s.sp.id, .int .i64 s.sp.pa, .string s.sp.sv, .string s.sp.op, .int .i64 s.sp.st, .int .i64 s.sp.ln, .string s.sp.sj, .slice P m1 d1, .int .i64 s.dp, .bool s.lo] 50)).cell? ⟨g2, o2 + k * 11 + 3, none⟩ = _ := (u0.cell (p := ⟨g2, o2 + k * 11 + 3, none⟩) gs2).trans (hc2 3 _ rfl)
      have y4 : wr.cell? ⟨g, o + k * 11 + 4, none⟩ = _ := hc 4 _ rfl
      have v4 : (wr.alloc (.cells #[.int .i64 s.sp.tr, .int .i64 s.sp.id, .int .i64 s.sp.pa, .string s.sp.sv, .string s.sp.op, .int .i64 s.sp.st, .int .i64 s.sp.ln, .string s.sp.sj, .slice P m1 d1, .int .i64 s.dp, .bool s.lo] 50)).cell? ⟨g2, o2 + k * 11 + 4, none⟩ = _ := (u0.cell (p := ⟨g2, o2 + k * 11 + 4, none⟩) gs2).trans (hc2 4 _ rfl)
      have y5 : wr.cell? ⟨g, o + k * 11 + 5, none⟩ = _ := hc 5 _ rfl
      have v5 : (wr.alloc (.cells #[.int .i64 s.sp.tr, .int .i64 s.sp.id, .int .i64 s.sp.pa, .string s.sp.sv, .string s.sp.op, .int .i64 s.sp.st, .int .i64 s.sp.ln, .string s.sp.sj, .slice P m1 d1, .int .i64 s.dp, .bool s.lo] 50)).cell? ⟨g2, o2 + k * 11 + 5, none⟩ = _ := (u0.cell (p := ⟨g2, o2 + k * 11 + 5, none⟩) gs2).trans (hc2 5 _ rfl)
      have y6 : wr.cell? ⟨g, o + k * 11 + 6, none⟩ = _ := hc 6 _ rfl
      have v6 : (wr.alloc (.cells #[.int .i64 s.sp.tr, .int .i64 s.sp.id, .int .i64 s.sp.pa, .string s.sp.sv, .string s.sp.op, .int .i64 s.sp.st, .int .i64 s.sp.ln, .string s.sp.sj, .slice P m1 d1, .int .i64 s.dp, .bool s.lo] 50)).cell? ⟨g2, o2 + k * 11 + 6, none⟩ = _ := (u0.cell (p := ⟨g2, o2 + k * 11 + 6, none⟩) gs2).trans (hc2 6 _ rfl)
      have y7 : wr.cell? ⟨g, o + k * 11 + 7, none⟩ = _ := hc 7 _ rfl
      have v7 : (wr.alloc (.cells #[.int .i64 s.sp.tr, .int .i64 s.sp.id, .int .i64 s.sp.pa, .string s.sp.sv, .string s.sp.op, .int .i64 s.sp.st, .int .i64 s.sp.ln, .string s.sp.sj, .slice P m1 d1, .int .i64 s.dp, .bool s.lo] 50)).cell? ⟨g2, o2 + k * 11 + 7, none⟩ = _ := (u0.cell (p := ⟨g2, o2 + k * 11 + 7, none⟩) gs2).trans (hc2 7 _ rfl)
      have y8 : wr.cell? ⟨g, o + k * 11 + 8, none⟩ = _ := hc 8 _ rfl
      have v8 : (wr.alloc (.cells #[.int .i64 s.sp.tr, .int .i64 s.sp.id, .int .i64 s.sp.pa, .string s.sp.sv, .string s.sp.op, .int .i64 s.sp.st, .int .i64 s.sp.ln, .string s.sp.sj, .slice P m1 d1, .int .i64 s.dp, .bool s.lo] 50)).cell? ⟨g2, o2 + k * 11 + 8, none⟩ = _ := (u0.cell (p := ⟨g2, o2 + k * 11 + 8, none⟩) gs2).trans (hc2 8 _ rfl)
      have y9 : wr.cell? ⟨g, o + k * 11 + 9, none⟩ = _ := hc 9 _ rfl
      have v9 : (wr.alloc (.cells #[.int .i64 s.sp.tr, .int .i64 s.sp.id, .int .i64 s.sp.pa, .string s.sp.sv, .string s.sp.op, .int .i64 s.sp.st, .int .i64 s.sp.ln, .string s.sp.sj, .slice P m1 d1, .int .i64 s.dp, .bool s.lo] 50)).cell? ⟨g2, o2 + k * 11 + 9, none⟩ = _ := (u0.cell (p := ⟨g2, o2 + k * 11 + 9, none⟩) gs2).trans (hc2 9 _ rfl)
      have y10 : wr.cell? ⟨g, o + k * 11 + 10, none⟩ = _ := hc 10 _ rfl
      have v10 : (wr.alloc (.cells #[.int .i64 s.sp.tr, .int .i64 s.sp.id, .int .i64 s.sp.pa, .string s.sp.sv, .string s.sp.op, .int .i64 s.sp.st, .int .i64 s.sp.ln, .string s.sp.sj, .slice P m1 d1, .int .i64 s.dp, .bool s.lo] 50)).cell? ⟨g2, o2 + k * 11 + 10, none⟩ = _ := (u0.cell (p := ⟨g2, o2 + k * 11 + 10, none⟩) gs2).trans (hc2 10 _ rfl)
      clear u0 hc hc2
      go_wp2_with fail
      refine C1.out.mono ?_
      rintro e w2 ⟨bb, rfl, hbb, hb2⟩
      have hb3 := nx hb (nx hbx hb2)
      have HBB := Lib.hid hbb
      clear hbb hb2 hbx C1 v0 y0 v1 y1 v2 y2 v3 y3 v4 y4 v5 y5 v6 y6 v7 y7 v8 y8 v9 y9 v10 y10
      cases bb with
      | true =>
        go_wp2_with fail
        exact ⟨⟨k + 1, by omega, by go_num, Lib.hid (by rw [HTL.out, HTR.out, HE.out, HBB.out.1 (by trivial)]), hb3⟩, by simp [intOf]; omega⟩
      | false =>
        have HNE := Lib.hid (show ¬ l = r by
          intro e
          subst e
          have h1 := HTL.out
          rw [HTR.out] at h1
          have h2 := List.append_cancel_left h1
          injection h2 with h3
          have := HBB.out.2 h3.symm
          cases this)
        go_wp2_with fail
        go_ret
        exact smNo HNE.out hb3
    · obtain rfl : k = n := by omega
      have HY := Lib.hid (show l = r by
        have h1 := HE.out
        rw [List.take_of_length_le (by rw [HN.out]; exact Nat.le_refl _), List.take_of_length_le (by rw [HM.out]; exact Nat.le_refl _)] at h1
        exact h1)
      go_wp2_with fail
      go_ret
      exact smYes HY.out hb
set_option maxHeartbeats 32000000 in
set_option maxRecDepth 100000 in
theorem rSame_any {a b : Ans} {u v x u' v' x' : Value} {w : World} (h : AnL w a u v x) (h2 : AnL w b u' v' x') :
    Calls Tryz.prog 17 #[anV a u v x, anV b u' v' x'] w fun e w' => SmR w w' e (a = b) := by
  obtain ⟨⟨A1, c1, rfl, ha1⟩, ⟨B1, d1, rfl, ha2⟩, ⟨D1, e1, rfl, ha3⟩⟩ := h
  obtain ⟨⟨A2, c2, rfl, hb1⟩, ⟨B2, d2, rfl, hb2⟩, ⟨D2, e2, rfl, hb3⟩⟩ := h2
  obtain ⟨er1, sn1, nx1, ce1, ed1, lf1⟩ := a
  obtain ⟨er2, sn2, nx2, ce2, ed2, lf2⟩ := b
  unfold anV
  simp only at *
  have hbx := nx (bel1 w (.cells #[.int .i64 er1, .slice A1 sn1.length c1, .int .i64 nx1, .slice B1 ce1.length d1, .slice D1 ed1.length e1, .int .i64 lf1] 29)) (bel1 (w.alloc (.cells #[.int .i64 er1, .slice A1 sn1.length c1, .int .i64 nx1, .slice B1 ce1.length d1, .slice D1 ed1.length e1, .int .i64 lf1] 29)) (.cells #[.int .i64 er2, .slice A2 sn2.length c2, .int .i64 nx2, .slice B2 ce2.length d2, .slice D2 ed2.length e2, .int .i64 lf2] 29))
  have X1 := blkB (heap_alloc_new w (.cells #[.int .i64 er1, .slice A1 sn1.length c1, .int .i64 nx1, .slice B1 ce1.length d1, .slice D1 ed1.length e1, .int .i64 lf1] 29)) (bel1 _ (.cells #[.int .i64 er2, .slice A2 sn2.length c2, .int .i64 nx2, .slice B2 ce2.length d2, .slice D2 ed2.length e2, .int .i64 lf2] 29))
  have X2 := heap_alloc_new (w.alloc (.cells #[.int .i64 er1, .slice A1 sn1.length c1, .int .i64 nx1, .slice B1 ce1.length d1, .slice D1 ed1.length e1, .int .i64 lf1] 29)) (.cells #[.int .i64 er2, .slice A2 sn2.length c2, .int .i64 nx2, .slice B2 ce2.length d2, .slice D2 ed2.length e2, .int .i64 lf2] 29)
  rw [World.size_alloc] at X2
  have Hha1 := Lib.hid (ha1.below hbx)
  have Hha2 := Lib.hid (ha2.below hbx)
  have Hha3 := Lib.hid (ha3.below hbx)
  have Hhb1 := Lib.hid (hb1.below hbx)
  have Hhb2 := Lib.hid (hb2.below hbx)
  have Hhb3 := Lib.hid (hb3.below hbx)
  have lmha1 := ha1.lim
  have lmha2 := ha2.lim
  have lmha3 := ha3.lim
  have lmhb1 := hb1.lim
  have lmhb2 := hb2.lim
  have lmhb3 := hb3.lim
  clear ha1 ha2 ha3 hb1 hb2 hb3
  go_enter Tryz.func17, Tryz.ntmps17
  go_upto_region 1 with (fail)
  obtain ⟨W0, hW⟩ : ∃ W, W = (w.alloc (.cells #[.int .i64 er1, .slice A1 sn1.length c1, .int .i64 nx1, .slice B1 ce1.length d1, .slice D1 ed1.length e1, .int .i64 lf1] 29)).alloc (.cells #[.int .i64 er2, .slice A2 sn2.length c2, .int .i64 nx2, .slice B2 ce2.length d2, .slice D2 ed2.length e2, .int .i64 lf2] 29) := ⟨_, rfl⟩
  rw [← hW] at X1 X2 hbx Hha1 Hha2 Hha3 Hhb1 Hhb2 Hhb3 ⊢
  clear hW
  obtain ⟨q2, hqq⟩ : ∃ q, q = w.heap.size + 1 := ⟨_, rfl⟩
  rw [← hqq] at X2 ⊢
  clear hqq
  obtain ⟨q1, hqq⟩ : ∃ q, q = w.heap.size := ⟨_, rfl⟩
  rw [← hqq] at X1 ⊢
  clear hqq
  have HB0 := Lib.hid hbx
  have HX1 := Lib.hid X1
  have HX2 := Lib.hid X2
  have x0 := cell_of X1 0
  have y0 := cell_of X2 0
  have x1 := cell_of X1 1
  have y1 := cell_of X2 1
  have x2 := cell_of X1 2
  have y2 := cell_of X2 2
  have x3 := cell_of X1 3
  have y3 := cell_of X2 3
  have x4 := cell_of X1 4
  have y4 := cell_of X2 4
  have x5 := cell_of X1 5
  have y5 := cell_of X2 5
  simp at x0 y0 x1 y1 x2 y2 x3 y3 x4 y4 x5 y5
  clear X1 X2 hbx
  by_cases eer : er1 = er2
  case neg =>
    have hsf : (er1 == er2) = false := by simpa using eer
    go_wp2_with fail
    go_ret
    exact smNo (fun e => eer (congrArg (fun z : Ans => z.er) e)) HB0.out
  subst eer
  by_cases enx : nx1 = nx2
  case neg =>
    have hsf : (nx1 == nx2) = false := by simpa using enx
    go_wp2_with fail
    go_ret
    exact smNo (fun e => enx (congrArg (fun z : Ans => z.nx) e)) HB0.out
  subst enx
  by_cases elf : lf1 = lf2
  case neg =>
    have hsf : (lf1 == lf2) = false := by simpa using elf
    go_wp2_with fail
    go_ret
    exact smNo (fun e => elf (congrArg (fun z : Ans => z.lf) e)) HB0.out
  subst elf
  go_wp2_with fail
  refine (eqSens_any (Hha1.out) (Hhb1.out)).mono ?_
  rintro r t1 ⟨bb, rfl, hbb, hbt⟩
  have HBB := Lib.hid hbb
  have HB1 := Lib.hid (nx HB0.out hbt)
  have HC1 := Lib.hid hbt
  have HT1 := Lib.hid (blkB HX1.out hbt)
  have HT2 := Lib.hid (blkB HX2.out hbt)
  clear hbb hbt x0 y0 x1 y1 x2 y2 x3 y3 x4 y4 x5 y5
  have x0 := cell_of HT1.out 0
  have y0 := cell_of HT2.out 0
  have x1 := cell_of HT1.out 1
  have y1 := cell_of HT2.out 1
  have x2 := cell_of HT1.out 2
  have y2 := cell_of HT2.out 2
  have x3 := cell_of HT1.out 3
  have y3 := cell_of HT2.out 3
  have x4 := cell_of HT1.out 4
  have y4 := cell_of HT2.out 4
  have x5 := cell_of HT1.out 5
  have y5 := cell_of HT2.out 5
  simp at x0 y0 x1 y1 x2 y2 x3 y3 x4 y4 x5 y5
  cases bb with
  | false =>
    go_wp2_with fail
    go_ret
    exact smNo (fun e => by have := HBB.out.2 (congrArg (fun z : Ans => z.sn) e); cases this) HB1.out
  | true =>
    obtain rfl := HBB.out.1 rfl
    go_wp2_with fail
    refine (eqCels_any (Hha2.out.below HC1.out) (Hhb2.out.below HC1.out)).mono ?_
    rintro r t2 ⟨bb, rfl, hbb, hbt⟩
    have HBB := Lib.hid hbb
    have HB2 := Lib.hid (nx HB1.out hbt)
    have HC2 := Lib.hid (nx HC1.out hbt)
    replace HT1 := Lib.hid (blkB HT1.out hbt)
    replace HT2 := Lib.hid (blkB HT2.out hbt)
    clear hbb hbt x0 y0 x1 y1 x2 y2 x3 y3 x4 y4 x5 y5
    have x0 := cell_of HT1.out 0
    have y0 := cell_of HT2.out 0
    have x1 := cell_of HT1.out 1
    have y1 := cell_of HT2.out 1
    have x2 := cell_of HT1.out 2
    have y2 := cell_of HT2.out 2
    have x3 := cell_of HT1.out 3
    have y3 := cell_of HT2.out 3
    have x4 := cell_of HT1.out 4
    have y4 := cell_of HT2.out 4
    have x5 := cell_of HT1.out 5
    have y5 := cell_of HT2.out 5
    simp at x0 y0 x1 y1 x2 y2 x3 y3 x4 y4 x5 y5
    cases bb with
    | false =>
      go_wp2_with fail
      go_ret
      exact smNo (fun e => by have := HBB.out.2 (congrArg (fun z : Ans => z.ce) e); cases this) HB2.out
    | true =>
      obtain rfl := HBB.out.1 rfl
      go_wp2_with fail
      refine (eqEdgs_any (Hha3.out.below HC2.out) (Hhb3.out.below HC2.out)).mono ?_
      rintro r t3 ⟨bb, rfl, hbb, hbt⟩
      have HBB := Lib.hid hbb
      have HB3 := Lib.hid (nx HB2.out hbt)
      have HC3 := Lib.hid (nx HC2.out hbt)
      replace HT1 := Lib.hid (blkB HT1.out hbt)
      replace HT2 := Lib.hid (blkB HT2.out hbt)
      clear hbb hbt x0 y0 x1 y1 x2 y2 x3 y3 x4 y4 x5 y5
      have x0 := cell_of HT1.out 0
      have y0 := cell_of HT2.out 0
      have x1 := cell_of HT1.out 1
      have y1 := cell_of HT2.out 1
      have x2 := cell_of HT1.out 2
      have y2 := cell_of HT2.out 2
      have x3 := cell_of HT1.out 3
      have y3 := cell_of HT2.out 3
      have x4 := cell_of HT1.out 4
      have y4 := cell_of HT2.out 4
      have x5 := cell_of HT1.out 5
      have y5 := cell_of HT2.out 5
      simp at x0 y0 x1 y1 x2 y2 x3 y3 x4 y4 x5 y5
      cases bb with
      | false =>
        go_wp2_with fail
        go_ret
        exact smNo (fun e => by have := HBB.out.2 (congrArg (fun z : Ans => z.ed) e); cases this) HB3.out
      | true =>
        obtain rfl := HBB.out.1 rfl
        go_wp2_with fail
        go_ret
        exact ⟨true, rfl, ⟨fun _ => (by first | rfl | trivial), fun _ => rfl⟩, HB3.out⟩
end Go.Proofs.YtfedgjahbmcpoaaGreat
