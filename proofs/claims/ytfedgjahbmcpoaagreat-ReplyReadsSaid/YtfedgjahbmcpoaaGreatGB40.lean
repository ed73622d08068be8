/- The document's lists, Check of an answer: contracts. No conditions. -/
import Derived.Test.YtfedgjahbmcpoaaGreatGB36
import Derived.Deep.QuietTactic
import Derived.BigQuiet
import Derived.Deep.DeepCutAuto
set_option linter.unusedSimpArgs false
set_option linter.unusedVariables false
namespace Go.Proofs.YtfedgjahbmcpoaaGreat
open Go.RowKit

/-- The lists may be. -/
structure OkL (a : Ans) : Prop where
  sn : MayL OkSn (fun _ _ => True) a.sn ∧ a.sn.length ≤ 1000
  ce : MayL OkCe aheadC a.ce ∧ a.ce.length ≤ 20
  ed : MayL OkEd aheadE a.ed ∧ a.ed.length ≤ 10000
theorem refRin_is {n a : Int} {b : Bool} (h : inM n a = b) (w : World) : Calls Tryz.prog 58 #[.int .i64 n, .int .i64 a] w fun e w' => e = .returned (.bool b) ∧ w' = w := by rw [← h]; exact (refRin_any n a w).mono fun _ _ ⟨h1, h2⟩ => ⟨h1, h2.symm⟩
theorem less_of {x y : ByteArray} (h : Op.bytesLess x.toList y.toList = false) (hne : (x.toList == y.toList) = false) : ltB y x := by
  have := leq_less x.toList y.toList
  rw [h, hne] at this
  unfold ltB
  cases hq : Op.bytesLess y.toList x.toList with
  | true => rfl
  | false => rw [hq] at this; cases this
theorem less_self (x : List UInt8) : Op.bytesLess x x = false := by
  have := leq_less x x
  simp at this
  exact this
theorem less_no {x y : ByteArray} (h : ltB x y) : Op.bytesLess y.toList x.toList = false ∧ (y.toList == x.toList) = false := by
  have := leq_less y.toList x.toList
  unfold ltB at h
  rw [h] at this
  cases h1 : Op.bytesLess y.toList x.toList with
  | true => rw [h1] at this; cases this
  | false =>
    refine ⟨rfl, ?_⟩
    rw [h1] at this
    simpa using this
set_option maxHeartbeats 64000000 in
set_option maxRecDepth 100000 in
theorem refLists_any {a : Ans} {u v x : Value} {w : World} (h : AnL w a u v x) :
    Calls Tryz.prog 59 #[anV a u v x] w fun e w' => SmR w w' e (OkL a) := by
  obtain ⟨⟨A, c, rfl, h1⟩, ⟨B, d, rfl, h2⟩, ⟨D, e, rfl, h3⟩⟩ := h
  have MK := Lib.hid (fun h1 h2 h3 => show OkL a from ⟨h1, h2, h3⟩)
  have UN := Lib.hid (fun h : OkL a => (show _ ∧ _ ∧ _ from ⟨h.sn, h.ce, h.ed⟩))
  obtain ⟨P, hP⟩ : ∃ P, P = OkL a := ⟨_, rfl⟩
  rw [← hP] at MK UN ⊢
  clear hP
  obtain ⟨er, sn, nxx, ce, ed, lf⟩ := a
  unfold anV
  simp only at *
  have l1 := h1.lim
  have l2 := h2.lim
  have l3 := h3.lim
  have hb0 := bel1 w (.cells #[.int .i64 er, .slice A sn.length c, .int .i64 nxx, .slice B ce.length d, .slice D ed.length e, .int .i64 lf] 29)
  have HQ := Lib.hid (heap_alloc_new w (.cells #[.int .i64 er, .slice A sn.length c, .int .i64 nxx, .slice B ce.length d, .slice D ed.length e, .int .i64 lf] 29))
  have H1 := Lib.hid (h1.below hb0)
  have H2 := Lib.hid (h2.below hb0)
  have H3 := Lib.hid (h3.below hb0)
  clear h1 h2 h3
  go_enter Tryz.func59, Tryz.ntmps59
  go_upto_region 1 with (fail)
  (try simp only [List.append_eq, List.cons_append, List.nil_append])
  obtain ⟨W0, hW⟩ : ∃ W, W = w.alloc (.cells #[.int .i64 er, .slice A sn.length c, .int .i64 nxx, .slice B ce.length d, .slice D ed.length e, .int .i64 lf] 29) := ⟨_, rfl⟩
  rw [← hW] at HQ hb0 H1 H2 H3 ⊢
  clear hW
  obtain ⟨q, hqq⟩ : ∃ q, q = w.heap.size := ⟨_, rfl⟩
  rw [← hqq] at HQ ⊢
  clear hqq
  have HB0 := Lib.hid hb0
  clear hb0
  obtain ⟨d0, d1, d2, d3, d4, d5⟩ := an_block HQ.out
  by_cases m1 : (sn.length : Int) ≤ 1000
  case neg =>
    have HNm := Lib.hid m1
    have t1 : decide ((1000 : Int) < (sn.length : Int)) = true := decide_eq_true (by omega)
    go_wp2_with fail
    go_ret
    exact smNo (fun h => by have h1 := HNm.out; have h2 := (UN.out h).1.2; omega) HB0.out
  by_cases m2 : (ce.length : Int) ≤ 20
  case neg =>
    have t1 : decide ((1000 : Int) < (sn.length : Int)) = false := decide_eq_false (by omega)
    have HNm := Lib.hid m2
    have t2 : decide ((20 : Int) < (ce.length : Int)) = true := decide_eq_true (by omega)
    go_wp2_with fail
    go_ret
    exact smNo (fun h => by have h1 := HNm.out; have h2 := (UN.out h).2.1.2; omega) HB0.out
  by_cases m3 : (ed.length : Int) ≤ 10000
  case neg =>
    have t1 : decide ((1000 : Int) < (sn.length : Int)) = false := decide_eq_false (by omega)
    have t2 : decide ((20 : Int) < (ce.length : Int)) = false := decide_eq_false (by omega)
    have HNm := Lib.hid m3
    have t3 : decide ((10000 : Int) < (ed.length : Int)) = true := decide_eq_true (by omega)
    go_wp2_with fail
    go_ret
    exact smNo (fun h => by have h1 := HNm.out; have h2 := (UN.out h).2.2.2; omega) HB0.out
  have M1 := Lib.hid (show sn.length ≤ 1000 by omega)
  have M2 := Lib.hid (show ce.length ≤ 20 by omega)
  have M3 := Lib.hid (show ed.length ≤ 10000 by omega)
  have t1 : decide ((1000 : Int) < (sn.length : Int)) = false := decide_eq_false (by omega)
  have t2 : decide ((20 : Int) < (ce.length : Int)) = false := decide_eq_false (by omega)
  have t3 : decide ((10000 : Int) < (ed.length : Int)) = false := decide_eq_false (by omega)
  go_wp2_with fail
  clear t1 t2 t3 d0 d1 d2 d3 d4 d5 m1 m2 m3
  go_loopw [3] (fun i wr => ∃ k : Nat, k ≤ sn.length ∧ i = .int .i64 k ∧ Hid (MayL OkSn (fun _ _ => True) (sn.take k)) ∧ Below W0.heap.size W0 wr) (fun i _ => sn.length - (intOf i).toNat)
  case atStart => exact ⟨0, Nat.zero_le _, rfl, Lib.hid (MayL.nil _ _), bel0 _⟩
  case round =>
    obtain ⟨k, hk, rfl, HP, hb⟩ := hrel
    obtain ⟨d0, d1, d2, d3, d4, d5⟩ := an_block (blkB HQ.out hb)
    by_cases hlt : k < sn.length
    · have hlI : (k : Int) < (sn.length : Int) := by omega
      obtain ⟨g, o, cs, hA, ⟨P1, m1, c9, rfl, hAS⟩, hc⟩ := H1.out.cellsAt hb hlt
      have haa : (⟨g, o, none⟩ : Addr).add (k * 11) = ⟨g, o + k * 11, none⟩ := addr_add _ _ _
      have HSN := Lib.hid (MayL.snoc (is := OkSn) (ah := (fun _ _ => True)) hlt)
      have HIS := Lib.hid (fun (h : MayL OkSn (fun _ _ => True) sn) => h.1 _ (List.getElem_mem hlt))
      have e0 : wr.cell? ⟨g, o + k * 11, none⟩ = _ := hc 0 _ rfl
      have e1 : wr.cell? ⟨g, o + k * 11 + 1, none⟩ = _ := hc 1 _ rfl
      have e2 : wr.cell? ⟨g, o + k * 11 + 2, none⟩ = _ := hc 2 _ rfl
      have e3 : wr.cell? ⟨g, o + k * 11 + 3, none⟩ = _ := hc 3 _ rfl
      have e4 : wr.cell? ⟨g, o + k * 11 + 4, none⟩ = _ := hc 4 _ rfl
      have e5 : wr.cell? ⟨g, o + k * 11 + 5, none⟩ = _ := hc 5 _ rfl
      have e6 : wr.cell? ⟨g, o + k * 11 + 6, none⟩ = _ := hc 6 _ rfl
      have e7 : wr.cell? ⟨g, o + k * 11 + 7, none⟩ = _ := hc 7 _ rfl
      have e8 : wr.cell? ⟨g, o + k * 11 + 8, none⟩ = _ := hc 8 _ rfl
      have e9 : wr.cell? ⟨g, o + k * 11 + 9, none⟩ = _ := hc 9 _ rfl
      have e10 : wr.cell? ⟨g, o + k * 11 + 10, none⟩ = _ := hc 10 _ rfl
      clear hc
      subst hA
      have HSN1 := Lib.hid (fun hx => HSN.out.2 ⟨HP.out, hx, fun _ => trivial⟩)
      generalize sn[k] = x at *
      clear HSN HP
      have HAS := Lib.hid hAS
      clear hAS
      have hbx := bel1 wr (.cells #[.int .i64 x.sp.tr, .int .i64 x.sp.id, .int .i64 x.sp.pa, .string x.sp.sv, .string x.sp.op, .int .i64 x.sp.st, .int .i64 x.sp.ln, .string x.sp.sj, .slice P1 m1 c9, .int .i64 x.dp, .bool x.lo] 50)
      have hq1 := heap_alloc_new wr (.cells #[.int .i64 x.sp.tr, .int .i64 x.sp.id, .int .i64 x.sp.pa, .string x.sp.sv, .string x.sp.op, .int .i64 x.sp.st, .int .i64 x.sp.ln, .string x.sp.sj, .slice P1 m1 c9, .int .i64 x.dp, .bool x.lo] 50)
      have HBX := Lib.hid (nx hb hbx)
      go_wp2_with fail
      refine (refCheckSpan_any (s := x.sp) (HAS.out.below hbx)).mono ?_
      rintro r w5 ⟨rfl, hb5⟩
      have hq5 := blkB hq1 hb5
      have y7 := cell_of hq5 7
      have y9 := cell_of hq5 9
      simp at y7 y9
      have HB5 := Lib.hid (nx HBX.out hb5)
      clear hbx hq1 hq5 hb5 HBX e0 e1 e2 e3 e4 e5 e6 e7 e8 e9 e10 d0 d1 d2 d3 d4 d5
      by_cases hok : OkS x.sp
      case neg =>
        rw [chkS_no hok]
        have HNO := Lib.hid hok
        clear hok
        go_wp2_with fail
        go_ret
        exact smNo (fun h => HNO.out (HIS.out (UN.out h).1.1).sp) (nx HB0.out HB5.out)
      rw [chkS_yes hok]
      have HOK := Lib.hid hok
      clear hok
      by_cases hs : x.sp.sj = ⟨#[]⟩
      case neg =>
        have hsj4 := ne_empty hs
        go_wp2_with fail
        go_ret
        exact smNo (fun h => hs (HIS.out (UN.out h).1.1).sj) (nx HB0.out HB5.out)
      rw [hs] at y7
      by_cases h0 : 0 ≤ x.dp
      case neg =>
        have HNm := Lib.hid h0
        have t1 : decide (x.dp < 0) = true := decide_eq_true (by omega)
        go_wp2_with fail
        go_ret
        exact smNo (fun h => by have h1 := HNm.out; have h2 := (HIS.out (UN.out h).1.1).dp.1; omega) (nx HB0.out HB5.out)
      have t1 : decide (x.dp < 0) = false := decide_eq_false (by omega)
      by_cases h1 : x.dp ≤ 1000
      case neg =>
        have HNm := Lib.hid h1
        have t2 : decide (1000 < x.dp) = true := decide_eq_true (by omega)
        go_wp2_with fail
        go_ret
        exact smNo (fun h => by have h1 := HNm.out; have h2 := (HIS.out (UN.out h).1.1).dp.2; omega) (nx HB0.out HB5.out)
      have t2 : decide (1000 < x.dp) = false := decide_eq_false (by omega)
      go_wp2_with fail
      exact ⟨⟨k + 1, by omega, by go_num, Lib.hid (HSN1.out ⟨HOK.out, hs, h0, h1⟩), HB5.out⟩, by simp [intOf]; omega⟩
    · obtain rfl : k = sn.length := by omega
      have HF1 := Lib.hid (by have := HP.out; rwa [List.take_of_length_le (Nat.le_refl _)] at this)
      clear HP hlt hk
      go_wp2_with fail
      go_loopw [5] (fun i wr => ∃ k : Nat, k ≤ ce.length ∧ i = .int .i64 k ∧ Hid (MayL OkCe aheadC (ce.take k)) ∧ Below W0.heap.size W0 wr) (fun i _ => ce.length - (intOf i).toNat)
      case atStart => exact ⟨0, Nat.zero_le _, rfl, Lib.hid (MayL.nil _ _), hb⟩
      case round =>
        clear hb d0 d1 d2 d3 d4 d5
        obtain ⟨k, hk, rfl, HP, hb⟩ := hrel
        obtain ⟨d0, d1, d2, d3, d4, d5⟩ := an_block (blkB HQ.out hb)
        by_cases hlt : k < ce.length
        · have hlI : (k : Int) < (ce.length : Int) := by omega
          obtain ⟨g, o, cs, hA, rfl, hc⟩ := H2.out.cellsAt hb hlt
          have haa : (⟨g, o, none⟩ : Addr).add (k * 2) = ⟨g, o + k * 2, none⟩ := addr_add _ _ _
          have HSN := Lib.hid (MayL.snoc (is := OkCe) (ah := aheadC) hlt)
          have HIS := Lib.hid (fun (h : MayL OkCe aheadC ce) => h.1 _ (List.getElem_mem hlt))
          have HAH := Lib.hid (fun (j : Nat) (hj : k = j + 1) (h : MayL OkCe aheadC ce) => show aheadC (ce[j]'(by omega)) ce[k] from by have := h.2 j (by omega); simpa only [hj] using this)
          have e0 : wr.cell? ⟨g, o + k * 2, none⟩ = _ := hc 0 _ rfl
          have e1 : wr.cell? ⟨g, o + k * 2 + 1, none⟩ = _ := hc 1 _ rfl
          clear hc
          by_cases hz : k = 0
          · subst hz
            subst hA
            have HSN1 := Lib.hid (fun hx => HSN.out.2 ⟨HP.out, hx, fun h => absurd h (Nat.lt_irrefl 0)⟩)
            generalize ce[0] = x at *
            clear HSN HP HAH
            rw [show ((0 : Nat) : Int) = 0 from rfl] at hlI ⊢
            simp only [Nat.zero_mul, Nat.add_zero] at haa e0 e1
            have hq1 := heap_alloc_new wr (.cells #[.int .i64 x.at', .int .i64 x.ct] 54)
            have hbx := bel1 wr (.cells #[.int .i64 x.at', .int .i64 x.ct] 54)
            go_wp2_with fail
            obtain ⟨W1, hW⟩ : ∃ W, W = wr.alloc (.cells #[.int .i64 x.at', .int .i64 x.ct] 54) := ⟨_, rfl⟩
            rw [← hW] at hq1 hbx ⊢
            clear hW
            obtain ⟨q9, hqq⟩ : ∃ p, p = wr.heap.size := ⟨_, rfl⟩
            rw [← hqq] at hq1 ⊢
            clear hqq
            have y0 := cell_of hq1 0
            have y1 := cell_of hq1 1
            simp at y0 y1
            clear e0 e1 hq1
            skip
            obtain ⟨d0, d1, d2, d3, d4, d5⟩ := an_block (blkB HQ.out (nx hb hbx))
            cases k1 : inM x.at' (-9007199254740991) with
            | false =>
              have K1 := k1
              have K2 := k1
              clear k1
              go_quiet (first | (go_at_call 58; with_reducible refine Calls.quiet_of_same (refRin_is K1 _)) | (go_at_call 58; with_reducible refine Calls.quiet_of_same (refRin_is K2 _)))
              go_wp2_with fail
              go_ret
              exact smNo (fun h => inM_no K1 (HIS.out (UN.out h).2.1.1).at') (nx HB0.out (nx (nx hb hbx) (below_drewN (bel0 _) _)))
            | true =>
              cases k2 : inM x.ct 1 with
              | false =>
                have K1 := k1
                have K2 := k2
                clear k1 k2
                go_quiet (first | (go_at_call 58; with_reducible refine Calls.quiet_of_same (refRin_is K1 _)) | (go_at_call 58; with_reducible refine Calls.quiet_of_same (refRin_is K2 _)))
                go_wp2_with fail
                go_ret
                exact smNo (fun h => inM_no K2 (HIS.out (UN.out h).2.1.1).ct) (nx HB0.out (nx (nx hb hbx) (below_drewN (bel0 _) _)))
              | true =>
                have K1 := k1
                have K2 := k2
                clear k1 k2
                have t0 : decide ((0 : Int) < 0) = false := rfl
                go_quiet (first | (go_at_call 58; with_reducible refine Calls.quiet_of_same (refRin_is K1 _)) | (go_at_call 58; with_reducible refine Calls.quiet_of_same (refRin_is K2 _)))
                go_wp2_with fail
                exact ⟨⟨0 + 1, by omega, (by first | rfl | go_num), Lib.hid (HSN1.out ⟨inM_iff.1 K1, inM_iff.1 K2⟩), nx (nx hb hbx) (below_drewN (bel0 _) _)⟩, by simp [intOf]; omega⟩
          · obtain ⟨j, rfl⟩ : ∃ j, k = j + 1 := ⟨k - 1, by omega⟩
            have hl2 : j < ce.length := by omega
            obtain ⟨g', o', cs', hA', rfl, hcy⟩ := H2.out.cellsAt hb hl2
            rw [hA] at hA'
            cases hA'
            subst hA
            have hab : (⟨g, o, none⟩ : Addr).add (j * 2) = ⟨g, o + j * 2, none⟩ := addr_add _ _ _
            have HAH1 := Lib.hid (HAH.out j rfl)
            have HSN1 := Lib.hid (fun hx (hz : aheadC ce[j] ce[j + 1]) => HSN.out.2 ⟨HP.out, hx, fun _ => hz⟩)
            have r0 : wr.cell? ⟨g, o + j * 2, none⟩ = _ := hcy 0 _ rfl
            have r1 : wr.cell? ⟨g, o + j * 2 + 1, none⟩ = _ := hcy 1 _ rfl
            clear hcy HAH HSN HP hz
            rw [show ((j + 1 : Nat) : Int) = (j : Int) + 1 from rfl] at hlI ⊢
            have hk2 : (0 : Int) ≤ (j : Int) := by omega
            have hk3 : (j : Int) < (ce.length : Int) := by omega
            have hk4 : decide ((0 : Int) < (j : Int) + 1) = true := decide_eq_true (by omega)
            have hk5 : IntKind.i64.wrap (j : Int) = (j : Int) := by rw [IntKind.wrap_i64]; omega
            generalize ce[j + 1] = x at *
            generalize ce[j] = y at *
            have hq1 := heap_alloc_new wr (.cells #[.int .i64 x.at', .int .i64 x.ct] 54)
            have hbx := bel1 wr (.cells #[.int .i64 x.at', .int .i64 x.ct] 54)
            go_wp2_with fail
            obtain ⟨W1, hW⟩ : ∃ W, W = wr.alloc (.cells #[.int .i64 x.at', .int .i64 x.ct] 54) := ⟨_, rfl⟩
            rw [← hW] at hq1 hbx ⊢
            clear hW
            obtain ⟨q9, hqq⟩ : ∃ p, p = wr.heap.size := ⟨_, rfl⟩
            rw [← hqq] at hq1 ⊢
            clear hqq
            have y0 := cell_of hq1 0
            have y1 := cell_of hq1 1
            simp at y0 y1
            clear e0 e1 hq1
            have s0 := (hbx.cell (p := ⟨g, o + j * 2, none⟩) (World.block_lt_of_cell? _ _ r0)).trans r0
            have s1 := (hbx.cell (p := ⟨g, o + j * 2 + 1, none⟩) (World.block_lt_of_cell? _ _ r1)).trans r1
            clear r0 r1
            skip
            obtain ⟨d0, d1, d2, d3, d4, d5⟩ := an_block (blkB HQ.out (nx hb hbx))
            cases k1 : inM x.at' (-9007199254740991) with
            | false =>
              have K1 := k1
              have K2 := k1
              clear k1
              go_quiet (first | (go_at_call 58; with_reducible refine Calls.quiet_of_same (refRin_is K1 _)) | (go_at_call 58; with_reducible refine Calls.quiet_of_same (refRin_is K2 _)))
              go_wp2_with fail
              go_ret
              exact smNo (fun h => inM_no K1 (HIS.out (UN.out h).2.1.1).at') (nx HB0.out (nx (nx hb hbx) (below_drewN (bel0 _) _)))
            | true =>
              cases k2 : inM x.ct 1 with
              | false =>
                have K1 := k1
                have K2 := k2
                clear k1 k2
                go_quiet (first | (go_at_call 58; with_reducible refine Calls.quiet_of_same (refRin_is K1 _)) | (go_at_call 58; with_reducible refine Calls.quiet_of_same (refRin_is K2 _)))
                go_wp2_with fail
                go_ret
                exact smNo (fun h => inM_no K2 (HIS.out (UN.out h).2.1.1).ct) (nx HB0.out (nx (nx hb hbx) (below_drewN (bel0 _) _)))
              | true =>
                have K1 := k1
                have K2 := k2
                clear k1 k2
                by_cases hz : y.at' < x.at'
                case neg =>
                  have HNm := Lib.hid hz
                  have t9 : decide (x.at' ≤ y.at') = true := decide_eq_true (by omega)
                  go_quiet (first | (go_at_call 58; with_reducible refine Calls.quiet_of_same (refRin_is K1 _)) | (go_at_call 58; with_reducible refine Calls.quiet_of_same (refRin_is K2 _)))
                  go_wp2_with fail
                  go_ret
                  exact smNo (fun h => by have h1 := HNm.out; have h2 := HAH1.out (UN.out h).2.1.1; unfold aheadC at h2; omega) (nx HB0.out (nx (nx hb hbx) (below_drewN (bel0 _) _)))
                have t9 : decide (x.at' ≤ y.at') = false := decide_eq_false (by omega)
                go_quiet (first | (go_at_call 58; with_reducible refine Calls.quiet_of_same (refRin_is K1 _)) | (go_at_call 58; with_reducible refine Calls.quiet_of_same (refRin_is K2 _)))
                go_wp2_with fail
                exact ⟨⟨j + 1 + 1, by omega, (by first | rfl | go_num), Lib.hid (HSN1.out ⟨inM_iff.1 K1, inM_iff.1 K2⟩ hz), nx (nx hb hbx) (below_drewN (bel0 _) _)⟩, by simp [intOf]; omega⟩
        · obtain rfl : k = ce.length := by omega
          have HF2 := Lib.hid (by have := HP.out; rwa [List.take_of_length_le (Nat.le_refl _)] at this)
          clear HP hlt hk
          go_wp2_with fail
          go_loopw [7] (fun i wr => ∃ k : Nat, k ≤ ed.length ∧ i = .int .i64 k ∧ Hid (MayL OkEd aheadE (ed.take k)) ∧ Below W0.heap.size W0 wr) (fun i _ => ed.length - (intOf i).toNat)
          case atStart => exact ⟨0, Nat.zero_le _, rfl, Lib.hid (MayL.nil _ _), hb⟩
          case round =>
            clear hb d0 d1 d2 d3 d4 d5
            obtain ⟨k, hk, rfl, HP, hb⟩ := hrel
            obtain ⟨d0, d1, d2, d3, d4, d5⟩ := an_block (blkB HQ.out hb)
            by_cases hlt : k < ed.length
            · have hlI : (k : Int) < (ed.length : Int) := by omega
              obtain ⟨g, o, cs, hA, rfl, hc⟩ := H3.out.cellsAt hb hlt
              have haa : (⟨g, o, none⟩ : Addr).add (k * 3) = ⟨g, o + k * 3, none⟩ := addr_add _ _ _
              have HSN := Lib.hid (MayL.snoc (is := OkEd) (ah := aheadE) hlt)
              have HIS := Lib.hid (fun (h : MayL OkEd aheadE ed) => h.1 _ (List.getElem_mem hlt))
              have HAH := Lib.hid (fun (j : Nat) (hj : k = j + 1) (h : MayL OkEd aheadE ed) => show aheadE (ed[j]'(by omega)) ed[k] from by have := h.2 j (by omega); simpa only [hj] using this)
              have e0 : wr.cell? ⟨g, o + k * 3, none⟩ = _ := hc 0 _ rfl
              have e1 : wr.cell? ⟨g, o + k * 3 + 1, none⟩ = _ := hc 1 _ rfl
              have e2 : wr.cell? ⟨g, o + k * 3 + 2, none⟩ = _ := hc 2 _ rfl
              clear hc
              by_cases hz : k = 0
              · subst hz
                subst hA
                have HSN1 := Lib.hid (fun hx => HSN.out.2 ⟨HP.out, hx, fun h => absurd h (Nat.lt_irrefl 0)⟩)
                generalize ed[0] = x at *
                clear HSN HP HAH
                rw [show ((0 : Nat) : Int) = 0 from rfl] at hlI ⊢
                simp only [Nat.zero_mul, Nat.add_zero] at haa e0 e1 e2
                have hq1 := heap_alloc_new wr (.cells #[.string x.fr, .string x.to', .int .i64 x.ct] 58)
                have hbx := bel1 wr (.cells #[.string x.fr, .string x.to', .int .i64 x.ct] 58)
                go_wp2_with fail
                obtain ⟨W1, hW⟩ : ∃ W, W = wr.alloc (.cells #[.string x.fr, .string x.to', .int .i64 x.ct] 58) := ⟨_, rfl⟩
                rw [← hW] at hq1 hbx ⊢
                clear hW
                obtain ⟨q9, hqq⟩ : ∃ p, p = wr.heap.size := ⟨_, rfl⟩
                rw [← hqq] at hq1 ⊢
                clear hqq
                have y0 := cell_of hq1 0
                have y1 := cell_of hq1 1
                have y2 := cell_of hq1 2
                simp at y0 y1 y2
                clear e0 e1 e2 hq1
                obtain ⟨d0, d1, d2, d3, d4, d5⟩ := an_block (blkB HQ.out (nx hb hbx))
                refine (refIsName_any x.fr _).mono ?_
                rintro r w5 ⟨rfl, rfl⟩
                cases nf : nm (sb x.fr) with
                | false =>
                  go_wp2_with fail
                  go_ret
                  exact smNo (fun h => by have h1 := (HIS.out (UN.out h).2.2.1).fr; rw [nf] at h1; cases h1) (nx HB0.out (nx hb hbx))
                | true =>
                  go_wp2_with fail
                  refine (refIsName_any x.to' _).mono ?_
                  rintro r w5 ⟨rfl, rfl⟩
                  cases nt : nm (sb x.to') with
                  | false =>
                    go_wp2_with fail
                    go_ret
                    exact smNo (fun h => by have h1 := (HIS.out (UN.out h).2.2.1).to'; rw [nt] at h1; cases h1) (nx HB0.out (nx hb hbx))
                  | true =>
                    go_wp2_with fail
                    refine (refRin_any _ _ _).mono ?_
                    rintro r w5 ⟨rfl, rfl⟩
                    cases k1 : inM x.ct 1 with
                    | false =>
                      go_wp2_with fail
                      go_ret
                      exact smNo (fun h => inM_no k1 (HIS.out (UN.out h).2.2.1).ct) (nx HB0.out (nx hb hbx))
                    | true =>
                      have HOK := Lib.hid (show OkEd x from ⟨nf, nt, inM_iff.1 k1⟩)
                      clear nf nt k1
                      go_wp2_with fail
                      have t0 : decide ((0 : Int) < 0) = false := rfl
                      go_quiet (fail)
                      go_wp2_with fail
                      exact ⟨⟨0 + 1, by omega, (by first | rfl | go_num), Lib.hid (HSN1.out HOK.out), nx (nx hb hbx) (below_drewN (bel0 _) _)⟩, by simp [intOf]; omega⟩
              · obtain ⟨j, rfl⟩ : ∃ j, k = j + 1 := ⟨k - 1, by omega⟩
                have hl2 : j < ed.length := by omega
                obtain ⟨g', o', cs', hA', rfl, hcy⟩ := H3.out.cellsAt hb hl2
                rw [hA] at hA'
                cases hA'
                subst hA
                have hab : (⟨g, o, none⟩ : Addr).add (j * 3) = ⟨g, o + j * 3, none⟩ := addr_add _ _ _
                have HAH1 := Lib.hid (HAH.out j rfl)
                have HSN1 := Lib.hid (fun hx (hz : aheadE ed[j] ed[j + 1]) => HSN.out.2 ⟨HP.out, hx, fun _ => hz⟩)
                have r0 : wr.cell? ⟨g, o + j * 3, none⟩ = _ := hcy 0 _ rfl
                have r1 : wr.cell? ⟨g, o + j * 3 + 1, none⟩ = _ := hcy 1 _ rfl
                have r2 : wr.cell? ⟨g, o + j * 3 + 2, none⟩ = _ := hcy 2 _ rfl
                clear hcy HAH HSN HP hz
                rw [show ((j + 1 : Nat) : Int) = (j : Int) + 1 from rfl] at hlI ⊢
                have hk2 : (0 : Int) ≤ (j : Int) := by omega
                have hk3 : (j : Int) < (ed.length : Int) := by omega
                have hk4 : decide ((0 : Int) < (j : Int) + 1) = true := decide_eq_true (by omega)
                have hk5 : IntKind.i64.wrap (j : Int) = (j : Int) := by rw [IntKind.wrap_i64]; omega
                generalize ed[j + 1] = x at *
                generalize ed[j] = y at *
                have hq1 := heap_alloc_new wr (.cells #[.string x.fr, .string x.to', .int .i64 x.ct] 58)
                have hbx := bel1 wr (.cells #[.string x.fr, .string x.to', .int .i64 x.ct] 58)
                go_wp2_with fail
                obtain ⟨W1, hW⟩ : ∃ W, W = wr.alloc (.cells #[.string x.fr, .string x.to', .int .i64 x.ct] 58) := ⟨_, rfl⟩
                rw [← hW] at hq1 hbx ⊢
                clear hW
                obtain ⟨q9, hqq⟩ : ∃ p, p = wr.heap.size := ⟨_, rfl⟩
                rw [← hqq] at hq1 ⊢
                clear hqq
                have y0 := cell_of hq1 0
                have y1 := cell_of hq1 1
                have y2 := cell_of hq1 2
                simp at y0 y1 y2
                clear e0 e1 e2 hq1
                have s0 := (hbx.cell (p := ⟨g, o + j * 3, none⟩) (World.block_lt_of_cell? _ _ r0)).trans r0
                have s1 := (hbx.cell (p := ⟨g, o + j * 3 + 1, none⟩) (World.block_lt_of_cell? _ _ r1)).trans r1
                have s2 := (hbx.cell (p := ⟨g, o + j * 3 + 2, none⟩) (World.block_lt_of_cell? _ _ r2)).trans r2
                clear r0 r1 r2
                obtain ⟨d0, d1, d2, d3, d4, d5⟩ := an_block (blkB HQ.out (nx hb hbx))
                refine (refIsName_any x.fr _).mono ?_
                rintro r w5 ⟨rfl, rfl⟩
                cases nf : nm (sb x.fr) with
                | false =>
                  go_wp2_with fail
                  go_ret
                  exact smNo (fun h => by have h1 := (HIS.out (UN.out h).2.2.1).fr; rw [nf] at h1; cases h1) (nx HB0.out (nx hb hbx))
                | true =>
                  go_wp2_with fail
                  refine (refIsName_any x.to' _).mono ?_
                  rintro r w5 ⟨rfl, rfl⟩
                  cases nt : nm (sb x.to') with
                  | false =>
                    go_wp2_with fail
                    go_ret
                    exact smNo (fun h => by have h1 := (HIS.out (UN.out h).2.2.1).to'; rw [nt] at h1; cases h1) (nx HB0.out (nx hb hbx))
                  | true =>
                    go_wp2_with fail
                    refine (refRin_any _ _ _).mono ?_
                    rintro r w5 ⟨rfl, rfl⟩
                    cases k1 : inM x.ct 1 with
                    | false =>
                      go_wp2_with fail
                      go_ret
                      exact smNo (fun h => inM_no k1 (HIS.out (UN.out h).2.2.1).ct) (nx HB0.out (nx hb hbx))
                    | true =>
                      have HOK := Lib.hid (show OkEd x from ⟨nf, nt, inM_iff.1 k1⟩)
                      clear nf nt k1
                      go_wp2_with fail
                      have EQ := Lib.hid (fun h : aheadE y x => h)
                      cases c1 : Op.bytesLess x.fr.toList y.fr.toList with
                      | true =>
                        go_quiet (fail)
                        go_wp2_with fail
                        go_ret
                        exact smNo (fun h => by rcases HAH1.out (UN.out h).2.2.1 with q | q; (rw [(less_no q).1] at c1; cases c1); (rw [q.1, less_self] at c1; cases c1)) (nx HB0.out (nx (nx hb hbx) (below_drewN (bel0 _) _)))
                      | false =>
                        cases c2 : (x.fr.toList == y.fr.toList) with
                        | false =>
                          go_quiet (fail)
                          go_wp2_with fail
                          exact ⟨⟨j + 1 + 1, by omega, (by first | rfl | go_num), Lib.hid (HSN1.out HOK.out (.inl (less_of c1 c2))), nx (nx hb hbx) (below_drewN (bel0 _) _)⟩, by simp [intOf]; omega⟩
                        | true =>
                          cases c3 : Op.bytesLess x.to'.toList y.to'.toList with
                          | true =>
                            go_quiet (fail)
                            go_wp2_with fail
                            go_ret
                            exact smNo (fun h => by rcases HAH1.out (UN.out h).2.2.1 with q | q; (rw [(less_no q).2] at c2; cases c2); (rw [(less_no q.2).1] at c3; cases c3)) (nx HB0.out (nx (nx hb hbx) (below_drewN (bel0 _) _)))
                          | false =>
                            cases c4 : (x.to'.toList == y.to'.toList) with
                            | true =>
                              go_quiet (fail)
                              go_wp2_with fail
                              go_ret
                              exact smNo (fun h => by rcases HAH1.out (UN.out h).2.2.1 with q | q; (rw [(less_no q).2] at c2; cases c2); (rw [(less_no q.2).2] at c4; cases c4)) (nx HB0.out (nx (nx hb hbx) (below_drewN (bel0 _) _)))
                            | false =>
                              go_quiet (fail)
                              go_wp2_with fail
                              exact ⟨⟨j + 1 + 1, by omega, (by first | rfl | go_num), Lib.hid (HSN1.out HOK.out (.inr ⟨(toList_inj (by simpa using c2)).symm, less_of c3 c4⟩)), nx (nx hb hbx) (below_drewN (bel0 _) _)⟩, by simp [intOf]; omega⟩
            · obtain rfl : k = ed.length := by omega
              have HF3 := Lib.hid (by have := HP.out; rwa [List.take_of_length_le (Nat.le_refl _)] at this)
              clear HP hlt hk
              go_wp2_with fail
              go_ret
              exact smYes (MK.out ⟨HF1.out, M1.out⟩ ⟨HF2.out, M2.out⟩ ⟨HF3.out, M3.out⟩) (nx HB0.out hb)
set_option maxHeartbeats 64000000 in
set_option maxRecDepth 100000 in
theorem refAnCheck_any {a : Ans} {u v x : Value} {w : World} (h : AnL w a u v x) :
    Calls Tryz.prog 16 #[anV a u v x] w fun e w' => e = .returned (.int .i64 (anP a).2) ∧ Below w.heap.size w w' := by
  have HL := h
  obtain ⟨⟨A, c, rfl, h1⟩, ⟨B, d, rfl, h2⟩, ⟨D, e, rfl, h3⟩⟩ := h
  have YES := Lib.hid (fun (h : OkAn a) => show (anP a).2 = 0 by rw [anP_yes h])
  have NO := Lib.hid (fun (h : ¬ OkAn a) => show (anP a).2 = 270 by rw [anP_no h])
  have l1 := h1.lim
  have l2 := h2.lim
  have l3 := h3.lim
  have hb0 := bel1 w (.cells #[.int .i64 a.er, .slice A a.sn.length c, .int .i64 a.nx, .slice B a.ce.length d, .slice D a.ed.length e, .int .i64 a.lf] 29)
  have HQ := Lib.hid (heap_alloc_new w (.cells #[.int .i64 a.er, .slice A a.sn.length c, .int .i64 a.nx, .slice B a.ce.length d, .slice D a.ed.length e, .int .i64 a.lf] 29))
  have HC := Lib.hid (refLists_any (HL.below hb0))
  clear h1 h2 h3 HL
  obtain ⟨g, hg⟩ : ∃ g, g = (anP a).2 := ⟨_, rfl⟩
  rw [← hg] at YES NO ⊢
  clear hg
  have SN := Lib.hid (fun h : a.sn.length = 0 => List.eq_nil_of_length_eq_zero h)
  have CE := Lib.hid (fun h : a.ce.length = 0 => List.eq_nil_of_length_eq_zero h)
  have ED := Lib.hid (fun h : a.ed.length = 0 => List.eq_nil_of_length_eq_zero h)
  unfold anV at HC ⊢
  go_enter Tryz.func16, Tryz.ntmps16
  go_upto_region 1 with (fail)
  obtain ⟨W0, hW⟩ : ∃ W, W = w.alloc (.cells #[.int .i64 a.er, .slice A a.sn.length c, .int .i64 a.nx, .slice B a.ce.length d, .slice D a.ed.length e, .int .i64 a.lf] 29) := ⟨_, rfl⟩
  rw [← hW] at HQ hb0 HC ⊢
  clear hW
  obtain ⟨q, hqq⟩ : ∃ q, q = w.heap.size := ⟨_, rfl⟩
  rw [← hqq] at HQ ⊢
  clear hqq
  have HB0 := Lib.hid hb0
  clear hb0
  obtain ⟨d0, d1, d2, d3, d4, d5⟩ := an_block HQ.out
  by_cases e1 : 0 ≤ a.er
  case neg =>
    have t1 : decide (a.er < 0) = true := decide_eq_true (by omega)
    have HN := Lib.hid e1
    go_wp2_with fail
    go_ret
    exact ⟨by rw [NO.out (fun h => by have h1 := HN.out; have h2 := h.er.1; omega)]; rfl, HB0.out⟩
  have t1 : decide (a.er < 0) = false := decide_eq_false (by omega)
  by_cases e2 : a.er ≤ 65535
  case neg =>
    have t2 : decide (65535 < a.er) = true := decide_eq_true (by omega)
    have HN := Lib.hid e2
    go_wp2_with fail
    go_ret
    exact ⟨by rw [NO.out (fun h => by have h1 := HN.out; have h2 := h.er.2; omega)]; rfl, HB0.out⟩
  have t2 : decide (65535 < a.er) = false := decide_eq_false (by omega)
  go_wp2_with fail
  refine (refRin_any _ _ _).mono ?_
  rintro r w5 ⟨rfl, rfl⟩
  cases k1 : inM a.nx 0 with
  | false =>
    go_wp2_with fail
    go_ret
    exact ⟨by rw [NO.out (fun h => inM_no k1 h.nx)]; rfl, HB0.out⟩
  | true =>
    go_wp2_with fail
    refine (refRin_any _ _ _).mono ?_
    rintro r w5 ⟨rfl, rfl⟩
    cases k2 : inM a.lf 0 with
    | false =>
      go_wp2_with fail
      go_ret
      exact ⟨by rw [NO.out (fun h => inM_no k2 h.lf)]; rfl, HB0.out⟩
    | true =>
      go_wp2_with fail
      refine HC.out.mono ?_
      rintro r w5 ⟨bb, rfl, hbb, hb5⟩
      have HB5 := Lib.hid (nx HB0.out hb5)
      have HQ5 := Lib.hid (blkB HQ.out hb5)
      have HBB := Lib.hid hbb
      clear hbb hb5 d0 d1 d2 d3 d4 d5
      obtain ⟨d0, d1, d2, d3, d4, d5⟩ := an_block HQ5.out
      cases bb with
      | false =>
        go_wp2_with fail
        go_ret
        exact ⟨by rw [NO.out (fun h => by have h1 := HBB.out.2 ⟨h.sn, h.ce, h.ed⟩; cases h1)]; rfl, HB5.out⟩
      | true =>
        have HO := Lib.hid (HBB.out.1 rfl)
        have MK := Lib.hid (fun h => YES.out ⟨⟨e1, e2⟩, inM_iff.1 k1, inM_iff.1 k2, HO.out.sn, HO.out.ce, HO.out.ed, h⟩)
        have m1 := HO.out.sn.2
        have m2 := HO.out.ce.2
        have m3 := HO.out.ed.2
        clear k1 k2 HBB YES
        by_cases z0 : a.er = 0
        case pos =>
          have t3 : (a.er == 0) = true := by simpa using z0
          have t4 : (a.er != 0) = false := by rw [bne, t3]; rfl
          go_wp2_with fail
          go_ret
          exact ⟨by rw [MK.out (.inl z0)]; rfl, HB5.out⟩
        have t3 : (a.er == 0) = false := by simpa using z0
        have t4 : (a.er != 0) = true := by rw [bne, t3]; rfl
        by_cases z1 : a.nx = 0
        case neg =>
          have t5 : (a.nx == 0) = false := by simpa using z1
          have t6 : (a.nx != 0) = true := by rw [bne, t5]; rfl
          go_wp2_with fail
          go_ret
          exact ⟨by rw [NO.out (fun h => h.al.elim z0 (fun q => z1 q.1))]; rfl, HB5.out⟩
        have t5 : (a.nx == 0) = true := by simpa using z1
        have t6 : (a.nx != 0) = false := by rw [bne, t5]; rfl
        by_cases z2 : a.lf = 0
        case neg =>
          have t7 : (a.lf == 0) = false := by simpa using z2
          have t8 : (a.lf != 0) = true := by rw [bne, t7]; rfl
          go_wp2_with fail
          go_ret
          exact ⟨by rw [NO.out (fun h => h.al.elim z0 (fun q => z2 q.2.1))]; rfl, HB5.out⟩
        have t7 : (a.lf == 0) = true := by simpa using z2
        have t8 : (a.lf != 0) = false := by rw [bne, t7]; rfl
        by_cases z3 : (a.sn.length : Int) + (a.ce.length : Int) + (a.ed.length : Int) = 0
        case neg =>
          have t9 : ((a.sn.length : Int) + (a.ce.length : Int) + (a.ed.length : Int) == 0) = false := by simpa using z3
          have t10 : ((a.sn.length : Int) + (a.ce.length : Int) + (a.ed.length : Int) != 0) = true := by rw [bne, t9]; rfl
          have HZ3 := Lib.hid z3
          clear z3
          go_wp2_with fail
          go_ret
          exact ⟨by rw [NO.out (fun h => h.al.elim z0 (fun q => HZ3.out (by rw [q.2.2.1, q.2.2.2.1, q.2.2.2.2]; rfl)))]; rfl, HB5.out⟩
        have t9 : ((a.sn.length : Int) + (a.ce.length : Int) + (a.ed.length : Int) == 0) = true := by simpa using z3
        have t10 : ((a.sn.length : Int) + (a.ce.length : Int) + (a.ed.length : Int) != 0) = false := by rw [bne, t9]; rfl
        have HZ3 := Lib.hid z3
        clear z3
        go_wp2_with fail
        go_ret
        exact ⟨by rw [MK.out (.inr ⟨z1, z2, SN.out (by have := HZ3.out; omega), CE.out (by have := HZ3.out; omega), ED.out (by have := HZ3.out; omega)⟩)]; rfl, HB5.out⟩
end Go.Proofs.YtfedgjahbmcpoaaGreat
