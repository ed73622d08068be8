/- reply.Check: its contract. No conditions. -/
import Derived.Test.YtfedgjahbmcpoaaGreatGB33
import Derived.Test.YtfedgjahbmcpoaaGreatGB34
import Derived.Test.YtfedgjahbmcpoaaGreatGB35
import Derived.Deep.DeepCutAuto
set_option linter.unusedSimpArgs false
set_option linter.unusedVariables false
namespace Go.Proofs.YtfedgjahbmcpoaaGreat
open Go.RowKit

/-- An answer's value. -/
def anV (a : Ans) (u v x : Value) : Value := .agg #[.int .i64 a.er, u, .int .i64 a.nx, v, x, .int .i64 a.lf]
structure AnL (w : World) (a : Ans) (u v x : Value) : Prop where
  sn : ∃ A c, u = .slice A a.sn.length c ∧ EL snR w A a.sn.length c a.sn
  ce : ∃ A c, v = .slice A a.ce.length c ∧ EL ceR w A a.ce.length c a.ce
  ed : ∃ A c, x = .slice A a.ed.length c ∧ EL edR w A a.ed.length c a.ed
theorem AnL.below {w w' : World} {a : Ans} {u v x : Value} (h : AnL w a u v x) (hb : Below w.heap.size w w') : AnL w' a u v x := by
  obtain ⟨⟨A, c, e1, h1⟩, ⟨B, d, e2, h2⟩, ⟨D, e, e3, h3⟩⟩ := h
  exact ⟨⟨A, c, e1, h1.below hb⟩, ⟨B, d, e2, h2.below hb⟩, ⟨D, e, e3, h3.below hb⟩⟩
theorem an_block {W : World} {q : Nat} {c0 c1 c2 c3 c4 c5 : Value} (h : W.heap[q]? = some (.cells #[c0, c1, c2, c3, c4, c5] 29 (0, 0))) :
    W.cell? ⟨q, 0, none⟩ = some c0 ∧ W.cell? ⟨q, 1, none⟩ = some c1 ∧ W.cell? ⟨q, 2, none⟩ = some c2 ∧ W.cell? ⟨q, 3, none⟩ = some c3 ∧ W.cell? ⟨q, 4, none⟩ = some c4 ∧ W.cell? ⟨q, 5, none⟩ = some c5 := ⟨cell_of h 0, cell_of h 1, cell_of h 2, cell_of h 3, cell_of h 4, cell_of h 5⟩
set_option maxHeartbeats 16000000 in
set_option maxRecDepth 100000 in
theorem rCheck_any {a : Ans} {u v x : Value} {w : World} (h : AnL w a u v x) :
    Calls Tryz.prog 15 #[anV a u v x] w fun e w' => e = .returned (.int .i64 (anP a).2) ∧ Below w.heap.size w w' := by
  obtain ⟨⟨A, c, rfl, h1⟩, ⟨B, d, rfl, h2⟩, ⟨D, e, rfl, h3⟩⟩ := h
  have YES := Lib.hid (fun (h : OkAn a) => show (anP a).2 = 0 by rw [anP_yes h])
  have NO := Lib.hid (fun (h : ¬ OkAn a) => show (anP a).2 = 270 by rw [anP_no h])
  have l1 := h1.lim
  have l2 := h2.lim
  have l3 := h3.lim
  have MK := Lib.hid (fun (a1 : (0 ≤ a.er ∧ a.er ≤ 65535) ∧ (0 ≤ a.nx ∧ a.nx ≤ 9007199254740991) ∧ (0 ≤ a.lf ∧ a.lf ≤ 9007199254740991)) (a2 : (MayL OkSn (fun _ _ => True) a.sn ∧ (a.sn.length : Int) ≤ 1000) ∧ (MayL OkCe aheadC a.ce ∧ (a.ce.length : Int) ≤ 20) ∧ (MayL OkEd aheadE a.ed ∧ (a.ed.length : Int) ≤ 10000)) (a3 : a.er = 0 ∨ (a.nx = 0 ∧ a.lf = 0 ∧ a.sn.length = 0 ∧ a.ce.length = 0 ∧ a.ed.length = 0)) => show OkAn a from
    ⟨a1.1, a1.2.1, a1.2.2, ⟨a2.1.1, by omega⟩, ⟨a2.2.1.1, by omega⟩, ⟨a2.2.2.1, by omega⟩, by
      rcases a3 with h | ⟨h1, h2, h3, h4, h5⟩
      · exact .inl h
      · exact .inr ⟨h1, h2, List.eq_nil_of_length_eq_zero h3, List.eq_nil_of_length_eq_zero h4, List.eq_nil_of_length_eq_zero h5⟩⟩)
  have UN := Lib.hid (fun (h : OkAn a) => show ((0 ≤ a.er ∧ a.er ≤ 65535) ∧ (0 ≤ a.nx ∧ a.nx ≤ 9007199254740991) ∧ (0 ≤ a.lf ∧ a.lf ≤ 9007199254740991)) ∧ ((MayL OkSn (fun _ _ => True) a.sn ∧ (a.sn.length : Int) ≤ 1000) ∧ (MayL OkCe aheadC a.ce ∧ (a.ce.length : Int) ≤ 20) ∧ (MayL OkEd aheadE a.ed ∧ (a.ed.length : Int) ≤ 10000)) ∧ (a.er = 0 ∨ (a.nx = 0 ∧ a.lf = 0 ∧ a.sn.length = 0 ∧ a.ce.length = 0 ∧ a.ed.length = 0)) from by
    have k1 := h.sn.2; have k2 := h.ce.2; have k3 := h.ed.2
    refine ⟨⟨h.er, h.nx, h.lf⟩, ⟨⟨h.sn.1, by omega⟩, ⟨h.ce.1, by omega⟩, ⟨h.ed.1, by omega⟩⟩, ?_⟩
    rcases h.al with h | ⟨h1, h2, h3, h4, h5⟩
    · exact .inl h
    · exact .inr ⟨h1, h2, by rw [h3]; rfl, by rw [h4]; rfl, by rw [h5]; rfl⟩)
  obtain ⟨g, hg⟩ : ∃ g, g = (anP a).2 := ⟨_, rfl⟩
  rw [← hg] at YES NO ⊢
  clear hg
  obtain ⟨er, sn, nxx, ce, ed, lf⟩ := a
  unfold anV
  simp only at *
  have S1 := Lib.hid (fun (w' : World) (hb : Below w.heap.size w w') => maySn_any (most := 1000) (by omega) (h1.below hb))
  have S2 := Lib.hid (fun (w' : World) (hb : Below w.heap.size w w') => mayCe_any (most := 20) (by omega) (h2.below hb))
  have S3 := Lib.hid (fun (w' : World) (hb : Below w.heap.size w w') => mayEd_any (most := 10000) (by omega) (h3.below hb))
  clear h1 h2 h3
  obtain ⟨F2, hF2⟩ : ∃ P, P = ((MayL OkSn (fun _ _ => True) sn ∧ (sn.length : Int) ≤ 1000) ∧ (MayL OkCe aheadC ce ∧ (ce.length : Int) ≤ 20) ∧ (MayL OkEd aheadE ed ∧ (ed.length : Int) ≤ 10000)) := ⟨_, rfl⟩
  have HF2 := Lib.hid hF2
  rw [← hF2] at MK UN
  clear hF2
  generalize MayL OkSn (fun _ _ => True) sn = P1 at *
  generalize MayL OkCe aheadC ce = P2 at *
  generalize MayL OkEd aheadE ed = P3 at *
  generalize sn.length = n at *
  generalize ce.length = m at *
  generalize ed.length = p at *
  have hb0 := bel1 w (.cells #[.int .i64 er, .slice A n c, .int .i64 nxx, .slice B m d, .slice D p e, .int .i64 lf] 29)
  have hq0 := heap_alloc_new w (.cells #[.int .i64 er, .slice A n c, .int .i64 nxx, .slice B m d, .slice D p e, .int .i64 lf] 29)
  go_enter Tryz.func15, Tryz.ntmps15
  go_upto_region 1 with (fail)
  obtain ⟨W0, hW⟩ : ∃ W, W = w.alloc (.cells #[.int .i64 er, .slice A n c, .int .i64 nxx, .slice B m d, .slice D p e, .int .i64 lf] 29) := ⟨_, rfl⟩
  rw [← hW] at hq0 hb0 ⊢
  clear hW
  obtain ⟨q, hqq⟩ : ∃ q, q = w.heap.size := ⟨_, rfl⟩
  rw [← hqq] at hq0 ⊢
  clear hqq
  have HQ0 := Lib.hid hq0
  have HB0 := Lib.hid hb0
  obtain ⟨d0, d1, d2, d3, d4, d5⟩ := an_block hq0
  clear hq0 hb0
  go_cut [3] (fun s wx => ∃ b : Bool, s = .bool b ∧ Hid (b = true ↔ ((0 ≤ er ∧ er ≤ 65535) ∧ (0 ≤ nxx ∧ nxx ≤ 9007199254740991) ∧ (0 ≤ lf ∧ lf ≤ 9007199254740991))) ∧ wx = W0)
  case first =>
    clear S1 S2 S3 MK UN YES NO HF2
    by_cases e1 : 0 ≤ er
    case neg =>
      go_wp2_with fail
      go_meet
      exact ⟨_, rfl, Lib.hid ⟨(by intro h; cases h), fun h => absurd h.1.1 (by omega)⟩, rfl⟩
    by_cases e2 : er ≤ 65535
    case neg =>
      have e3 : decide (er ≤ 65535) = false := decide_eq_false e2
      go_wp2_with fail
      go_meet
      exact ⟨_, rfl, Lib.hid ⟨(by intro h; cases h), fun h => absurd h.1.2 (by omega)⟩, rfl⟩
    have e3 : decide (er ≤ 65535) = true := decide_eq_true e2
    go_wp2_with fail
    refine (rin_any _ _ _).mono ?_
    rintro r w2 ⟨rfl, rfl⟩
    cases k1 : inM nxx 0 with
    | false =>
      have K1 := Lib.hid (inM_no k1)
      clear k1
      go_wp2_with fail
      go_meet
      exact ⟨_, rfl, Lib.hid ⟨(by intro h; cases h), fun h => absurd h.2.1 K1.out⟩, rfl⟩
    | true =>
      have K1 := Lib.hid (inM_iff.1 k1)
      clear k1
      go_wp2_with fail
      refine (rin_any _ _ _).mono ?_
      rintro r w2 ⟨rfl, rfl⟩
      cases k1 : inM lf 0 with
      | false =>
        have K2 := Lib.hid (inM_no k1)
        clear k1
        go_wp2_with fail
        go_meet
        exact ⟨_, rfl, Lib.hid ⟨(by intro h; cases h), fun h => absurd h.2.2 K2.out⟩, rfl⟩
      | true =>
        have K2 := Lib.hid (inM_iff.1 k1)
        clear k1
        go_wp2_with fail
        go_meet
        exact ⟨_, rfl, Lib.hid ⟨fun _ => ⟨⟨e1, e2⟩, K1.out, K2.out⟩, fun _ => rfl⟩, rfl⟩
  case rest =>
    obtain ⟨b1, rfl, HB1, rfl⟩ := hcut
    go_upto_region 2 with (fail)
    go_cut [4] (fun s wy => ∃ b : Bool, s = .bool b ∧ Hid (b = true ↔ F2) ∧ Hid (wy.heap[q]? = some (.cells #[.int .i64 er, .slice A n c, .int .i64 nxx, .slice B m d, .slice D p e, .int .i64 lf] 29 (0, 0))) ∧ Hid (Below w.heap.size w wy))
    case first =>
      clear MK UN YES NO
      go_wp2_with fail
      refine (S1.out _ HB0.out).mono ?_
      rintro r w2 ⟨bb, rfl, hbb, hb2⟩
      have HQ2 := Lib.hid (blkB HQ0.out hb2)
      have HB2 := Lib.hid (nx HB0.out hb2)
      have HBB := Lib.hid hbb
      clear hbb hb2 d0 d1 d2 d3 d4 d5
      obtain ⟨d0, d1, d2, d3, d4, d5⟩ := an_block HQ2.out
      cases bb with
      | false =>
        go_wp2_with fail
        go_meet
        exact ⟨_, rfl, Lib.hid (by rw [HF2.out]; exact ⟨(by intro h; cases h), fun h => absurd (HBB.out.2 h.1) (by decide)⟩), HQ2, HB2⟩
      | true =>
        go_wp2_with fail
        refine (S2.out _ HB2.out).mono ?_
        rintro r w3 ⟨bb, rfl, hbb, hb2⟩
        have HQ3 := Lib.hid (blkB HQ2.out hb2)
        have HB3 := Lib.hid (nx HB2.out hb2)
        have HBC := Lib.hid hbb
        clear hbb hb2 d0 d1 d2 d3 d4 d5
        obtain ⟨d0, d1, d2, d3, d4, d5⟩ := an_block HQ3.out
        cases bb with
        | false =>
          go_wp2_with fail
          go_meet
          exact ⟨_, rfl, Lib.hid (by rw [HF2.out]; exact ⟨(by intro h; cases h), fun h => absurd (HBC.out.2 h.2.1) (by decide)⟩), HQ3, HB3⟩
        | true =>
          go_wp2_with fail
          refine (S3.out _ HB3.out).mono ?_
          rintro r w4 ⟨bb, rfl, hbb, hb2⟩
          have HQ4 := Lib.hid (blkB HQ3.out hb2)
          have HB4 := Lib.hid (nx HB3.out hb2)
          have HBD := Lib.hid hbb
          clear hbb hb2 d0 d1 d2 d3 d4 d5
          cases bb with
          | false =>
            go_wp2_with fail
            go_meet
            exact ⟨_, rfl, Lib.hid (by rw [HF2.out]; exact ⟨(by intro h; cases h), fun h => absurd (HBD.out.2 h.2.2) (by decide)⟩), HQ4, HB4⟩
          | true =>
            go_wp2_with fail
            go_meet
            exact ⟨_, rfl, Lib.hid (by rw [HF2.out]; exact ⟨fun _ => ⟨HBB.out.1 (by trivial), HBC.out.1 (by trivial), HBD.out.1 (by trivial)⟩, fun _ => rfl⟩), HQ4, HB4⟩
    case rest =>
      obtain ⟨b2, rfl, HB2, HQ2, HBW⟩ := hcut
      clear d0 d1 d2 d3 d4 d5 S1 S2 S3
      obtain ⟨d0, d1, d2, d3, d4, d5⟩ := an_block HQ2.out
      cases b1 with
      | false =>
        have HN := Lib.hid (NO.out (fun h => absurd (HB1.out.2 (UN.out h).1) (by decide)))
        by_cases z : er = 0
        · subst z
          go_wp2_with fail
          all_goals (go_ret; exact ⟨by rw [HN.out]; rfl, HBW.out⟩)
        · have ze : (er == 0) = false := by simpa using z
          go_wp2_with fail
          all_goals (go_ret; exact ⟨by rw [HN.out]; rfl, HBW.out⟩)
      | true =>
        have HK1 := Lib.hid (HB1.out.1 (by trivial))
        cases b2 with
        | false =>
          have HN := Lib.hid (NO.out (fun h => absurd (HB2.out.2 (UN.out h).2.1) (by decide)))
          by_cases z : er = 0
          · subst z
            go_wp2_with fail
            all_goals (go_ret; exact ⟨by rw [HN.out]; rfl, HBW.out⟩)
          · have ze : (er == 0) = false := by simpa using z
            go_wp2_with fail
            all_goals (go_ret; exact ⟨by rw [HN.out]; rfl, HBW.out⟩)
        | true =>
          have HK2 := Lib.hid (HB2.out.1 (by trivial))
          obtain ⟨⟨k1, k2⟩, ⟨k3, k4⟩, k5, k6⟩ := HK1.out
          by_cases z : er = 0
          · have HY := Lib.hid (YES.out (MK.out HK1.out HK2.out (.inl z)))
            subst z
            go_wp2_with fail
            go_ret
            exact ⟨by rw [HY.out]; rfl, HBW.out⟩
          · have ze : (er == 0) = false := by simpa using z
            by_cases y : nxx = 0 ∧ lf = 0 ∧ n = 0 ∧ m = 0 ∧ p = 0
            · have HY := Lib.hid (YES.out (MK.out HK1.out HK2.out (.inr y)))
              obtain ⟨rfl, rfl, rfl, rfl, rfl⟩ := y
              go_wp2_with fail
              go_ret
              exact ⟨by rw [HY.out]; rfl, HBW.out⟩
            · have HN := Lib.hid (NO.out (fun h => by rcases (UN.out h).2.2 with h | h; exact z h; exact y h))
              have zs : (nxx + lf + (n : Int) + (m : Int) + (p : Int) == 0) = false := by
                rw [beq_eq_false_iff_ne]
                intro h
                exact y ⟨by omega, by omega, by omega, by omega, by omega⟩
              go_wp2_with fail
              go_ret
              exact ⟨by rw [HN.out]; rfl, HBW.out⟩
end Go.Proofs.YtfedgjahbmcpoaaGreat
