/- batch.Parse: its contract. No conditions. -/
import Derived.Test.YtbhfbpaaghpadaaGC29
import Derived.Test.YtbhfbpaaghpadaaGC28
import Derived.Test.YtbhfbpaaghpadaaGC27
set_option linter.unusedSimpArgs false
set_option linter.unusedVariables false
namespace Go.Proofs.Ytbhfbpaaghpadaa
open Go.RowKit

/-- The number in a cell. -/
def mOf (w : World) (q : Nat) : Nat := match w.cell? ⟨q, 0, none⟩ with | some v => (intOf v).toNat | none => 0
set_option maxHeartbeats 64000000 in
set_option maxRecDepth 100000 in
theorem batParse_any {A : Option Addr} {n c : Nat} {l : List Nat} {w : World} (h : BS w A n c l) :
    Calls Try.prog 14 #[.slice A n c] w fun e w' => PrR w w' e (prB l) := by
  have HA := Lib.hid h
  clear h
  have hbq := bel1 w (.cells #[.int .i64 0, .int .i64 0, .slice none 0 0] 24)
  have BQ := heap_alloc_new w (.cells #[.int .i64 0, .int .i64 0, .slice none 0 0] 24)
  obtain ⟨x1, hx1⟩ : ∃ x, x = nb 9007199254740991 0 l := ⟨_, rfl⟩
  obtain ⟨x2, hx2⟩ : ∃ x, x = nb 9007199254740991 x1.2.1 x1.2.2 := ⟨_, rfl⟩
  obtain ⟨x3, hx3⟩ : ∃ x, x = nb 9007199254740991 x2.2.1 x2.2.2 := ⟨_, rfl⟩
  have HU := Lib.hid (show tkU 3 0 l = ([x1.1, x2.1, x3.1], x3.2) by simp only [tkU, ← hx1, ← hx2, ← hx3])
  have b1 : x1.1 ≤ 9007199254740991 := by rw [hx1]; exact nb_le _ _ _
  have b2 : x2.1 ≤ 9007199254740991 := by rw [hx2]; exact nb_le _ _ _
  have b3 : x3.1 ≤ 9007199254740991 := by rw [hx3]; exact nb_le _ _ _
  have X1 := Lib.hid hx1
  have X2 := Lib.hid hx2
  have X3 := Lib.hid hx3
  clear hx1 hx2 hx3
  go_enter Try.func14, Try.ntmps14
  go_wp2_with fail
  refine (New_any A n c l _ (HA.out.below hbq)).mono ?_
  rintro e w2 ⟨g, rfl, hr, hb2⟩
  have BQ2 := (hb2.block _ (Array.getElem?_eq_some_iff.1 BQ).1).trans BQ
  have hb02 := nx hbq hb2
  rw [World.size_alloc] at hr
  have hlg := hr.lt
  have hP : PrP w ((w2.alloc (.cells #[.int .i64 0, .int .i64 0, .slice none 0 0] 24)).alloc (.cells #[.int .i64 0] 3)) (w.heap.size + 1) g w.heap.size w2.heap.size (w2.heap.size + 1) 0 l 0 0 [] 0 :=
    ⟨nx (nx hb02 (bel1 _ _)) (bel1 _ _), (hr.below (bel1 _ _)).below (bel1 _ _), ⟨_, alloc_block (heap_alloc_new w2 _), SpOwn.nil _ _⟩, by
      have := heap_alloc_new (w2.alloc (.cells #[.int .i64 0, .int .i64 0, .slice none 0 0] 24)) (.cells #[.int .i64 0] 3)
      rw [World.size_alloc] at this
      exact this, alloc_block (alloc_block BQ2), by omega, Nat.le_refl _, hb02.size, by omega, by omega, by omega⟩
  have HP := Lib.hid hP
  clear BQ BQ2 hb2 hr hbq hP
  go_wp2_with fail
  obtain ⟨W0, hW0⟩ : ∃ W, W = (w2.alloc (.cells #[.int .i64 0, .int .i64 0, .slice none 0 0] 24)).alloc (.cells #[.int .i64 0] 3) := ⟨_, rfl⟩
  rw [← hW0] at HP ⊢
  clear hW0
  obtain ⟨q6, hq6⟩ : ∃ q, q = w2.heap.size + 1 := ⟨_, rfl⟩
  rw [← hq6] at HP ⊢
  clear hq6
  obtain ⟨q5, hq5⟩ : ∃ q, q = w2.heap.size := ⟨_, rfl⟩
  rw [← hq5] at HP ⊢
  clear hq5
  obtain ⟨q2, hq2⟩ : ∃ q, q = w.heap.size := ⟨_, rfl⟩
  obtain ⟨lo, hlo⟩ : ∃ q, q = w.heap.size + 1 := ⟨_, rfl⟩
  have HP0 := Lib.hid (show PrP w W0 lo g q2 q5 q6 0 l 0 0 [] 0 by rw [hlo, hq2]; exact HP.out)
  have HQ2 := Lib.hid hq2
  rw [← hq2]
  clear HP hlo hq2 hlg hb02
  have hne6 : q5 ≠ q6 := by have := HP0.out.q56; omega
  have i0 : ∀ W, (Instr.index 79 (.agg #[.pointer (some ⟨q5, 0, none⟩), .pointer (some ⟨q5, 1, none⟩), .pointer (some ⟨q6, 0, none⟩)]) (.int .i64 0)).run Try.prog W = .ok (.pointer (some ⟨q5, 0, none⟩)) W := fun _ => by kernel_rfl
  have i1 : ∀ W, (Instr.index 79 (.agg #[.pointer (some ⟨q5, 0, none⟩), .pointer (some ⟨q5, 1, none⟩), .pointer (some ⟨q6, 0, none⟩)]) (.int .i64 1)).run Try.prog W = .ok (.pointer (some ⟨q5, 1, none⟩)) W := fun _ => by kernel_rfl
  have i2 : ∀ W, (Instr.index 79 (.agg #[.pointer (some ⟨q5, 0, none⟩), .pointer (some ⟨q5, 1, none⟩), .pointer (some ⟨q6, 0, none⟩)]) (.int .i64 2)).run Try.prog W = .ok (.pointer (some ⟨q6, 0, none⟩)) W := fun _ => by kernel_rfl
  refine wp_loop_rounds 4 ?_
  rw [rounds_succ]
  go_wp2_with fail
  refine (rdU_any HP0.out.rd).mono ?_
  rw [← X1.out]
  rintro e t1 ⟨rfl, hr, hg⟩
  have HR1 := Lib.hid (HP0.out.read hr hg)
  clear hr hg HP0
  obtain ⟨vb, hbq, hvb⟩ := HR1.out.bt
  have k0 := cell_of hbq 0
  have k1 := cell_of hbq 1
  have f0 := frozen_of hbq 0
  have f1 := frozen_of hbq 1
  have k6 := cell_of HR1.out.mn 0
  have f6 := frozen_of HR1.out.mn 0
  simp at k0 k1 k6
  clear hbq hvb
  have HP1 := Lib.hid (HR1.out.num0 (x1.1 : Int))
  go_wp2_with fail
  obtain ⟨u1, hu⟩ : ∃ W, W = t1.setCell ⟨q5, 0, none⟩ (.int .i64 (x1.1 : Int)) := ⟨_, rfl⟩
  rw [← hu] at HP1 ⊢
  clear hu HR1 vb k0 k1 f0 f1 k6 f6
  rw [rounds_succ]
  go_wp2_with fail
  refine (rdU_any HP1.out.rd).mono ?_
  rw [← X2.out]
  rintro e t2 ⟨rfl, hr, hg⟩
  have HR2 := Lib.hid (HP1.out.read hr hg)
  clear hr hg HP1
  obtain ⟨vb, hbq, hvb⟩ := HR2.out.bt
  have k0 := cell_of hbq 0
  have k1 := cell_of hbq 1
  have f0 := frozen_of hbq 0
  have f1 := frozen_of hbq 1
  have k6 := cell_of HR2.out.mn 0
  have f6 := frozen_of HR2.out.mn 0
  simp at k0 k1 k6
  clear hbq hvb
  have HP2 := Lib.hid (HR2.out.num1 (x2.1 : Int))
  go_wp2_with fail
  obtain ⟨u2, hu⟩ : ∃ W, W = t2.setCell ⟨q5, 1, none⟩ (.int .i64 (x2.1 : Int)) := ⟨_, rfl⟩
  rw [← hu] at HP2 ⊢
  clear hu HR2 vb k0 k1 f0 f1 k6 f6
  rw [rounds_succ]
  go_wp2_with fail
  refine (rdU_any HP2.out.rd).mono ?_
  rw [← X3.out]
  rintro e t3 ⟨rfl, hr, hg⟩
  have HR3 := Lib.hid (HP2.out.read hr hg)
  clear hr hg HP2
  obtain ⟨vb, hbq, hvb⟩ := HR3.out.bt
  have k0 := cell_of hbq 0
  have k1 := cell_of hbq 1
  have f0 := frozen_of hbq 0
  have f1 := frozen_of hbq 1
  have k6 := cell_of HR3.out.mn 0
  have f6 := frozen_of HR3.out.mn 0
  simp at k0 k1 k6
  clear hbq hvb
  have HP3 := Lib.hid (HR3.out.many (x3.1 : Int))
  go_wp2_with fail
  obtain ⟨u3, hu⟩ : ∃ W, W = t3.setCell ⟨q6, 0, none⟩ (.int .i64 (x3.1 : Int)) := ⟨_, rfl⟩
  rw [← hu] at HP3 ⊢
  clear hu HR3 vb k0 k1 f0 f1 k6 f6
  rw [rounds_succ]
  clear i0 i1 i2
  have k6 := cell_of HP3.out.mn 0
  simp at k6
  have NO := Lib.hid (fun (W W' : World) (hW : W' = ((W.setCell ⟨q2, 0, none⟩ (.int .i64 0)).setCell ⟨q2, 1, none⟩ (.int .i64 0)).setCell ⟨q2, 2, none⟩ (.slice none 0 0)) (hb : Below w.heap.size w W) (hq : W.heap[q2]? = some (.cells #[.int .i64 0, .int .i64 0, .slice none 0 0] 24 (0, 0))) => show W'.heap[q2]? = some (.cells #[.int .i64 0, .int .i64 0, .slice none 0 0] 24 (0, 0)) ∧ Below w.heap.size w W' from by
    rw [hW]
    have hle : w.heap.size ≤ q2 := by rw [HQ2.out]; exact Nat.le_refl _
    exact ⟨heap_set (heap_set (heap_set hq 0 _) 1 _) 2 _, ((hb.setCell (p := ⟨q2, 0, none⟩) hle _).setCell (p := ⟨q2, 1, none⟩) hle _).setCell (p := ⟨q2, 2, none⟩) hle _⟩)
  by_cases hm : x3.1 ≤ 16
  case neg =>
    have HX := Lib.hid (show prB l = (noBat, 90) by
      unfold prB
      rw [if_neg (fun h => hm (by have := h.1; rw [HU.out] at this; exact this))])
    have d0 := cell_of HP3.out.ans 0
    have d1 := cell_of HP3.out.ans 1
    have d2 := cell_of HP3.out.ans 2
    have f0 := frozen_of HP3.out.ans 0
    have f1 := frozen_of HP3.out.ans 1
    have f2 := frozen_of HP3.out.ans 2
    simp at d0 d1 d2
    go_wp2_with fail
    obtain ⟨W, hW⟩ : ∃ W, W = ((u3.setCell ⟨q2, 0, none⟩ (.int .i64 0)).setCell ⟨q2, 1, none⟩ (.int .i64 0)).setCell ⟨q2, 2, none⟩ (.slice none 0 0) := ⟨_, rfl⟩
    obtain ⟨B4, hBW⟩ := NO.out _ _ hW HP3.out.bel HP3.out.ans
    rw [← hW]
    clear hW d0 d1 d2 f0 f1 f2
    have d0 := cell_of B4 0
    have d1 := cell_of B4 1
    have d2 := cell_of B4 2
    simp at d0 d1 d2
    refine bodyPost_ret (by simp [results, Try.results14, go_sem, d0, d1, d2]; try rfl) rfl ?_
    rw [HX.out]
    exact ⟨_, rfl, SpOwn.nil _ _, hBW⟩
  have b3' : (x3.1 : Int) ≤ 16 := by omega
  have H0 := Lib.hid (show tkSN x3.1 x3.2.1 x3.2.2 = ([] ++ (tkSN x3.1 x3.2.1 x3.2.2).1, (tkSN x3.1 x3.2.1 x3.2.2).2) from rfl)
  go_wp2_with fail
  go_loopg [] x3.1 (fun gk wr => ∃ (e : Int) (r : List Nat) (S : List Spn), Hid (PrP w wr lo g q2 q5 q6 e r (x1.1 : Int) (x2.1 : Int) S (gk : Int)) ∧ Hid (tkSN x3.1 x3.2.1 x3.2.2 = (S ++ (tkSN gk e r).1, (tkSN gk e r).2)) ∧ Hid (S.length + gk ≤ x3.1))
  case atStart => exact ⟨_, _, [], HP3, H0, Lib.hid (by simp)⟩
  case round =>
    clear H0 HP3 k6
    obtain ⟨e, r, S, HP, HT, HSL⟩ := hrel
    by_cases hgo : 0 < gk ∧ e = 0
    · obtain ⟨hlt, rfl⟩ := hgo
      obtain ⟨j, rfl⟩ : ∃ j, gk = j + 1 := ⟨gk - 1, by omega⟩
      replace HP := Lib.hid (show PrP w wr lo g q2 q5 q6 0 r (x1.1 : Int) (x2.1 : Int) S ((j : Int) + 1) by have := HP.out; push_cast at this; exact this)
      have hj0 : (0 : Int) ≤ (j : Int) := Int.natCast_nonneg j
      have hj1 : (j : Int) ≤ 100 := by have := HSL.out; omega
      have hj2 : decide ((0 : Int) < (j : Int) + 1) = true := decide_eq_true (by omega)
      have k6 := cell_of HP.out.mn 0
      simp at k6
      clear hlt
      obtain ⟨y1, hy1⟩ : ∃ x, x = nb 9007199254740991 (0 : Int) r := ⟨_, rfl⟩
      obtain ⟨y2, hy2⟩ : ∃ x, x = nb 9007199254740991 y1.2.1 y1.2.2 := ⟨_, rfl⟩
      obtain ⟨y3, hy3⟩ : ∃ x, x = nb 9007199254740991 y2.2.1 y2.2.2 := ⟨_, rfl⟩
      obtain ⟨y4, hy4⟩ : ∃ x, x = nb 9007199254740991 y3.2.1 y3.2.2 := ⟨_, rfl⟩
      obtain ⟨y5, hy5⟩ : ∃ x, x = nb 9007199254740991 y4.2.1 y4.2.2 := ⟨_, rfl⟩
      obtain ⟨v, hv⟩ : ∃ x, x = txt 24 y5.2.1 y5.2.2 := ⟨_, rfl⟩
      obtain ⟨o, ho⟩ : ∃ x, x = txt 24 v.2.1 v.2.2 := ⟨_, rfl⟩
      obtain ⟨p, hp⟩ : ∃ x, x = txt 64 o.2.1 o.2.2 := ⟨_, rfl⟩
      obtain ⟨a, ha⟩ : ∃ x, x = tkAs p.2.1 p.2.2 := ⟨_, rfl⟩
      have HS := Lib.hid (show tkSp 0 r = (⟨(y1.1 : Int), (y2.1 : Int), (y3.1 : Int), bs v.1, bs o.1, (y4.1 : Int), (y5.1 : Int), bs p.1, a.1⟩, a.2) by
        have hu : tkU 5 0 r = ([y1.1, y2.1, y3.1, y4.1, y5.1], y5.2) := by simp only [tkU, ← hy1, ← hy2, ← hy3, ← hy4, ← hy5]
        unfold tkSp
        simp only [hu, ← hv, ← ho, ← hp, ← ha]
        rfl)
      have c1 : y1.1 ≤ 9007199254740991 := by rw [hy1]; exact nb_le _ _ _
      have c2 : y2.1 ≤ 9007199254740991 := by rw [hy2]; exact nb_le _ _ _
      have c3 : y3.1 ≤ 9007199254740991 := by rw [hy3]; exact nb_le _ _ _
      have c4 : y4.1 ≤ 9007199254740991 := by rw [hy4]; exact nb_le _ _ _
      have c5 : y5.1 ≤ 9007199254740991 := by rw [hy5]; exact nb_le _ _ _
      have Hy1 := Lib.hid hy1
      have Hy2 := Lib.hid hy2
      have Hy3 := Lib.hid hy3
      have Hy4 := Lib.hid hy4
      have Hy5 := Lib.hid hy5
      have Hv := Lib.hid hv
      have Ho := Lib.hid ho
      have Hp := Lib.hid hp
      have Ha := Lib.hid ha
      clear hy1 hy2 hy3 hy4 hy5 hv ho hp ha
      go_wp2_with fail
      refine (Err_any HP.out.rd).mono ?_
      rintro e wz ⟨rfl, rfl⟩
      obtain ⟨vo, hQ⟩ := PrQ.new HP.out ⟨0, 0, 0, ⟨#[]⟩, ⟨#[]⟩, 0, 0, ⟨#[]⟩, []⟩
      have Q0 := Lib.hid hQ
      clear hQ HP k6
      simp only at Q0
      go_wp2_with fail
      obtain ⟨t0, ht0⟩ : ∃ W, W = wr.alloc (.cells #[.int .i64 0, .int .i64 0, .int .i64 0, .string ⟨#[]⟩, .string ⟨#[]⟩, .int .i64 0, .int .i64 0, .string ⟨#[]⟩, .slice none 0 0] 32) := ⟨_, rfl⟩
      rw [← ht0] at Q0 ⊢
      clear ht0
      obtain ⟨qs, hqs⟩ : ∃ q, q = wr.heap.size := ⟨_, rfl⟩
      rw [← hqs] at Q0 ⊢
      clear hqs
      have i0 : ∀ W, (Instr.index 81 (.agg #[.pointer (some ⟨qs, 0, none⟩), .pointer (some ⟨qs, 1, none⟩), .pointer (some ⟨qs, 2, none⟩), .pointer (some ⟨qs, 5, none⟩), .pointer (some ⟨qs, 6, none⟩)]) (.int .i64 0)).run Try.prog W = .ok (.pointer (some ⟨qs, 0, none⟩)) W := fun _ => by kernel_rfl
      have i1 : ∀ W, (Instr.index 81 (.agg #[.pointer (some ⟨qs, 0, none⟩), .pointer (some ⟨qs, 1, none⟩), .pointer (some ⟨qs, 2, none⟩), .pointer (some ⟨qs, 5, none⟩), .pointer (some ⟨qs, 6, none⟩)]) (.int .i64 1)).run Try.prog W = .ok (.pointer (some ⟨qs, 1, none⟩)) W := fun _ => by kernel_rfl
      have i2 : ∀ W, (Instr.index 81 (.agg #[.pointer (some ⟨qs, 0, none⟩), .pointer (some ⟨qs, 1, none⟩), .pointer (some ⟨qs, 2, none⟩), .pointer (some ⟨qs, 5, none⟩), .pointer (some ⟨qs, 6, none⟩)]) (.int .i64 2)).run Try.prog W = .ok (.pointer (some ⟨qs, 2, none⟩)) W := fun _ => by kernel_rfl
      have i3 : ∀ W, (Instr.index 81 (.agg #[.pointer (some ⟨qs, 0, none⟩), .pointer (some ⟨qs, 1, none⟩), .pointer (some ⟨qs, 2, none⟩), .pointer (some ⟨qs, 5, none⟩), .pointer (some ⟨qs, 6, none⟩)]) (.int .i64 3)).run Try.prog W = .ok (.pointer (some ⟨qs, 5, none⟩)) W := fun _ => by kernel_rfl
      have i4 : ∀ W, (Instr.index 81 (.agg #[.pointer (some ⟨qs, 0, none⟩), .pointer (some ⟨qs, 1, none⟩), .pointer (some ⟨qs, 2, none⟩), .pointer (some ⟨qs, 5, none⟩), .pointer (some ⟨qs, 6, none⟩)]) (.int .i64 4)).run Try.prog W = .ok (.pointer (some ⟨qs, 6, none⟩)) W := fun _ => by kernel_rfl
      refine wp_loop_rounds 6 ?_
      rw [rounds_succ]
      go_wp2_with fail
      refine (rdU_any Q0.out.p.rd).mono ?_
      rw [← Hy1.out]
      rintro e s1 ⟨rfl, hr, hg⟩
      have R1 := Lib.hid (Q0.out.read hr hg)
      clear hr hg Q0
      have z0 := cell_of R1.out.b 0
      have g0 := frozen_of R1.out.b 0
      simp at z0
      have Q1 := Lib.hid (R1.out.set 0 (.int .i64 (y1.1 : Int)) ⟨(y1.1 : Int), 0, 0, ⟨#[]⟩, ⟨#[]⟩, 0, 0, ⟨#[]⟩, []⟩ (heap_set R1.out.b 0 _))
      go_wp2_with fail
      obtain ⟨v1, hu⟩ : ∃ W, W = s1.setCell ⟨qs, 0, none⟩ (.int .i64 (y1.1 : Int)) := ⟨_, rfl⟩
      rw [← hu] at Q1 ⊢
      clear hu R1 z0 g0 i0
      rw [rounds_succ]
      go_wp2_with fail
      refine (rdU_any Q1.out.p.rd).mono ?_
      rw [← Hy2.out]
      rintro e s2 ⟨rfl, hr, hg⟩
      have R2 := Lib.hid (Q1.out.read hr hg)
      clear hr hg Q1
      have z1 := cell_of R2.out.b 1
      have g1 := frozen_of R2.out.b 1
      simp at z1
      have Q2 := Lib.hid (R2.out.set 1 (.int .i64 (y2.1 : Int)) ⟨(y1.1 : Int), (y2.1 : Int), 0, ⟨#[]⟩, ⟨#[]⟩, 0, 0, ⟨#[]⟩, []⟩ (heap_set R2.out.b 1 _))
      go_wp2_with fail
      obtain ⟨v2, hu⟩ : ∃ W, W = s2.setCell ⟨qs, 1, none⟩ (.int .i64 (y2.1 : Int)) := ⟨_, rfl⟩
      rw [← hu] at Q2 ⊢
      clear hu R2 z1 g1 i1
      rw [rounds_succ]
      go_wp2_with fail
      refine (rdU_any Q2.out.p.rd).mono ?_
      rw [← Hy3.out]
      rintro e s3 ⟨rfl, hr, hg⟩
      have R3 := Lib.hid (Q2.out.read hr hg)
      clear hr hg Q2
      have z2 := cell_of R3.out.b 2
      have g2 := frozen_of R3.out.b 2
      simp at z2
      have Q3 := Lib.hid (R3.out.set 2 (.int .i64 (y3.1 : Int)) ⟨(y1.1 : Int), (y2.1 : Int), (y3.1 : Int), ⟨#[]⟩, ⟨#[]⟩, 0, 0, ⟨#[]⟩, []⟩ (heap_set R3.out.b 2 _))
      go_wp2_with fail
      obtain ⟨v3, hu⟩ : ∃ W, W = s3.setCell ⟨qs, 2, none⟩ (.int .i64 (y3.1 : Int)) := ⟨_, rfl⟩
      rw [← hu] at Q3 ⊢
      clear hu R3 z2 g2 i2
      rw [rounds_succ]
      go_wp2_with fail
      refine (rdU_any Q3.out.p.rd).mono ?_
      rw [← Hy4.out]
      rintro e s4 ⟨rfl, hr, hg⟩
      have R4 := Lib.hid (Q3.out.read hr hg)
      clear hr hg Q3
      have z5 := cell_of R4.out.b 5
      have g5 := frozen_of R4.out.b 5
      simp at z5
      have Q4 := Lib.hid (R4.out.set 5 (.int .i64 (y4.1 : Int)) ⟨(y1.1 : Int), (y2.1 : Int), (y3.1 : Int), ⟨#[]⟩, ⟨#[]⟩, (y4.1 : Int), 0, ⟨#[]⟩, []⟩ (heap_set R4.out.b 5 _))
      go_wp2_with fail
      obtain ⟨v4, hu⟩ : ∃ W, W = s4.setCell ⟨qs, 5, none⟩ (.int .i64 (y4.1 : Int)) := ⟨_, rfl⟩
      rw [← hu] at Q4 ⊢
      clear hu R4 z5 g5 i3
      rw [rounds_succ]
      go_wp2_with fail
      refine (rdU_any Q4.out.p.rd).mono ?_
      rw [← Hy5.out]
      rintro e s5 ⟨rfl, hr, hg⟩
      have R5 := Lib.hid (Q4.out.read hr hg)
      clear hr hg Q4
      have z6 := cell_of R5.out.b 6
      have g6 := frozen_of R5.out.b 6
      simp at z6
      have Q5 := Lib.hid (R5.out.set 6 (.int .i64 (y5.1 : Int)) ⟨(y1.1 : Int), (y2.1 : Int), (y3.1 : Int), ⟨#[]⟩, ⟨#[]⟩, (y4.1 : Int), (y5.1 : Int), ⟨#[]⟩, []⟩ (heap_set R5.out.b 6 _))
      go_wp2_with fail
      obtain ⟨v5, hu⟩ : ∃ W, W = s5.setCell ⟨qs, 6, none⟩ (.int .i64 (y5.1 : Int)) := ⟨_, rfl⟩
      rw [← hu] at Q5 ⊢
      clear hu R5 z6 g6 i4
      rw [rounds_succ]
      go_wp2_with fail
      refine (rdText_any 24 Q5.out.p.rd).mono ?_
      rw [← Hv.out]
      rintro e s6 ⟨rfl, hBv, hLv, hr, hg⟩
      have Q6 := Lib.hid (Q5.out.read hr hg)
      clear hr hg Q5 hBv hLv
      go_wp2_with fail
      refine (rdText_any 24 Q6.out.p.rd).mono ?_
      rw [← Ho.out]
      rintro e s7 ⟨rfl, hBo, hLo, hr, hg⟩
      have Q7 := Lib.hid (Q6.out.read hr hg)
      clear hr hg Q6 hBo hLo
      go_wp2_with fail
      refine (rdText_any 64 Q7.out.p.rd).mono ?_
      rw [← Hp.out]
      rintro e s8 ⟨rfl, hBp, hLp, hr, hg⟩
      have Q8 := Lib.hid (Q7.out.read hr hg)
      clear hr hg Q7 hBp hLp
      have z3 := cell_of Q8.out.b 3
      have g3 := frozen_of Q8.out.b 3
      have z4 := cell_of Q8.out.b 4
      have g4 := frozen_of Q8.out.b 4
      have z7 := cell_of Q8.out.b 7
      have g7 := frozen_of Q8.out.b 7
      simp at z3 z4 z7
      have Q9 := Lib.hid (Q8.out.set 3 (.string (bs v.1)) ⟨(y1.1 : Int), (y2.1 : Int), (y3.1 : Int), bs v.1, ⟨#[]⟩, (y4.1 : Int), (y5.1 : Int), ⟨#[]⟩, []⟩ (heap_set Q8.out.b 3 _))
      have Q10 := Lib.hid (Q9.out.set 4 (.string (bs o.1)) ⟨(y1.1 : Int), (y2.1 : Int), (y3.1 : Int), bs v.1, bs o.1, (y4.1 : Int), (y5.1 : Int), ⟨#[]⟩, []⟩ (heap_set Q9.out.b 4 _))
      have Q11 := Lib.hid (Q10.out.set 7 (.string (bs p.1)) ⟨(y1.1 : Int), (y2.1 : Int), (y3.1 : Int), bs v.1, bs o.1, (y4.1 : Int), (y5.1 : Int), bs p.1, []⟩ (heap_set Q10.out.b 7 _))
      clear Q9 Q10
      go_wp2_with fail
      obtain ⟨t8, hu⟩ : ∃ W, W = ((s8.setCell ⟨qs, 3, none⟩ (.string (bs v.1))).setCell ⟨qs, 4, none⟩ (.string (bs o.1))).setCell ⟨qs, 7, none⟩ (.string (bs p.1)) := ⟨_, rfl⟩
      rw [← hu] at Q11 ⊢
      clear hu Q8 z3 z4 z7 g3 g4 g7
      refine (takeAs_any Q11.out.p.rd).mono ?_
      rw [← Ha.out]
      rintro e t9 ⟨va, rfl, hoa, hr, hg⟩
      have Q12 := Lib.hid (Q11.out.read hr hg)
      have hg6 := Q11.out.g6
      have hg56 := Q11.out.p.q56
      have hg5 := Q11.out.p.g5
      have hgl := Q11.out.p.rd.lt
      have hqlt : qs < t9.heap.size := (Array.getElem?_eq_some_iff.1 Q12.out.b).1
      have hq6t : q6 < t8.heap.size := (Array.getElem?_eq_some_iff.1 Q11.out.p.mn).1
      have hoa2 : t9.ownsRow (q6 + 1) 46 6 va a.1.length (acs a.1) := ownsRow_base hoa (by omega)
      clear hr hg Q11
      have hown : ∀ z, vo.ownBlock = some z → q6 + 1 ≤ z := by obtain ⟨vs, hv, h1, _⟩ := Q12.out.o; exact fun z hz => (h1.lt z hz).1
      have HV := Lib.hid hoa2
      obtain ⟨Aa, na, ca, rfl, _⟩ : ∃ A4 n4 c4, va = .slice A4 n4 c4 ∧ True := (by rcases hoa.2 with ⟨h, _⟩ | ⟨g2, cap, cur, h, _⟩ <;> exact ⟨_, _, _, h, trivial⟩)
      obtain ⟨Ao, co, eo⟩ := Q12.out.o.len
      subst eo
      have X9 := Lib.hid (show BSp t9 qs ⟨(y1.1 : Int), (y2.1 : Int), (y3.1 : Int), bs v.1, bs o.1, (y4.1 : Int), (y5.1 : Int), bs p.1, a.1⟩ (.slice none 0 0) from Q12.out.b)
      obtain ⟨z0, z1, z2, z3, z4, z5, z6, z7, z8⟩ := X9.out.cells
      simp only at z0 z1 z2 z3 z4 z5 z6 z7 z8
      have fz := frozen_of X9.out 8
      have w2 := cell_of Q12.out.q 2
      have fw := frozen_of Q12.out.q 2
      simp at w2
      have hne5 : q5 ≠ qs := by omega
      have hne6' : q6 ≠ q5 := by omega
      have hSL := HSL.out
      have X10 := Lib.hid (X9.out.put8 (.slice Aa na ca))
      have SO10 := Lib.hid (Q12.out.o.setCell X9.out Q12.out.ne 8 (.slice Aa na ca))
      have HV10 := Lib.hid (ownsRow_setCell_other HV.out (a := ⟨qs, 8, none⟩) (own_ne2 HV.out X9.out (by decide)) (.slice Aa na ca))
      have hz10 : (t9.setCell ⟨qs, 8, none⟩ (.slice Aa na ca)).heap.size = t9.heap.size := World.size_setCell _ _ _
      clear hoa hoa2
      go_wp2_with (at_builtin; refine append_sp rfl (.tmp 64) (.tmp 66) rfl (q6 + 1) (.slice Ao S.length co) S ⟨(y1.1 : Int), (y2.1 : Int), (y3.1 : Int), bs v.1, bs o.1, (y4.1 : Int), (y5.1 : Int), bs p.1, a.1⟩ (.slice Aa na ca) rfl (SO10.out.below (bel1 _ _)) (ownsRow_below HV10.out (bel1 _ _)) t9.heap.size rfl (by have := BSp.new (t9.setCell ⟨qs, 8, none⟩ (.slice Aa na ca)) ⟨(y1.1 : Int), (y2.1 : Int), (y3.1 : Int), bs v.1, bs o.1, (y4.1 : Int), (y5.1 : Int), bs p.1, a.1⟩ (.slice Aa na ca); rw [hz10] at this; exact this) (by omega) (by rw [World.size_alloc, hz10]; omega) ?_; intro v11 t11 ho11 hg11 hv11; obtain ⟨P12, m5, m6⟩ := Q12.out.p.push hg6 Q12.out.q hg11 ho11 hown; obtain ⟨A11, c11, e11⟩ := ho11.len; have e12 : v11 = .slice A11 (S.length + 1) c11 := (by rw [e11, List.length_append]; rfl); subst e12; clear e11; have w3 := cell_of m5 2; have fw3 := frozen_of m5 2; simp at w3; have w6 := cell_of m6 0; have fw6 := frozen_of m6 0; simp at w6; have HP12 := Lib.hid (P12.many (j : Int)); clear P12 m5 m6 ho11 hg11 hv11)
      go_roundg j
      case measure => omega
      case rel =>
        refine ⟨_, _, _, HP12, Lib.hid ?_, Lib.hid (by rw [List.length_append]; show S.length + 1 + j ≤ x3.1; omega)⟩
        rw [HT.out]
        simp only [tkSN, if_true, HS.out]
        simp
    · have hend : (tkSN gk e r) = ([], e, r) := by
        by_cases he : e = 0
        · rw [show gk = 0 by omega]; rfl
        · exact tkSN_stop _ he r
      rw [hend] at HT
      have HT2 := Lib.hid (show tkSN x3.1 x3.2.1 x3.2.2 = (S, e, r) by rw [HT.out]; simp)
      clear HT hend
      have HB := Lib.hid (show tkB l = (⟨(x1.1 : Int), (x2.1 : Int), S⟩, e, r) by
        unfold tkB
        simp only [HU.out]
        rw [show [x1.1, x2.1, x3.1].getD 2 0 = x3.1 from rfl, HT2.out]
        rfl)
      have hle : w.heap.size ≤ q2 := by rw [HQ2.out]; exact Nat.le_refl _
      have hgk : (gk : Int) ≤ 100 := by have := HSL.out; omega
      have k6 := cell_of HP.out.mn 0
      simp at k6
      by_cases he : e = 0
      case neg =>
        have HX := Lib.hid (show prB l = (noBat, 90) by
          unfold prB
          rw [HB.out, if_neg (fun h => he h.2.1)])
        by_cases hk0 : 0 < gk
        · have hk0' : decide ((0 : Int) < (gk : Int)) = true := decide_eq_true (by omega)
          go_wp2_with fail
          refine (Err_any HP.out.rd).mono ?_
          rintro e wz ⟨rfl, rfl⟩
          go_wp2_with fail
          refine (Err_any HP.out.rd).mono ?_
          rintro e wz ⟨rfl, rfl⟩
          have d0 := cell_of HP.out.ans 0
          have d1 := cell_of HP.out.ans 1
          have d2 := cell_of HP.out.ans 2
          have f0 := frozen_of HP.out.ans 0
          have f1 := frozen_of HP.out.ans 1
          have f2 := frozen_of HP.out.ans 2
          simp at d0 d1 d2
          go_wp2_with fail
          obtain ⟨W, hW⟩ : ∃ W, W = ((wr.setCell ⟨q2, 0, none⟩ (.int .i64 0)).setCell ⟨q2, 1, none⟩ (.int .i64 0)).setCell ⟨q2, 2, none⟩ (.slice none 0 0) := ⟨_, rfl⟩
          obtain ⟨B4, hBW⟩ := NO.out _ _ hW HP.out.bel HP.out.ans
          rw [← hW]
          clear hW d0 d1 d2 f0 f1 f2
          have d0 := cell_of B4 0
          have d1 := cell_of B4 1
          have d2 := cell_of B4 2
          simp at d0 d1 d2
          refine bodyPost_ret (by simp [results, Try.results14, go_sem, d0, d1, d2]; try rfl) rfl ?_
          rw [HX.out]
          exact ⟨_, rfl, SpOwn.nil _ _, hBW⟩
        · obtain rfl : gk = 0 := by omega
          simp at k6
          go_wp2_with fail
          refine (Err_any HP.out.rd).mono ?_
          rintro e wz ⟨rfl, rfl⟩
          have d0 := cell_of HP.out.ans 0
          have d1 := cell_of HP.out.ans 1
          have d2 := cell_of HP.out.ans 2
          have f0 := frozen_of HP.out.ans 0
          have f1 := frozen_of HP.out.ans 1
          have f2 := frozen_of HP.out.ans 2
          simp at d0 d1 d2
          go_wp2_with fail
          obtain ⟨W, hW⟩ : ∃ W, W = ((wr.setCell ⟨q2, 0, none⟩ (.int .i64 0)).setCell ⟨q2, 1, none⟩ (.int .i64 0)).setCell ⟨q2, 2, none⟩ (.slice none 0 0) := ⟨_, rfl⟩
          obtain ⟨B4, hBW⟩ := NO.out _ _ hW HP.out.bel HP.out.ans
          rw [← hW]
          clear hW d0 d1 d2 f0 f1 f2
          have d0 := cell_of B4 0
          have d1 := cell_of B4 1
          have d2 := cell_of B4 2
          simp at d0 d1 d2
          refine bodyPost_ret (by simp [results, Try.results14, go_sem, d0, d1, d2]; try rfl) rfl ?_
          rw [HX.out]
          exact ⟨_, rfl, SpOwn.nil _ _, hBW⟩
      subst he
      obtain rfl : gk = 0 := by omega
      simp at k6
      go_wp2_with fail
      refine (Err_any HP.out.rd).mono ?_
      rintro e wz ⟨rfl, rfl⟩
      go_wp2_with fail
      refine (Left_any HP.out.rd).mono ?_
      rintro e wz ⟨rfl, rfl⟩
      rw [if_pos rfl]
      clear k6
      by_cases hr0 : r = []
      case neg =>
        have HX := Lib.hid (show prB l = (noBat, 90) by
          unfold prB
          rw [HB.out, if_neg (fun h => hr0 h.2.2.1)])
        have hrl : 0 < r.length := List.length_pos_iff.2 hr0
        have d0 := cell_of HP.out.ans 0
        have d1 := cell_of HP.out.ans 1
        have d2 := cell_of HP.out.ans 2
        have f0 := frozen_of HP.out.ans 0
        have f1 := frozen_of HP.out.ans 1
        have f2 := frozen_of HP.out.ans 2
        simp at d0 d1 d2
        go_wp2_with fail
        obtain ⟨W, hW⟩ : ∃ W, W = ((wr.setCell ⟨q2, 0, none⟩ (.int .i64 0)).setCell ⟨q2, 1, none⟩ (.int .i64 0)).setCell ⟨q2, 2, none⟩ (.slice none 0 0) := ⟨_, rfl⟩
        obtain ⟨B4, hBW⟩ := NO.out _ _ hW HP.out.bel HP.out.ans
        rw [← hW]
        clear hW d0 d1 d2 f0 f1 f2
        have d0 := cell_of B4 0
        have d1 := cell_of B4 1
        have d2 := cell_of B4 2
        simp at d0 d1 d2
        refine bodyPost_ret (by simp [results, Try.results14, go_sem, d0, d1, d2]; try rfl) rfl ?_
        rw [HX.out]
        exact ⟨_, rfl, SpOwn.nil _ _, hBW⟩
      subst hr0
      obtain ⟨vb, hq, hso⟩ := HP.out.bt
      have hpt := tkSN_pt x3.1 x3.2.1 x3.2.2
      rw [HT2.out] at hpt
      have hsl := HSL.out
      obtain ⟨As, ns, cs, rfl, hLS⟩ := hso.ls (fun s hs => (hpt s hs).1) (fun s hs => by have := (hpt s hs).2; omega) (by omega)
      have HLS := Lib.hid hLS
      have HSO := Lib.hid hso
      have HQ := Lib.hid hq
      have z0 := cell_of hq 0
      have z1 := cell_of hq 1
      have z2 := cell_of hq 2
      simp at z0 z1 z2
      clear hq hso hpt hLS
      go_wp2_with fail
      refine (batCheck_any (b := ⟨(x1.1 : Int), (x2.1 : Int), S⟩) HLS.out).mono ?_
      rintro e t2 ⟨rfl, hb2⟩
      have P2 := Lib.hid (HP.out.below hb2)
      by_cases hok : OkB ⟨(x1.1 : Int), (x2.1 : Int), S⟩
      case neg =>
        have HX := Lib.hid (show prB l = (noBat, 90) by
          unfold prB
          rw [HB.out, if_neg (fun h => hok h.2.2.2)])
        rw [btP_no hok]
        clear hb2 z0 z1 z2
        have d0 := cell_of P2.out.ans 0
        have d1 := cell_of P2.out.ans 1
        have d2 := cell_of P2.out.ans 2
        have f0 := frozen_of P2.out.ans 0
        have f1 := frozen_of P2.out.ans 1
        have f2 := frozen_of P2.out.ans 2
        simp at d0 d1 d2
        go_wp2_with fail
        obtain ⟨W, hW⟩ : ∃ W, W = ((t2.setCell ⟨q2, 0, none⟩ (.int .i64 0)).setCell ⟨q2, 1, none⟩ (.int .i64 0)).setCell ⟨q2, 2, none⟩ (.slice none 0 0) := ⟨_, rfl⟩
        obtain ⟨B4, hBW⟩ := NO.out _ _ hW P2.out.bel P2.out.ans
        rw [← hW]
        clear hW d0 d1 d2 f0 f1 f2
        have d0 := cell_of B4 0
        have d1 := cell_of B4 1
        have d2 := cell_of B4 2
        simp at d0 d1 d2
        refine bodyPost_ret (by simp [results, Try.results14, go_sem, d0, d1, d2]; try rfl) rfl ?_
        rw [HX.out]
        exact ⟨_, rfl, SpOwn.nil _ _, hBW⟩
      rw [btP_yes hok]
      have HX := Lib.hid (show prB l = (⟨(x1.1 : Int), (x2.1 : Int), S⟩, 0) by
        unfold prB
        rw [HB.out, if_pos ⟨by rw [HU.out]; exact hm, rfl, rfl, hok⟩])
      have hq2' := (hb2.block _ (Array.getElem?_eq_some_iff.1 HQ.out).1).trans HQ.out
      have HSO4 := Lib.hid (HSO.out.below hb2)
      clear z0 z1 z2 hok
      have z0 := cell_of hq2' 0
      have z1 := cell_of hq2' 1
      have z2 := cell_of hq2' 2
      have d0 := cell_of P2.out.ans 0
      have d1 := cell_of P2.out.ans 1
      have d2 := cell_of P2.out.ans 2
      have f0 := frozen_of P2.out.ans 0
      have f1 := frozen_of P2.out.ans 1
      have f2 := frozen_of P2.out.ans 2
      simp at z0 z1 z2 d0 d1 d2
      clear hq2' hb2
      go_wp2_with fail
      obtain ⟨W, hW⟩ : ∃ W, W = ((t2.setCell ⟨q2, 0, none⟩ (.int .i64 (x1.1 : Int))).setCell ⟨q2, 1, none⟩ (.int .i64 (x2.1 : Int))).setCell ⟨q2, 2, none⟩ (.slice As ns cs) := ⟨_, rfl⟩
      have B4 : W.heap[q2]? = some (.cells #[.int .i64 (x1.1 : Int), .int .i64 (x2.1 : Int), .slice As ns cs] 24 (0, 0)) := by
        rw [hW]
        exact heap_set (heap_set (heap_set P2.out.ans 0 _) 1 _) 2 _
      have hBW : Below w.heap.size w W := by
        rw [hW]
        exact ((P2.out.bel.setCell (p := ⟨q2, 0, none⟩) hle _).setCell (p := ⟨q2, 1, none⟩) hle _).setCell (p := ⟨q2, 2, none⟩) hle _
      have hlo5 := P2.out.lo5
      have hlo6 := P2.out.q56
      have hlo7 := P2.out.g5
      have hlo8 := P2.out.n2
      have hlo9 := P2.out.rd.lt
      have hlt2 : q2 < q6 + 1 := by omega
      have hSW : SpOwn W w.heap.size (.slice As ns cs) S := by
        rw [hW]
        exact (((HSO4.out.far hlt2 0 _).far hlt2 1 _).far hlt2 2 _).base (by omega) (by rw [World.size_setCell, World.size_setCell, World.size_setCell]; exact P2.out.bel.size)
      rw [← hW]
      clear hW d0 d1 d2 f0 f1 f2 z0 z1 z2
      have d0 := cell_of B4 0
      have d1 := cell_of B4 1
      have d2 := cell_of B4 2
      simp at d0 d1 d2
      refine bodyPost_ret (by simp [results, Try.results14, go_sem, d0, d1, d2]; try rfl) rfl ?_
      rw [HX.out]
      exact ⟨_, rfl, hSW, hBW⟩
end Go.Proofs.Ytbhfbpaaghpadaa
