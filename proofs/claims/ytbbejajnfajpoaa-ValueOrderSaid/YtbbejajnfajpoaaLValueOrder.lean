/- The walk of the law ValueOrder. No conditions. -/
import Derived.Test.YtbbejajnfajpoaaVW
import Derived.Test.YtbbejajnfajpoaaOrd
import Derived.Test.YtbbejajnfajpoaaRowV
import Derived.Deep.RegionHeld3
set_option linter.unusedSimpArgs false
set_option linter.unusedVariables false
namespace Go.Proofs.Ytbbejajnfajpoaa
open Go.RowKit

theorem three_keep {W a : World} {g1 g2 g3 : Nat} {x y z : Val} (h1 : BV W g1 x) (h2 : BV W g2 y) (h3 : BV W g3 z) (hb : Below W.heap.size W a) :
    Below W.heap.size W a ∧ a.cell? ⟨g1, 0, none⟩ = some (.int .i64 x.k) ∧ a.cell? ⟨g1, 1, none⟩ = some (.int .i64 x.n) ∧ a.cell? ⟨g1, 2, none⟩ = some (.string x.b) ∧
      a.cell? ⟨g2, 0, none⟩ = some (.int .i64 y.k) ∧ a.cell? ⟨g2, 1, none⟩ = some (.int .i64 y.n) ∧ a.cell? ⟨g2, 2, none⟩ = some (.string y.b) ∧
      a.cell? ⟨g3, 0, none⟩ = some (.int .i64 z.k) ∧ a.cell? ⟨g3, 1, none⟩ = some (.int .i64 z.n) ∧ a.cell? ⟨g3, 2, none⟩ = some (.string z.b) := by
  have e1 := (h1.below hb).cells
  have e2 := (h2.below hb).cells
  have e3 := (h3.below hb).cells
  exact ⟨hb, e1.1, e1.2.1, e1.2.2, e2.1, e2.2.1, e2.2.2, e3.1, e3.2.1, e3.2.2⟩

set_option maxHeartbeats 16000000 in
set_option maxRecDepth 100000 in
theorem valueOrder_walk (x y z : Val) (w : World) (hx : I64 x.k ∧ I64 x.n) (hy : I64 y.k ∧ I64 y.n) (hz : I64 z.k ∧ I64 z.n) :
    Calls Try.prog 15 #[x.v, y.v, z.v] w fun e w' => e = .returned (.bool true) ∧ Below w.heap.size w w' := by
  clear hx hy hz
  have C1 := Lib.hid (compareV_any x y)
  have C2 := Lib.hid (compareV_any y z)
  have C3 := Lib.hid (compareV_any x z)
  have C4 := Lib.hid (compareV_any y x)
  rw [cmpV_swap x y] at C4
  have hr := cmpV_range x y
  have hz0 := cmpV_zero x y
  have htr := cmpV_trans x y z
  have hry := cmpV_range y z
  have hrz := cmpV_range x z
  have HEQ : Hid (∀ w, (Op.equalIn 10000 58 (.agg #[.int .i64 x.k, .int .i64 x.n, .string x.b]) (.agg #[.int .i64 y.k, .int .i64 y.n, .string y.b])).run Try.prog w = .ok (eqV x y) w) := Lib.hid (fun w => eqV_run 9998 x y w)
  have hei := eqV_iff x y
  obtain ⟨W0, hW0⟩ : ∃ W0, W0 = ((w.alloc (.cells #[.int .i64 x.k, .int .i64 x.n, .string x.b] 58)).alloc (.cells #[.int .i64 y.k, .int .i64 y.n, .string y.b] 58)).alloc (.cells #[.int .i64 z.k, .int .i64 z.n, .string z.b] 58) := ⟨_, rfl⟩
  have hb0 : Below w.heap.size w W0 := by rw [hW0]; exact (((bel0 w).alloc (Nat.le_refl _) _).alloc (by simp) _).alloc (by simp; omega) _
  have B1 : BV W0 w.heap.size x := by
    rw [hW0]
    exact ((BV.new w x).below ((bel0 _).alloc (Nat.le_refl _) _)).below ((bel0 _).alloc (Nat.le_refl _) _)
  have B2 : BV W0 (w.heap.size + 1) y := by
    rw [hW0]
    have := (BV.new (w.alloc (.cells #[.int .i64 x.k, .int .i64 x.n, .string x.b] 58)) y).below ((bel0 _).alloc (Nat.le_refl _) (.cells #[.int .i64 z.k, .int .i64 z.n, .string z.b] 58))
    simpa using this
  have B3 : BV W0 (w.heap.size + 2) z := by
    rw [hW0]
    have := BV.new ((w.alloc (.cells #[.int .i64 x.k, .int .i64 x.n, .string x.b] 58)).alloc (.cells #[.int .i64 y.k, .int .i64 y.n, .string y.b] 58)) z
    simpa using this
  have HB1 := Lib.hid B1
  have HB2 := Lib.hid B2
  have HB3 := Lib.hid B3
  obtain ⟨X, hX⟩ : ∃ X, X = cmpV x y := ⟨_, rfl⟩
  obtain ⟨Y, hY⟩ : ∃ Y, Y = cmpV y z := ⟨_, rfl⟩
  obtain ⟨Z, hZ⟩ : ∃ Z, Z = cmpV x z := ⟨_, rfl⟩
  rw [← hX] at C1 C4 hr hz0 htr
  rw [← hY] at C2 htr hry
  rw [← hZ] at C3 htr hrz
  obtain ⟨bb, hbb⟩ : ∃ bb, bb = eqV x y := ⟨_, rfl⟩
  rw [← hbb] at HEQ hei
  have hXb : X = 0 ↔ bb = true := hz0.trans hei.symm
  clear hX hY hZ hbb hz0 hei B1 B2 B3
  obtain ⟨xk, xn, xb⟩ := x
  obtain ⟨yk, yn, yb⟩ := y
  obtain ⟨zk, zn, zb⟩ := z
  unfold Val.v at *
  simp only at *
  have HTR := Lib.hid htr
  have HXB := Lib.hid hXb
  have HRY := Lib.hid hry
  have HRZ := Lib.hid hrz
  clear htr hXb hry hrz
  rcases hr with rfl | rfl | rfl
  · obtain rfl : bb = false := by
      cases bb with
      | false => rfl
      | true => have := HXB.out.2 rfl; omega
    by_cases y1 : 0 < Y
    · have y2 : decide (0 < Y) = true := decide_eq_true y1
      go_enter Try.func15, Try.ntmps15
      go_wp2_with fail
      rw [← hW0]
      refine (works08_any _).mono ?_
      rintro e w1 ⟨rfl, hb1⟩
      have TK := Lib.hid (fun a hb => three_keep (a := a) (HB1.out.below hb1) (HB2.out.below hb1) (HB3.out.below hb1) hb)
      have hb01 := nx hb0 hb1
      go_wp2_with fail
      go_region_held3 (fun a => Below w1.heap.size w1 a ∧ a.cell? ⟨w.heap.size, 0, none⟩ = some (.int .i64 xk) ∧ a.cell? ⟨w.heap.size, 1, none⟩ = some (.int .i64 xn) ∧ a.cell? ⟨w.heap.size, 2, none⟩ = some (.string xb) ∧ a.cell? ⟨w.heap.size + 1, 0, none⟩ = some (.int .i64 yk) ∧ a.cell? ⟨w.heap.size + 1, 1, none⟩ = some (.int .i64 yn) ∧ a.cell? ⟨w.heap.size + 1, 2, none⟩ = some (.string yb) ∧ a.cell? ⟨w.heap.size + 2, 0, none⟩ = some (.int .i64 zk) ∧ a.cell? ⟨w.heap.size + 2, 1, none⟩ = some (.int .i64 zn) ∧ a.cell? ⟨w.heap.size + 2, 2, none⟩ = some (.string zb))
        (first | exact TK.out _ (bel0 _).drew | exact TK.out _ (nx (And.left (b := _) (by assumption)) (by assumption)) | assumption)
        (first
          | (go_at_call 58; (with_reducible refine (C1.out _).mono ?_); rintro e wb ⟨rfl, hbb⟩)
          | (go_at_call 58; (with_reducible refine (C2.out _).mono ?_); rintro e wb ⟨rfl, hbb⟩)
          | (go_at_call 58; (with_reducible refine (C3.out _).mono ?_); rintro e wb ⟨rfl, hbb⟩))
      rename_i hK
      obtain ⟨hbK, k0, k1, k2, k3, k4, k5, k6, k7, k8⟩ := hK
      have heq := HEQ.out
      have hb02 := nx hb01 hbK
      go_wp2_with fail
      refine (C4.out _).mono ?_
      rintro e w5 ⟨rfl, hb5⟩
      have TK5 := TK.out _ (nx hbK hb5)
      obtain ⟨_, m0, m1, m2, m3, m4, m5, m6, m7, m8⟩ := TK5
      go_wp2_with fail
      go_ret
      exact ⟨rfl, nx hb02 hb5⟩
    · have y2 : decide (0 < Y) = false := decide_eq_false y1
      have hZ := (HTR.out (by decide) (by omega)).2 (.inl (by decide))
      have z1 : Z ≤ 0 := by omega
      go_enter Try.func15, Try.ntmps15
      go_wp2_with fail
      rw [← hW0]
      refine (works08_any _).mono ?_
      rintro e w1 ⟨rfl, hb1⟩
      have TK := Lib.hid (fun a hb => three_keep (a := a) (HB1.out.below hb1) (HB2.out.below hb1) (HB3.out.below hb1) hb)
      have hb01 := nx hb0 hb1
      go_wp2_with fail
      go_region_held3 (fun a => Below w1.heap.size w1 a ∧ a.cell? ⟨w.heap.size, 0, none⟩ = some (.int .i64 xk) ∧ a.cell? ⟨w.heap.size, 1, none⟩ = some (.int .i64 xn) ∧ a.cell? ⟨w.heap.size, 2, none⟩ = some (.string xb) ∧ a.cell? ⟨w.heap.size + 1, 0, none⟩ = some (.int .i64 yk) ∧ a.cell? ⟨w.heap.size + 1, 1, none⟩ = some (.int .i64 yn) ∧ a.cell? ⟨w.heap.size + 1, 2, none⟩ = some (.string yb) ∧ a.cell? ⟨w.heap.size + 2, 0, none⟩ = some (.int .i64 zk) ∧ a.cell? ⟨w.heap.size + 2, 1, none⟩ = some (.int .i64 zn) ∧ a.cell? ⟨w.heap.size + 2, 2, none⟩ = some (.string zb))
        (first | exact TK.out _ (bel0 _).drew | exact TK.out _ (nx (And.left (b := _) (by assumption)) (by assumption)) | assumption)
        (first
          | (go_at_call 58; (with_reducible refine (C1.out _).mono ?_); rintro e wb ⟨rfl, hbb⟩)
          | (go_at_call 58; (with_reducible refine (C2.out _).mono ?_); rintro e wb ⟨rfl, hbb⟩)
          | (go_at_call 58; (with_reducible refine (C3.out _).mono ?_); rintro e wb ⟨rfl, hbb⟩))
      rename_i hK
      obtain ⟨hbK, k0, k1, k2, k3, k4, k5, k6, k7, k8⟩ := hK
      have heq := HEQ.out
      have hb02 := nx hb01 hbK
      go_wp2_with fail
      refine (C4.out _).mono ?_
      rintro e w5 ⟨rfl, hb5⟩
      have TK5 := TK.out _ (nx hbK hb5)
      obtain ⟨_, m0, m1, m2, m3, m4, m5, m6, m7, m8⟩ := TK5
      go_wp2_with fail
      go_ret
      exact ⟨rfl, nx hb02 hb5⟩
  · obtain rfl : bb = true := HXB.out.1 rfl
    by_cases y1 : 0 < Y
    · have y2 : decide (0 < Y) = true := decide_eq_true y1
      go_enter Try.func15, Try.ntmps15
      go_wp2_with fail
      rw [← hW0]
      refine (works08_any _).mono ?_
      rintro e w1 ⟨rfl, hb1⟩
      have TK := Lib.hid (fun a hb => three_keep (a := a) (HB1.out.below hb1) (HB2.out.below hb1) (HB3.out.below hb1) hb)
      have hb01 := nx hb0 hb1
      go_wp2_with fail
      go_region_held3 (fun a => Below w1.heap.size w1 a ∧ a.cell? ⟨w.heap.size, 0, none⟩ = some (.int .i64 xk) ∧ a.cell? ⟨w.heap.size, 1, none⟩ = some (.int .i64 xn) ∧ a.cell? ⟨w.heap.size, 2, none⟩ = some (.string xb) ∧ a.cell? ⟨w.heap.size + 1, 0, none⟩ = some (.int .i64 yk) ∧ a.cell? ⟨w.heap.size + 1, 1, none⟩ = some (.int .i64 yn) ∧ a.cell? ⟨w.heap.size + 1, 2, none⟩ = some (.string yb) ∧ a.cell? ⟨w.heap.size + 2, 0, none⟩ = some (.int .i64 zk) ∧ a.cell? ⟨w.heap.size + 2, 1, none⟩ = some (.int .i64 zn) ∧ a.cell? ⟨w.heap.size + 2, 2, none⟩ = some (.string zb))
        (first | exact TK.out _ (bel0 _).drew | exact TK.out _ (nx (And.left (b := _) (by assumption)) (by assumption)) | assumption)
        (first
          | (go_at_call 58; (with_reducible refine (C1.out _).mono ?_); rintro e wb ⟨rfl, hbb⟩)
          | (go_at_call 58; (with_reducible refine (C2.out _).mono ?_); rintro e wb ⟨rfl, hbb⟩)
          | (go_at_call 58; (with_reducible refine (C3.out _).mono ?_); rintro e wb ⟨rfl, hbb⟩))
      rename_i hK
      obtain ⟨hbK, k0, k1, k2, k3, k4, k5, k6, k7, k8⟩ := hK
      have heq := HEQ.out
      have hb02 := nx hb01 hbK
      go_wp2_with fail
      refine (C4.out _).mono ?_
      rintro e w5 ⟨rfl, hb5⟩
      have TK5 := TK.out _ (nx hbK hb5)
      obtain ⟨_, m0, m1, m2, m3, m4, m5, m6, m7, m8⟩ := TK5
      go_wp2_with fail
      go_ret
      exact ⟨rfl, nx hb02 hb5⟩
    · have y2 : decide (0 < Y) = false := decide_eq_false y1
      have z1 := (HTR.out (by decide) (by omega)).1
      go_enter Try.func15, Try.ntmps15
      go_wp2_with fail
      rw [← hW0]
      refine (works08_any _).mono ?_
      rintro e w1 ⟨rfl, hb1⟩
      have TK := Lib.hid (fun a hb => three_keep (a := a) (HB1.out.below hb1) (HB2.out.below hb1) (HB3.out.below hb1) hb)
      have hb01 := nx hb0 hb1
      go_wp2_with fail
      go_region_held3 (fun a => Below w1.heap.size w1 a ∧ a.cell? ⟨w.heap.size, 0, none⟩ = some (.int .i64 xk) ∧ a.cell? ⟨w.heap.size, 1, none⟩ = some (.int .i64 xn) ∧ a.cell? ⟨w.heap.size, 2, none⟩ = some (.string xb) ∧ a.cell? ⟨w.heap.size + 1, 0, none⟩ = some (.int .i64 yk) ∧ a.cell? ⟨w.heap.size + 1, 1, none⟩ = some (.int .i64 yn) ∧ a.cell? ⟨w.heap.size + 1, 2, none⟩ = some (.string yb) ∧ a.cell? ⟨w.heap.size + 2, 0, none⟩ = some (.int .i64 zk) ∧ a.cell? ⟨w.heap.size + 2, 1, none⟩ = some (.int .i64 zn) ∧ a.cell? ⟨w.heap.size + 2, 2, none⟩ = some (.string zb))
        (first | exact TK.out _ (bel0 _).drew | exact TK.out _ (nx (And.left (b := _) (by assumption)) (by assumption)) | assumption)
        (first
          | (go_at_call 58; (with_reducible refine (C1.out _).mono ?_); rintro e wb ⟨rfl, hbb⟩)
          | (go_at_call 58; (with_reducible refine (C2.out _).mono ?_); rintro e wb ⟨rfl, hbb⟩)
          | (go_at_call 58; (with_reducible refine (C3.out _).mono ?_); rintro e wb ⟨rfl, hbb⟩))
      rename_i hK
      obtain ⟨hbK, k0, k1, k2, k3, k4, k5, k6, k7, k8⟩ := hK
      have heq := HEQ.out
      have hb02 := nx hb01 hbK
      go_wp2_with fail
      refine (C4.out _).mono ?_
      rintro e w5 ⟨rfl, hb5⟩
      have TK5 := TK.out _ (nx hbK hb5)
      obtain ⟨_, m0, m1, m2, m3, m4, m5, m6, m7, m8⟩ := TK5
      go_wp2_with fail
      go_ret
      exact ⟨rfl, nx hb02 hb5⟩
  · obtain rfl : bb = false := by
      cases bb with
      | false => rfl
      | true => have := HXB.out.2 rfl; omega
    go_enter Try.func15, Try.ntmps15
    go_wp2_with fail
    rw [← hW0]
    refine (works08_any _).mono ?_
    rintro e w1 ⟨rfl, hb1⟩
    have TK := Lib.hid (fun a hb => three_keep (a := a) (HB1.out.below hb1) (HB2.out.below hb1) (HB3.out.below hb1) hb)
    have hb01 := nx hb0 hb1
    go_wp2_with fail
    go_region_held3 (fun a => Below w1.heap.size w1 a ∧ a.cell? ⟨w.heap.size, 0, none⟩ = some (.int .i64 xk) ∧ a.cell? ⟨w.heap.size, 1, none⟩ = some (.int .i64 xn) ∧ a.cell? ⟨w.heap.size, 2, none⟩ = some (.string xb) ∧ a.cell? ⟨w.heap.size + 1, 0, none⟩ = some (.int .i64 yk) ∧ a.cell? ⟨w.heap.size + 1, 1, none⟩ = some (.int .i64 yn) ∧ a.cell? ⟨w.heap.size + 1, 2, none⟩ = some (.string yb) ∧ a.cell? ⟨w.heap.size + 2, 0, none⟩ = some (.int .i64 zk) ∧ a.cell? ⟨w.heap.size + 2, 1, none⟩ = some (.int .i64 zn) ∧ a.cell? ⟨w.heap.size + 2, 2, none⟩ = some (.string zb))
      (first | exact TK.out _ (bel0 _).drew | exact TK.out _ (nx (And.left (b := _) (by assumption)) (by assumption)) | assumption)
      (first
        | (go_at_call 58; (with_reducible refine (C1.out _).mono ?_); rintro e wb ⟨rfl, hbb⟩)
        | (go_at_call 58; (with_reducible refine (C2.out _).mono ?_); rintro e wb ⟨rfl, hbb⟩)
        | (go_at_call 58; (with_reducible refine (C3.out _).mono ?_); rintro e wb ⟨rfl, hbb⟩))
    rename_i hK
    obtain ⟨hbK, k0, k1, k2, k3, k4, k5, k6, k7, k8⟩ := hK
    have heq := HEQ.out
    have hb02 := nx hb01 hbK
    go_wp2_with fail
    refine (C4.out _).mono ?_
    rintro e w5 ⟨rfl, hb5⟩
    have TK5 := TK.out _ (nx hbK hb5)
    obtain ⟨_, m0, m1, m2, m3, m4, m5, m6, m7, m8⟩ := TK5
    go_wp2_with fail
    go_ret
    exact ⟨rfl, nx hb02 hb5⟩
end Go.Proofs.Ytbbejajnfajpoaa
