/- The walk of the law TallyFour. No conditions. -/
import Derived.Test.YtpkpgmpnaomioaaTally
import Derived.Test.YtpkpgmpnaomioaaRow
import Derived.Deep.RegionHeld3
import Derived.Laws.StructEq
set_option linter.unusedSimpArgs false
set_option linter.unusedVariables false
namespace Go.Proofs.Ytpkpgmpnaomioaa
open Go.RowKit
attribute [local go_sem] min2_mn min_2

/-- Four bytes of a block. -/
def Four (w : World) (g x0 x1 x2 x3 : Nat) : Prop := w.cell? ⟨g, 0, none⟩ = some (.int .u8 x0) ∧ w.cell? ⟨g, 1, none⟩ = some (.int .u8 x1) ∧ w.cell? ⟨g, 2, none⟩ = some (.int .u8 x2) ∧ w.cell? ⟨g, 3, none⟩ = some (.int .u8 x3)
theorem four_of {w : World} {g x0 x1 x2 x3 : Nat} (h : BS w (some ⟨g, 0, none⟩) 4 4 [x0, x1, x2, x3]) : Four w g x0 x1 x2 x3 := by
  have c := fun i (hi : i < [x0, x1, x2, x3].length) => h.lies.byte hi
  refine ⟨?_, ?_, ?_, ?_⟩
  · obtain ⟨ad, e, hc⟩ := c 0 (by simp); cases e; exact hc
  · obtain ⟨ad, e, hc⟩ := c 1 (by simp); cases e; rw [addr_add] at hc; exact hc
  · obtain ⟨ad, e, hc⟩ := c 2 (by simp); cases e; rw [addr_add] at hc; exact hc
  · obtain ⟨ad, e, hc⟩ := c 3 (by simp); cases e; rw [addr_add] at hc; exact hc
theorem four_keep {w w' : World} {g x0 x1 x2 x3 g' y0 y1 y2 y3 : Nat} (hb : Below w.heap.size w w') (h : Four w g x0 x1 x2 x3 ∧ Four w g' y0 y1 y2 y3) :
    Below w.heap.size w w' ∧ w'.cell? ⟨g, 0, none⟩ = some (.int .u8 x0) ∧ w'.cell? ⟨g, 1, none⟩ = some (.int .u8 x1) ∧ w'.cell? ⟨g, 2, none⟩ = some (.int .u8 x2) ∧ w'.cell? ⟨g, 3, none⟩ = some (.int .u8 x3) ∧
      w'.cell? ⟨g', 0, none⟩ = some (.int .u8 y0) ∧ w'.cell? ⟨g', 1, none⟩ = some (.int .u8 y1) ∧ w'.cell? ⟨g', 2, none⟩ = some (.int .u8 y2) ∧ w'.cell? ⟨g', 3, none⟩ = some (.int .u8 y3) := by
  obtain ⟨⟨a0, a1, a2, a3⟩, b0, b1, b2, b3⟩ := h
  have lg := World.block_lt_of_cell? w _ a0
  have lg' := World.block_lt_of_cell? w _ b0
  have f := fun i => hb.cell (p := ⟨g, i, none⟩) lg
  have f' := fun i => hb.cell (p := ⟨g', i, none⟩) lg'
  exact ⟨hb, (f 0).trans a0, (f 1).trans a1, (f 2).trans a2, (f 3).trans a3, (f' 0).trans b0, (f' 1).trans b1, (f' 2).trans b2, (f' 3).trans b3⟩

set_option maxHeartbeats 8000000 in
set_option maxRecDepth 100000 in
theorem tallyFour_core (B : Option Addr) (cb : Nat) (b : List Nat) (x0 x1 x2 x3 y0 y1 y2 y3 : Nat) (w : World) (hB : BS w B b.length cb b) (hx : Byt [x0, x1, x2, x3]) (hy : Byt [y0, y1, y2, y3]) :
    Calls Try.prog 6 #[.slice B b.length cb, .agg #[.int .u8 x0, .int .u8 x1, .int .u8 x2, .int .u8 x3], .agg #[.int .u8 y0, .int .u8 y1, .int .u8 y2, .int .u8 y3]] w fun e w' => e = .returned (.bool true) ∧ Below w.heap.size w w' := by
  have m1 := mnI_lit b.length 5000 5000 rfl
  have kB := hB.cutN (show min b.length 5000 ≤ b.length by omega)
  have l2 := hB.lim
  have n2 := hB.le
  have q3 : min b.length 5000 ≤ b.length := by omega
  generalize min b.length 5000 = n at *
  generalize b.take n = z at *
  have HZ := Lib.hid kB
  have HXB := Lib.hid hx
  have HYB := Lib.hid hy
  clear hB kB hx hy
  have z0 : (0 : Int) ≤ (n : Int) := by omega
  have z1 : (n : Int) ≤ (cb : Int) := by omega
  have heq : ∀ w, (Op.equalIn 10000 34 (.agg #[.int .u8 x0, .int .u8 x1, .int .u8 x2, .int .u8 x3]) (.agg #[.int .u8 y0, .int .u8 y1, .int .u8 y2, .int .u8 y3])).run Try.prog w = .ok (decide ([x0, x1, x2, x3] = [y0, y1, y2, y3])) w :=
    fun w => run_equalIn_bv w 9998 _ 5 4 Try.underlying34 Try.underlying5 (fun _ => by kernel_rfl) [x0, x1, x2, x3] [y0, y1, y2, y3] rfl rfl HXB.out HYB.out
  obtain ⟨eqb, heqb⟩ : ∃ b, b = decide ([x0, x1, x2, x3] = [y0, y1, y2, y3]) := ⟨_, rfl⟩
  rw [← heqb] at heq
  have HEQB := Lib.hid heqb
  clear heqb
  go_enter Try.func6, Try.ntmps6
  go_wp2_with fail
  obtain ⟨wa, hwa⟩ : ∃ wa, wa = (w.alloc (.cells #[.int .u8 x0, .int .u8 x1, .int .u8 x2, .int .u8 x3] 34)).alloc (.cells #[.int .u8 y0, .int .u8 y1, .int .u8 y2, .int .u8 y3] 34) := ⟨_, rfl⟩
  rw [← hwa]
  obtain ⟨gx, hgx⟩ : ∃ gx, gx = w.heap.size := ⟨_, rfl⟩
  obtain ⟨gy, hgy⟩ : ∃ gy, gy = w.heap.size + 1 := ⟨_, rfl⟩
  rw [← hgy, ← hgx]
  have hba : Below w.heap.size w wa := by rw [hwa]; exact ((bel0 w).alloc (Nat.le_refl _) _).alloc (by simp) _
  have hX : BS wa (some ⟨gx, 0, none⟩) 4 4 [x0, x1, x2, x3] := by
    rw [hwa, hgx]
    exact (BS.alloc w [x0, x1, x2, x3] _ _ HXB.out (by simp)).newBlock _
  have hY : BS wa (some ⟨gy, 0, none⟩) 4 4 [y0, y1, y2, y3] := by
    rw [hwa, hgy]
    have := BS.alloc (w.alloc (.cells #[.int .u8 x0, .int .u8 x1, .int .u8 x2, .int .u8 x3] 34)) [y0, y1, y2, y3] 34 (0, 0) HYB.out (by simp)
    rw [World.size_alloc] at this
    exact this
  have HX := Lib.hid hX
  have HY := Lib.hid hY
  clear hX hY hwa hgx hgy
  refine (works02_any _).mono ?_
  rintro e w1 ⟨rfl, hb1⟩
  go_wp2_with fail
  refine (of_any B n cb z _ (HZ.out.below (nx hba hb1))).mono ?_
  rintro e w2 ⟨rfl, hb2⟩
  have hb2' := nx (nx hba hb1) hb2
  have hX2 := HX.out.below (nx hb1 hb2)
  have hY2 := HY.out.below (nx hb1 hb2)
  have cx := fun i (hi : i < 4) => hX2.lies.byte (i := i) hi
  have cy := fun i (hi : i < 4) => hY2.lies.byte (i := i) hi
  have c8 : Four w2 gx x0 x1 x2 x3 ∧ Four w2 gy y0 y1 y2 y3 := ⟨four_of hX2, four_of hY2⟩
  have HX2 := Lib.hid hX2
  have HY2 := Lib.hid hY2
  have H8 := Lib.hid c8
  clear hX2 hY2 c8 cx cy HX HY hba hb1 hb2
  go_wp2_with fail
  go_region_held3 (fun w' => Below w2.heap.size w2 w' ∧ w'.cell? ⟨gx, 0, none⟩ = some (.int .u8 x0) ∧ w'.cell? ⟨gx, 1, none⟩ = some (.int .u8 x1) ∧ w'.cell? ⟨gx, 2, none⟩ = some (.int .u8 x2) ∧ w'.cell? ⟨gx, 3, none⟩ = some (.int .u8 x3) ∧
      w'.cell? ⟨gy, 0, none⟩ = some (.int .u8 y0) ∧ w'.cell? ⟨gy, 1, none⟩ = some (.int .u8 y1) ∧ w'.cell? ⟨gy, 2, none⟩ = some (.int .u8 y2) ∧ w'.cell? ⟨gy, 3, none⟩ = some (.int .u8 y3))
    (first | exact four_keep (bel0 _).drew H8.out | exact four_keep (nx (And.left (b := _) (by assumption)) (by assumption)) H8.out)
    (first
      | (go_at_call 19; (with_reducible refine (on_any (Crc.on 0 z) (Crc.on_lt _ _) (some ⟨gx, 0, none⟩) 4 4 [x0, x1, x2, x3] _ (HX2.out.below (And.left (by assumption)))).mono ?_); rintro e wb ⟨rfl, hbb⟩)
      | (go_at_call 19; (with_reducible refine (on_any (Crc.on 0 z) (Crc.on_lt _ _) (some ⟨gy, 0, none⟩) 4 4 [y0, y1, y2, y3] _ (HY2.out.below (And.left (by assumption)))).mono ?_); rintro e wc ⟨rfl, hbc⟩))
  have hfin : (((Crc.on (Crc.on 0 z) [x0, x1, x2, x3] : Nat) : Int) == ((Crc.on (Crc.on 0 z) [y0, y1, y2, y3] : Nat) : Int)) = eqb := by
    rw [HEQB.out, Bool.eq_iff_iff]
    simp only [beq_iff_eq, decide_eq_true_eq]
    constructor
    · intro h
      exact Crc.on_four _ (Crc.on_lt _ _) _ _ HXB.out HYB.out rfl rfl (by exact_mod_cast h)
    · intro h; rw [h]
  go_wp2
  go_ret
  refine ⟨?_, nx hb2' (And.left (by assumption))⟩
  show Ending.returned (Value.bool ((((Crc.on (Crc.on 0 z) [x0, x1, x2, x3] : Nat) : Int) == ((Crc.on (Crc.on 0 z) [y0, y1, y2, y3] : Nat) : Int)) == eqb)) = _
  rw [hfin]
  simp

theorem tallyFour_walk (B : Option Addr) (cb : Nat) (b : List Nat) (x y : List Nat) (w : World) (hB : BS w B b.length cb b) (lx : x.length = 4) (hx : Byt x) (ly : y.length = 4) (hy : Byt y) :
    Calls Try.prog 6 #[.slice B b.length cb, .agg (bv x).toArray, .agg (bv y).toArray] w fun e w' => e = .returned (.bool true) ∧ Below w.heap.size w w' := by
  match x, lx, hx, y, ly, hy with
  | [x0, x1, x2, x3], _, hx, [y0, y1, y2, y3], _, hy => exact tallyFour_core B cb b x0 x1 x2 x3 y0 y1 y2 y3 w hB hx hy
end Go.Proofs.Ytpkpgmpnaomioaa
