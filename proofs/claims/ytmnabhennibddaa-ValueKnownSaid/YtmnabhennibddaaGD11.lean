/- A label's bytes: the contracts of the two Bytes. No conditions. -/
import Derived.Test.YtmnabhennibddaaGD05
import Derived.Test.YtmnabhennibddaaGD08
import Derived.Test.YtmnabhennibddaaGD09
set_option linter.unusedSimpArgs false
set_option linter.unusedVariables false
namespace Go.Proofs.Ytmnabhennibddaa
open Go.RowKit

/-- What a label's Bytes answers. -/
def lb (x : Lab) : List Nat × Int := if chkL x = 0 then (Dig.enc x.l.toNat ++ Dig.enc x.p, 0) else ([], 9)
/-- A boxed label. -/
def BL (w : World) (q : Nat) (x : Lab) : Prop := w.heap[q]? = some (.cells #[.int .i64 x.l, .int .u32 (x.p : Int)] 47 (0, 0))
theorem BL.cells {w : World} {q : Nat} {x : Lab} (h : BL w q x) : w.cell? ⟨q, 0, none⟩ = some (.int .i64 x.l) ∧ w.cell? ⟨q, 1, none⟩ = some (.int .u32 (x.p : Int)) := ⟨cell_of h 0, cell_of h 1⟩
theorem BL.below {w w' : World} {q : Nat} {x : Lab} (h : BL w q x) (hb : Below w.heap.size w w') : BL w' q x := (hb.block q (Array.getElem?_eq_some_iff.1 h).1).trans h
theorem BL.new (w : World) (x : Lab) : BL (w.alloc (.cells #[.int .i64 x.l, .int .u32 (x.p : Int)] 47)) w.heap.size x := heap_alloc_new w _
theorem chkL_cases (x : Lab) : (chkL x = 0 ∧ 0 ≤ x.l ∧ x.l ≤ 7) ∨ (chkL x = 9 ∧ ¬ (0 ≤ x.l ∧ x.l ≤ 7)) := by
  unfold chkL
  split
  · exact .inl ⟨rfl, by assumption⟩
  · exact .inr ⟨rfl, by assumption⟩
set_option maxHeartbeats 8000000 in
set_option maxRecDepth 100000 in
theorem veilBytes_any (x : Lab) (hp : x.p < 4294967296) (w : World) :
    Calls Try.prog 49 #[x.v] w fun e w' => TwoB w w' e (lb x).1 (lb x).2 := by
  obtain ⟨X, hX⟩ : ∃ X, X = lb x := ⟨_, rfl⟩
  rw [← hX]
  unfold lb at hX
  have HX := Lib.hid hX
  have HC := Lib.hid (veilCheck_any x)
  have HB := Lib.hid ((bel0 w).alloc (Nat.le_refl _) (.cells #[.int .i64 x.l, .int .u32 (x.p : Int)] 47))
  have BX := Lib.hid (BL.new w x)
  obtain ⟨wa, hwa⟩ : ∃ wa, wa = w.alloc (.cells #[.int .i64 x.l, .int .u32 (x.p : Int)] 47) := ⟨_, rfl⟩
  rw [← hwa] at HB BX
  clear hX
  rcases chkL_cases x with ⟨h0, h1, h2⟩ | ⟨h0, h1⟩
  · rw [h0] at HC HX
    have HX1 := Lib.hid (HX.out.trans (if_pos rfl))
    clear h0 HX
    obtain ⟨l, p⟩ := x
    unfold Lab.v at *
    simp only at *
    have y2 : Byt (Dig.enc p) := Dig.enc_byt _ (by omega)
    have z2 : (Dig.enc p).length ≤ 8 := by rw [Dig.length_enc]; exact Dig.sz_le _
    have z1 : (Dig.enc l.toNat).length ≤ 8 := by rw [Dig.length_enc]; exact Dig.sz_le _
    have Y2 := Lib.hid y2
    have Z2 := Lib.hid z2
    have Z1 := Lib.hid z1
    have P0 := Lib.hid (fun w => U_any l w (by omega) (by omega))
    have P1 := Lib.hid (fun w => U_any (p : Int) w (by omega) (by omega))
    rw [Int.toNat_natCast] at P1
    have zp : (p : Int) < 4294967296 := by omega
    clear y2 z2 z1
    go_enter Try.func49, Try.ntmps49
    go_wp2_with fail
    rw [← hwa]
    refine (HC.out _).mono ?_
    rintro e w1 ⟨rfl, hb1⟩
    have BX1 := Lib.hid (BX.out.below hb1)
    obtain ⟨ca0, ca1⟩ := BX1.out.cells
    have hb01 := nx HB.out hb1
    go_wp2_with fail
    refine (P0.out _).mono ?_
    rintro e w2 ⟨v1, rfl, ho1, hb2⟩
    have O1 := Lib.hid (ownsRow_base ho1 hb01.size)
    have BX2 := Lib.hid (BX1.out.below hb2)
    clear ca0 ca1 ho1
    obtain ⟨ca0, ca1⟩ := BX2.out.cells
    have hb02 := nx hb01 hb2
    go_wp2_with fail
    refine (P1.out _).mono ?_
    intro e w3 hh
    obtain ⟨A2, n2, c2, rfl, hB, hb3⟩ := hh.open Y2.out (by have := Z2.out; omega)
    have B2 := Lib.hid hB
    have O3 := Lib.hid (ownsRow_below O1.out hb3)
    have hb03 := nx hb02 hb3
    clear hh hB ca0 ca1
    go_wp2_with (at_builtin; refine append_bytes rfl (.tmp 29) (.tmp 30) rfl w.heap.size v1 (Dig.enc l.toNat) (Dig.enc p) rfl O3.out A2 _ c2 rfl B2.out (by have := Z1.out; have := Z2.out; omega) hb03.size ?_; intro v4 w4 ho hg hv)
    have hb04 := grown_below hb03 hg (own_block O3.out)
    go_wp2_with fail
    go_ret2
    rw [HX1.out]
    exact ⟨_, rfl, ho, hb04⟩
  · rw [h0] at HC HX
    have HX1 := Lib.hid (HX.out.trans (if_neg (by decide)))
    clear h0 HX
    obtain ⟨l, p⟩ := x
    unfold Lab.v at *
    simp only at *
    go_enter Try.func49, Try.ntmps49
    go_wp2_with fail
    rw [← hwa]
    refine (HC.out _).mono ?_
    rintro e w1 ⟨rfl, hb1⟩
    go_wp2_with fail
    go_ret2
    rw [HX1.out]
    exact ⟨_, rfl, World.ownsRow_nil _ _ _ _, nx HB.out hb1⟩
end Go.Proofs.Ytmnabhennibddaa
