/- A value's bytes: the contracts of the two Bytes. No conditions. -/
import Derived.Test.YtmnabhennibddaaGD05
import Derived.Test.YtmnabhennibddaaGD08
import Derived.Test.YtmnabhennibddaaGD09
set_option linter.unusedSimpArgs false
set_option linter.unusedVariables false
namespace Go.Proofs.Ytmnabhennibddaa
open Go.RowKit

/-- A value's bytes behind its kind. -/
def vp (x : Val) : List Nat := if x.k = 1 then Dig.enc (zig x.n) else if x.k = 2 then Dig.enc x.b.size ++ sb x.b else Dig.enc x.n.toNat
/-- What Bytes answers. -/
def vb (x : Val) : List Nat × Int := if chkV x = 0 then (Dig.enc x.k.toNat ++ vp x, 0) else ([], 80)
theorem chk_cases {x : Val} (h : chkV x = 0) : (x.k = 1 ∧ -9007199254740991 ≤ x.n ∧ x.n ≤ 9007199254740991 ∧ x.b = ⟨#[]⟩) ∨ (x.k = 2 ∧ x.n = 0 ∧ x.b.size ≤ 64) ∨ (x.k = 3 ∧ (x.n = 0 ∨ x.n = 1) ∧ x.b = ⟨#[]⟩) := by
  unfold chkV at h
  split at h
  · assumption
  · simp at h
theorem chk_80 {x : Val} (h : chkV x ≠ 0) : chkV x = 80 := by
  unfold chkV at h ⊢
  split at h
  · exact absurd rfl h
  · rename_i h1; rw [if_neg h1]
/-- A boxed value. -/
def BV (w : World) (q : Nat) (x : Val) : Prop := w.heap[q]? = some (.cells #[.int .i64 x.k, .int .i64 x.n, .string x.b] 42 (0, 0))
theorem BV.cells {w : World} {q : Nat} {x : Val} (h : BV w q x) : w.cell? ⟨q, 0, none⟩ = some (.int .i64 x.k) ∧ w.cell? ⟨q, 1, none⟩ = some (.int .i64 x.n) ∧ w.cell? ⟨q, 2, none⟩ = some (.string x.b) :=
  ⟨cell_of h 0, cell_of h 1, cell_of h 2⟩
theorem BV.below {w w' : World} {q : Nat} {x : Val} (h : BV w q x) (hb : Below w.heap.size w w') : BV w' q x := (hb.block q (Array.getElem?_eq_some_iff.1 h).1).trans h
theorem BV.new (w : World) (x : Val) : BV (w.alloc (.cells #[.int .i64 x.k, .int .i64 x.n, .string x.b] 42)) w.heap.size x := heap_alloc_new w _
set_option maxHeartbeats 8000000 in
set_option maxRecDepth 100000 in
theorem bytesV_any (x : Val) (w : World) :
    Calls Try.prog 39 #[x.v] w fun e w' => TwoB w w' e (vb x).1 (vb x).2 := by
  obtain ⟨X, hX⟩ : ∃ X, X = vb x := ⟨_, rfl⟩
  rw [← hX]
  unfold vb at hX
  have HX := Lib.hid hX
  have HC := Lib.hid (check_any x)
  have HB := Lib.hid ((bel0 w).alloc (Nat.le_refl _) (.cells #[.int .i64 x.k, .int .i64 x.n, .string x.b] 42))
  have BX := Lib.hid (BV.new w x)
  obtain ⟨wa, hwa⟩ : ∃ wa, wa = w.alloc (.cells #[.int .i64 x.k, .int .i64 x.n, .string x.b] 42) := ⟨_, rfl⟩
  rw [← hwa] at HB BX
  clear hX
  by_cases h0 : chkV x = 0
  · have HX1 := Lib.hid (HX.out.trans (if_pos h0))
    rw [h0] at HC
    have hc := chk_cases h0
    clear h0 HX
    unfold vp at HX1
    obtain ⟨k, n, b⟩ := x
    unfold Val.v at *
    simp only at *
    rcases hc with hc | hc | hc
    · obtain ⟨rfl, hn1, hn2, rfl⟩ := hc
      have hx : X = (Dig.enc 1 ++ (Dig.enc (zig n)), 0) := HX1.out
      have HX2 := Lib.hid hx
      have y2 : Byt ((Dig.enc (zig n))) := Dig.enc_byt _ (by have := zig_le n hn1 hn2; omega)
      have z2 : ((Dig.enc (zig n)) : List Nat).length ≤ 80 := by rw [Dig.length_enc]; have := Dig.sz_le (zig n); omega
      have z1 : (Dig.enc 1).length ≤ 8 := by rw [Dig.length_enc]; exact Dig.sz_le _
      have Y2 := Lib.hid y2
      have Z2 := Lib.hid z2
      have Z1 := Lib.hid z1
      clear HX1 hx y2 z2 z1
      have P0 := Lib.hid (fun w => U_any 1 w (by omega) (by omega))
      rw [show (1 : Int).toNat = 1 from rfl] at P0
      have P1 := Lib.hid (fun w => S_any n w hn1 hn2)
      go_enter Try.func39, Try.ntmps39
      go_wp2_with fail
      rw [← hwa]
      refine (HC.out _).mono ?_
      rintro e w1 ⟨rfl, hb1⟩
      have BX1 := Lib.hid (BX.out.below hb1)
      obtain ⟨ca0, ca1, ca2⟩ := BX1.out.cells
      have hb01 := nx HB.out hb1
      go_wp2_with fail
      refine (P0.out _).mono ?_
      rintro e w2 ⟨v1, rfl, ho1, hb2⟩
      have O1 := Lib.hid (ownsRow_base ho1 hb01.size)
      have BX2 := Lib.hid (BX1.out.below hb2)
      clear ca0 ca1 ca2 ho1
      obtain ⟨ca0, ca1, ca2⟩ := BX2.out.cells
      have hb02 := nx hb01 hb2
      go_wp2_with fail
      refine (P1.out _).mono ?_
      intro e w3 hh
      obtain ⟨A2, n2, c2, rfl, hB, hb3⟩ := hh.open Y2.out (by have := Z2.out; omega)
      have B2 := Lib.hid hB
      have O3 := Lib.hid (ownsRow_below O1.out hb3)
      have hb03 := nx hb02 hb3
      have BX3 := Lib.hid (BX2.out.below hb3)
      clear hh hB ca0 ca1 ca2
      obtain ⟨ca0, ca1, ca2⟩ := BX3.out.cells
      go_wp2_with (at_builtin; refine append_bytes rfl (.tmp 45) (.tmp 46) rfl w.heap.size v1 (Dig.enc 1) (Dig.enc (zig n)) rfl O3.out A2 _ c2 rfl B2.out (by have := Z1.out; have := Z2.out; omega) hb03.size ?_; intro v4 w4 ho hg hv)
      have hb04 := grown_below hb03 hg (own_block O3.out)
      go_wp2_with fail
      go_ret2
      rw [HX2.out]
      exact ⟨_, rfl, ho, hb04⟩
    · obtain ⟨rfl, rfl, hb64⟩ := hc
      have hx : X = (Dig.enc 2 ++ (Dig.enc b.size ++ sb b), 0) := HX1.out
      have HX2 := Lib.hid hx
      have y2 : Byt ((Dig.enc b.size ++ sb b)) := (show Byt (Dig.enc b.size) from Dig.enc_byt _ (by omega)).append (sb_byt b)
      have z2 : ((Dig.enc b.size ++ sb b) : List Nat).length ≤ 80 := by rw [List.length_append, Dig.length_enc, sb_length]; have := Dig.sz_le b.size; omega
      have z1 : (Dig.enc 2).length ≤ 8 := by rw [Dig.length_enc]; exact Dig.sz_le _
      have Y2 := Lib.hid y2
      have Z2 := Lib.hid z2
      have Z1 := Lib.hid z1
      clear HX1 hx y2 z2 z1
      have P0 := Lib.hid (fun w => U_any 2 w (by omega) (by omega))
      rw [show (2 : Int).toNat = 2 from rfl] at P0
      have P1 := Lib.hid (fun w => Text_any b w (by omega))
      go_enter Try.func39, Try.ntmps39
      go_wp2_with fail
      rw [← hwa]
      refine (HC.out _).mono ?_
      rintro e w1 ⟨rfl, hb1⟩
      have BX1 := Lib.hid (BX.out.below hb1)
      obtain ⟨ca0, ca1, ca2⟩ := BX1.out.cells
      have hb01 := nx HB.out hb1
      go_wp2_with fail
      refine (P0.out _).mono ?_
      rintro e w2 ⟨v1, rfl, ho1, hb2⟩
      have O1 := Lib.hid (ownsRow_base ho1 hb01.size)
      have BX2 := Lib.hid (BX1.out.below hb2)
      clear ca0 ca1 ca2 ho1
      obtain ⟨ca0, ca1, ca2⟩ := BX2.out.cells
      have hb02 := nx hb01 hb2
      go_wp2_with fail
      refine (P1.out _).mono ?_
      intro e w3 hh
      obtain ⟨A2, n2, c2, rfl, hB, hb3⟩ := hh.open Y2.out (by have := Z2.out; omega)
      have B2 := Lib.hid hB
      have O3 := Lib.hid (ownsRow_below O1.out hb3)
      have hb03 := nx hb02 hb3
      have BX3 := Lib.hid (BX2.out.below hb3)
      clear hh hB ca0 ca1 ca2
      obtain ⟨ca0, ca1, ca2⟩ := BX3.out.cells
      go_wp2_with (at_builtin; refine append_bytes rfl (.tmp 45) (.tmp 46) rfl w.heap.size v1 (Dig.enc 2) (Dig.enc b.size ++ sb b) rfl O3.out A2 _ c2 rfl B2.out (by have := Z1.out; have := Z2.out; omega) hb03.size ?_; intro v4 w4 ho hg hv)
      have hb04 := grown_below hb03 hg (own_block O3.out)
      go_wp2_with fail
      go_ret2
      rw [HX2.out]
      exact ⟨_, rfl, ho, hb04⟩
    · obtain ⟨rfl, hn, rfl⟩ := hc
      have hx : X = (Dig.enc 3 ++ (Dig.enc n.toNat), 0) := HX1.out
      have HX2 := Lib.hid hx
      have y2 : Byt ((Dig.enc n.toNat)) := Dig.enc_byt _ (by rcases hn with rfl | rfl <;> decide)
      have z2 : ((Dig.enc n.toNat) : List Nat).length ≤ 80 := by rw [Dig.length_enc]; have := Dig.sz_le n.toNat; omega
      have z1 : (Dig.enc 3).length ≤ 8 := by rw [Dig.length_enc]; exact Dig.sz_le _
      have Y2 := Lib.hid y2
      have Z2 := Lib.hid z2
      have Z1 := Lib.hid z1
      clear HX1 hx y2 z2 z1
      have P0 := Lib.hid (fun w => U_any 3 w (by omega) (by omega))
      rw [show (3 : Int).toNat = 3 from rfl] at P0
      have P1 := Lib.hid (fun w => U_any n w (by omega) (by omega))
      go_enter Try.func39, Try.ntmps39
      go_wp2_with fail
      rw [← hwa]
      refine (HC.out _).mono ?_
      rintro e w1 ⟨rfl, hb1⟩
      have BX1 := Lib.hid (BX.out.below hb1)
      obtain ⟨ca0, ca1, ca2⟩ := BX1.out.cells
      have hb01 := nx HB.out hb1
      go_wp2_with fail
      refine (P0.out _).mono ?_
      rintro e w2 ⟨v1, rfl, ho1, hb2⟩
      have O1 := Lib.hid (ownsRow_base ho1 hb01.size)
      have BX2 := Lib.hid (BX1.out.below hb2)
      clear ca0 ca1 ca2 ho1
      obtain ⟨ca0, ca1, ca2⟩ := BX2.out.cells
      have hb02 := nx hb01 hb2
      go_wp2_with fail
      refine (P1.out _).mono ?_
      intro e w3 hh
      obtain ⟨A2, n2, c2, rfl, hB, hb3⟩ := hh.open Y2.out (by have := Z2.out; omega)
      have B2 := Lib.hid hB
      have O3 := Lib.hid (ownsRow_below O1.out hb3)
      have hb03 := nx hb02 hb3
      have BX3 := Lib.hid (BX2.out.below hb3)
      clear hh hB ca0 ca1 ca2
      obtain ⟨ca0, ca1, ca2⟩ := BX3.out.cells
      go_wp2_with (at_builtin; refine append_bytes rfl (.tmp 45) (.tmp 46) rfl w.heap.size v1 (Dig.enc 3) (Dig.enc n.toNat) rfl O3.out A2 _ c2 rfl B2.out (by have := Z1.out; have := Z2.out; omega) hb03.size ?_; intro v4 w4 ho hg hv)
      have hb04 := grown_below hb03 hg (own_block O3.out)
      go_wp2_with fail
      go_ret2
      rw [HX2.out]
      exact ⟨_, rfl, ho, hb04⟩
  · have HX1 := Lib.hid (HX.out.trans (if_neg h0))
    have h80 := chk_80 h0
    rw [h80] at HC
    clear h0 HX h80
    obtain ⟨k, n, b⟩ := x
    unfold Val.v at *
    simp only at *
    go_enter Try.func39, Try.ntmps39
    go_wp2_with fail
    rw [← hwa]
    refine (HC.out _).mono ?_
    rintro e w1 ⟨rfl, hb1⟩
    go_wp2_with fail
    go_ret2
    rw [HX1.out]
    exact ⟨_, rfl, World.ownsRow_nil _ _ _ _, nx HB.out hb1⟩
end Go.Proofs.Ytmnabhennibddaa
