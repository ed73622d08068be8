/- The statements' own helpers on values: none, is. No conditions. -/
import Derived.Test.YtmnabhennibddaaGD27
import Derived.Test.YtmnabhennibddaaGD10
import Derived.Test.YtmnabhennibddaaGD20
import Derived.Test.YtmnabhennibddaaGD13
import Derived.Deep.RegionHeld3
set_option linter.unusedSimpArgs false
set_option linter.unusedVariables false
namespace Go.Proofs.Ytmnabhennibddaa
open Go.RowKit

set_option maxHeartbeats 8000000 in
set_option maxRecDepth 100000 in
theorem noneV_any (x : Val) (hx : chkV x = 80) (w : World) :
    Calls Try.prog 19 #[x.v] w fun e w' => e = .returned (.bool true) ∧ Below w.heap.size w w' := by
  have HC := Lib.hid (check_any x)
  rw [hx] at HC
  have HBY := Lib.hid (bytesV_any x)
  rw [show vb x = ([], 80) from if_neg (by rw [hx]; decide)] at HBY
  have HB := Lib.hid ((bel0 w).alloc (Nat.le_refl _) (.cells #[.int .i64 x.k, .int .i64 x.n, .string x.b] 42))
  have BX := Lib.hid (BV.new w x)
  obtain ⟨wa, hwa⟩ : ∃ wa, wa = w.alloc (.cells #[.int .i64 x.k, .int .i64 x.n, .string x.b] 42) := ⟨_, rfl⟩
  rw [← hwa] at HB BX
  clear hx
  obtain ⟨k, n, b⟩ := x
  unfold Val.v at *
  simp only at *
  go_enter Try.func19, Try.ntmps19
  go_wp2_with fail
  rw [← hwa]
  refine (HBY.out _).mono ?_
  intro r w1 hh
  obtain ⟨A, m, c, rfl, hB, hb1⟩ := hh.open (by intro y hy; cases hy) (by simp)
  obtain rfl : m = 0 := hB.len
  have BX1 := BX.out.below hb1
  obtain ⟨c0, c1, c2⟩ := BX1.cells
  simp only at c0 c1 c2
  clear hh hB BX1
  go_wp2_with fail
  refine (HC.out _).mono ?_
  rintro r w2 ⟨rfl, hb2⟩
  go_wp2_with fail
  go_ret
  exact ⟨rfl, nx (nx HB.out hb1) hb2⟩

theorem isS {W a : World} {q g : Nat} {x : Val} (h : BV W q x) (nq : q ≠ g) (hg : W.grownBy a (some g)) :
    W.grownBy a (some g) ∧ a.cell? ⟨q, 0, none⟩ = some (.int .i64 x.k) ∧ a.cell? ⟨q, 1, none⟩ = some (.int .i64 x.n) ∧ a.cell? ⟨q, 2, none⟩ = some (.string x.b) := by
  have := (h.grown hg (fun j hj => by cases hj; exact nq)).cells
  exact ⟨hg, this.1, this.2.1, this.2.2⟩
set_option maxHeartbeats 16000000 in
set_option maxRecDepth 100000 in
theorem isV_any (x : Val) (hx : chkV x = 0) (ht : tkV 0 (vb x).1 = (x, 0, [])) {A : Option Addr} {n c : Nat} {w : World} (hA : BS w A n c (vb x).1) :
    Calls Try.prog 59 #[x.v, .slice A n c] w fun e w' => e = .returned (.bool true) ∧ Below w.heap.size w w' := by
  have HBY := Lib.hid (bytesV_any x)
  have hcode : (vb x).2 = 0 := by unfold vb; rw [if_pos hx]
  rw [hcode] at HBY
  obtain rfl := hA.len
  have HL := Lib.hid hA
  have HTK := Lib.hid (fun (w : World) (lo g : Nat) (h : Rdr w lo g 0 (vb x).1) => takeV_any h)
  rw [ht] at HTK
  have HEQ : ∀ w, (Op.equalIn 10000 42 (.agg #[.int .i64 x.k, .int .i64 x.n, .string x.b]) (.agg #[.int .i64 x.k, .int .i64 x.n, .string x.b])).run Try.prog w = .ok true w := fun w => by
    rw [show (10000 : Nat) = 9998 + 2 from rfl, eqV_run, (eqV_iff x x).2 rfl]
  have HB := Lib.hid ((bel0 w).alloc (Nat.le_refl _) (.cells #[.int .i64 x.k, .int .i64 x.n, .string x.b] 42))
  have BX := Lib.hid (BV.new w x)
  obtain ⟨wa, hwa⟩ : ∃ wa, wa = w.alloc (.cells #[.int .i64 x.k, .int .i64 x.n, .string x.b] 42) := ⟨_, rfl⟩
  rw [← hwa] at HB BX
  generalize (vb x).1 = L at *
  generalize hLl : L.length = Ln at *
  have HLN := Lib.hid hLl
  clear hx ht hcode hA hLl
  obtain ⟨k, z, b⟩ := x
  unfold Val.v at *
  simp only at *
  go_enter Try.func59, Try.ntmps59
  go_wp2_with fail
  rw [← hwa]
  refine (HBY.out _).mono ?_
  intro r w1 hh
  obtain ⟨A1, n1, c1, rfl, hB1, hb1⟩ := hh.open HL.out.byt HL.out.lim
  have B1 := Lib.hid hB1
  have BX1 := Lib.hid (BX.out.below hb1)
  have hb01 := nx HB.out hb1
  clear hh hB1
  go_wp2_with fail
  refine (New_any A _ c L _ (HL.out.below hb01)).mono ?_
  rintro r w2 ⟨g, rfl, hr, hb2⟩
  have R2 := Lib.hid hr
  have hlo := hr.lt
  have hb02 := nx hb01 hb2
  have BX2 := Lib.hid (BX1.out.below hb2)
  have hqg : w.heap.size ≠ g := by
    have := (Array.getElem?_eq_some_iff.1 BX1.out).1
    omega
  have SO := Lib.hid (fun a (hg : w2.grownBy a (some g)) => isS BX2.out hqg hg)
  have HQW := Lib.hid (show w.heap.size ≤ g by have := hb01.size; omega)
  clear hr hlo
  go_wp2_with fail
  go_region_held3 (fun a => w2.grownBy a (some g) ∧ a.cell? ⟨w.heap.size, 0, none⟩ = some (.int .i64 k) ∧ a.cell? ⟨w.heap.size, 1, none⟩ = some (.int .i64 z) ∧ a.cell? ⟨w.heap.size, 2, none⟩ = some (.string b))
    (first | (with_reducible exact SO.out _ (World.grownBy.trans (And.left (b := _) (by assumption)) (by assumption))) | (with_reducible exact SO.out _ (gbelow (And.left (b := _) (by assumption)) (by assumption))) | assumption | exact SO.out _ (grown_of_below (bel0 _).drew _))
    (first
      | (go_at_call 12; (with_reducible refine (eqBytes_any A1 A n1 c1 Ln c L L _ ((B1.out.below hb2).below (bel0 _).drew) ((HL.out.below hb02).below (bel0 _).drew)).mono ?_); rintro r w3 ⟨rfl, hb3⟩)
      | (go_at_call 23; (with_reducible refine (HTK.out _ _ g ((R2.out.below (bel0 _).drew).below hb3)).mono ?_); rintro r w4 ⟨rfl, hr4, hg4⟩)
      | (go_at_call 24; (with_reducible refine (Err_any hr4).mono ?_); rintro r w5 ⟨rfl, rfl⟩)
      | (go_at_call 62; (with_reducible refine (Left_any hr4).mono ?_); rintro r w6 ⟨rfl, rfl⟩))
  rename_i hK
  have hG := And.left (b := _) hK
  clear hK
  go_wp2_with fail
  go_ret
  exact ⟨rfl, grown_bel hb02 hG HQW.out⟩

/-- The attribute of the chapter's example. -/
def exA : Att := ⟨⟨#[97]⟩, ⟨1, 0⟩, ⟨3, 0, ⟨#[]⟩⟩⟩
theorem exA_may : mayA [exA] = 0 := by decide +kernel
theorem exA_bytes : atP [exA] = ([1, 1, 97, 1, 0, 3, 0], 0) := by decide +kernel
theorem exA_take : tkAs 0 [1, 1, 97, 1, 0, 3, 0] = ([exA], 0, []) := by kernel_rfl
theorem exV1 : chkV ⟨1, -1, ⟨#[]⟩⟩ = 0 ∧ (vb ⟨1, -1, ⟨#[]⟩⟩).1 = [1, 1] := by decide +kernel
theorem exV2 : chkV ⟨2, 0, ⟨#[97, 98]⟩⟩ = 0 ∧ (vb ⟨2, 0, ⟨#[97, 98]⟩⟩).1 = [2, 2, 97, 98] := by decide +kernel
theorem exV3 : chkV ⟨3, 1, ⟨#[]⟩⟩ = 0 ∧ (vb ⟨3, 1, ⟨#[]⟩⟩).1 = [3, 1] := by decide +kernel
theorem exT1 : tkV 0 [1, 1] = (⟨1, -1, ⟨#[]⟩⟩, 0, []) := by kernel_rfl
theorem exT2 : tkV 0 [2, 2, 97, 98] = (⟨2, 0, ⟨#[97, 98]⟩⟩, 0, []) := by kernel_rfl
theorem exT3 : tkV 0 [3, 1] = (⟨3, 1, ⟨#[]⟩⟩, 0, []) := by kernel_rfl
theorem exN1 : chkV ⟨3, 2, ⟨#[]⟩⟩ = 80 := by decide +kernel
theorem exN2 : chkV ⟨1, 0, ⟨#[120]⟩⟩ = 80 := by decide +kernel
theorem exN3 : chkV ⟨4, 0, ⟨#[]⟩⟩ = 80 := by decide +kernel
theorem AS.one (w : World) (a : Att) (hp : a.lab.p < 4294967296) : AS (w.alloc (.cells #[.string a.name, .int .i64 a.lab.l, .int .u32 (a.lab.p : Int), .int .i64 a.val.k, .int .i64 a.val.n, .string a.val.b] 49)) (some ⟨w.heap.size, 0, none⟩) 1 1 [a] := by
  refine ⟨rfl, Nat.le_refl _, (by intro h; cases h), ?_, ?_, by simp⟩
  · intro i hi
    refine ⟨_, rfl, ?_⟩
    rw [addr_add, Nat.zero_add, cell_of (heap_alloc_new w _) i]
    show (a.cells.toArray)[i]? = _
    rw [List.getElem?_toArray]
    have hi2 : i < a.cells.length := by simpa [acs] using hi
    rw [List.getElem?_eq_getElem hi2]
    simp [acs]
  · intro x hx
    simp only [List.mem_singleton] at hx
    subst hx
    exact hp

set_option maxHeartbeats 16000000 in
set_option maxRecDepth 100000 in
theorem works08_any (w : World) : Calls Try.prog 26 #[] w fun e w' => e = .returned (.bool true) ∧ Below w.heap.size w w' := by
  have I1 : Hid (∀ (w : World) (A : Option Addr) (n c : Nat), BS w A n c [1, 1] → Calls Try.prog 59 #[.agg #[.int .i64 1, .int .i64 (-1), .string ⟨#[]⟩], .slice A n c] w fun e w' => e = .returned (.bool true) ∧ Below w.heap.size w w') :=
    Lib.hid (fun w A n c h => isV_any ⟨1, -1, ⟨#[]⟩⟩ exV1.1 (by rw [exV1.2]; exact exT1) (by rw [exV1.2]; exact h))
  have I2 : Hid (∀ (w : World) (A : Option Addr) (n c : Nat), BS w A n c [2, 2, 97, 98] → Calls Try.prog 59 #[.agg #[.int .i64 2, .int .i64 0, .string ⟨#[97, 98]⟩], .slice A n c] w fun e w' => e = .returned (.bool true) ∧ Below w.heap.size w w') :=
    Lib.hid (fun w A n c h => isV_any ⟨2, 0, ⟨#[97, 98]⟩⟩ exV2.1 (by rw [exV2.2]; exact exT2) (by rw [exV2.2]; exact h))
  have I3 : Hid (∀ (w : World) (A : Option Addr) (n c : Nat), BS w A n c [3, 1] → Calls Try.prog 59 #[.agg #[.int .i64 3, .int .i64 1, .string ⟨#[]⟩], .slice A n c] w fun e w' => e = .returned (.bool true) ∧ Below w.heap.size w w') :=
    Lib.hid (fun w A n c h => isV_any ⟨3, 1, ⟨#[]⟩⟩ exV3.1 (by rw [exV3.2]; exact exT3) (by rw [exV3.2]; exact h))
  have N1 := Lib.hid (noneV_any ⟨3, 2, ⟨#[]⟩⟩ exN1)
  have N2 := Lib.hid (noneV_any ⟨1, 0, ⟨#[120]⟩⟩ exN2)
  have N3 := Lib.hid (noneV_any ⟨4, 0, ⟨#[]⟩⟩ exN3)
  unfold Val.v at N1 N2 N3
  simp only at N1 N2 N3
  have AL := Lib.hid (AS.one w exA (by decide))
  go_enter Try.func26, Try.ntmps26
  go_wp2_with fail
  obtain ⟨wl, hwl⟩ : ∃ wl, wl = w.alloc (.cells #[.string ⟨#[97]⟩, .int .i64 1, .int .u32 0, .int .i64 3, .int .i64 0, .string ⟨#[]⟩] 49) := ⟨_, rfl⟩
  have AL1 : AS wl (some ⟨w.heap.size, 0, none⟩) 1 1 [exA] := by rw [hwl]; exact AL.out
  have hbl : Below w.heap.size w wl := by rw [hwl]; exact (bel0 w).alloc (Nat.le_refl _) _
  have hsz : wl.heap.size = w.heap.size + 1 := by rw [hwl]; simp
  rw [← hwl]
  clear hwl AL
  have WB : BS (wl.alloc (.cells #[.int .u8 1, .int .u8 1, .int .u8 97, .int .u8 1, .int .u8 0, .int .u8 3, .int .u8 0] 5)) (some ⟨wl.heap.size, 0, none⟩) 7 7 [1, 1, 97, 1, 0, 3, 0] := BS.alloc wl [1, 1, 97, 1, 0, 3, 0] _ _ (by decide) (by decide)
  obtain ⟨w1, hw1⟩ : ∃ w1, w1 = wl.alloc (.cells #[.int .u8 1, .int .u8 1, .int .u8 97, .int .u8 1, .int .u8 0, .int .u8 3, .int .u8 0] 5) := ⟨_, rfl⟩
  have AL2 := Lib.hid (show AS w1 (some ⟨w.heap.size, 0, none⟩) 1 1 [exA] by rw [hw1]; exact AL1.below ((bel0 wl).alloc (Nat.le_refl _) _))
  have hb1 : Below w.heap.size w w1 := by rw [hw1]; exact hbl.alloc hbl.size _
  rw [← hw1] at WB ⊢
  rw [hsz] at WB
  have WB1 := Lib.hid WB
  clear hw1 AL1 hbl WB
  refine (attrs_any AL2.out).mono ?_
  rw [exA_bytes]
  intro r w2 hh
  obtain ⟨A2, n2, c2, rfl, hB2, hb2⟩ := hh.open (by decide) (by decide)
  have B2 := Lib.hid hB2
  have hb12 := nx hb1 hb2
  clear hh hB2
  go_wp2_with fail
  refine (New_any _ _ _ _ _ (WB1.out.below hb2)).mono ?_
  rintro r w3 ⟨g, rfl, hr, hb3⟩
  have R3 := Lib.hid hr
  have HG := Lib.hid hr.lt
  have hb13 := nx hb12 hb3
  clear hr
  go_wp2_with fail
  refine (takeAs_any R3.out).mono ?_
  rw [exA_take]
  rintro r w4 ⟨v, rfl, ho, hr, hg⟩
  obtain ⟨A4, n4, c4, rfl, hAS⟩ := own_as (l := [exA]) ho (by intro a ha; simp only [List.mem_singleton] at ha; subst ha; decide) (by decide)
  have S4 := Lib.hid hAS
  have R4 := Lib.hid hr
  have hb24 := grown_bel hb3 hg HG.out.1
  have B4 := Lib.hid (B2.out.below hb24)
  have W4 := Lib.hid (WB1.out.below (nx hb2 hb24))
  have AL4 := Lib.hid (AL2.out.below (nx hb2 hb24))
  have hb14 := nx hb12 hb24
  clear ho hr hg hAS hb13 hb24 hb3
  simp only at R4
  go_wp2_with fail
  refine (I1.out _ _ _ _ (BS.alloc w4 [1, 1] _ _ (by decide) (by decide))).mono ?_
  rintro r w5 ⟨rfl, hb5⟩
  have hb45 := nxA (bel0 w4) hb5
  clear hb5
  go_wp2_with fail
  refine (I2.out _ _ _ _ (BS.alloc w5 [2, 2, 97, 98] _ _ (by decide) (by decide))).mono ?_
  rintro r w6 ⟨rfl, hb6⟩
  have hb46 := nx hb45 (nxA (bel0 w5) hb6)
  clear hb6 hb45
  go_wp2_with fail
  refine (I3.out _ _ _ _ (BS.alloc w6 [3, 1] _ _ (by decide) (by decide))).mono ?_
  rintro r w7 ⟨rfl, hb7⟩
  have hb47 := nx hb46 (nxA (bel0 w6) hb7)
  clear hb7 hb46
  go_wp2_with fail
  refine (N1.out _).mono ?_
  rintro r w8 ⟨rfl, hb8⟩
  go_wp2_with fail
  refine (N2.out _).mono ?_
  rintro r w9 ⟨rfl, hb9⟩
  go_wp2_with fail
  refine (N3.out _).mono ?_
  rintro r w10 ⟨rfl, hb10⟩
  have hb410 := nx (nx (nx hb47 hb8) hb9) hb10
  clear hb8 hb9 hb10 hb47
  go_wp2_with fail
  refine (eqBytes_any A2 _ n2 c2 7 7 _ _ _ (B4.out.below hb410) (W4.out.below hb410)).mono ?_
  rintro r w11 ⟨rfl, hb11⟩
  go_wp2_with fail
  refine (same_any (AL4.out.below (nx hb410 hb11)) (S4.out.below (nx hb410 hb11))).mono ?_
  rintro r w12 ⟨bb, rfl, hbb, hb12'⟩
  obtain rfl : bb = true := hbb.2 rfl
  have hb412 := nx (nx hb410 hb11) hb12'
  go_wp2_with fail
  refine (Err_any (R4.out.below hb412)).mono ?_
  rintro r w13 ⟨rfl, rfl⟩
  go_wp2_with fail
  go_ret
  exact ⟨rfl, nx hb14 hb412⟩
end Go.Proofs.Ytmnabhennibddaa
