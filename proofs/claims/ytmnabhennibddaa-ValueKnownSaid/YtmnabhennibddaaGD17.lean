/- The two CheckAttr: their contracts. No conditions. -/
import Derived.Test.YtmnabhennibddaaGD16
import Derived.Test.YtmnabhennibddaaGD09
set_option linter.unusedSimpArgs false
set_option linter.unusedVariables false
namespace Go.Proofs.Ytmnabhennibddaa
open Go.RowKit

/-- An attribute. -/
structure Att where
  name : ByteArray
  lab : Lab
  val : Val
def Att.cells (x : Att) : List Value := [.string x.name, .int .i64 x.lab.l, .int .u32 (x.lab.p : Int), .int .i64 x.val.k, .int .i64 x.val.n, .string x.val.b]
def Att.v (x : Att) : Value := .agg x.cells.toArray
def chkA (x : Att) : Int := if nm (sb x.name) = true ∧ chkL x.lab = 0 ∧ chkV x.val = 0 then 0 else 80
set_option maxHeartbeats 8000000 in
set_option maxRecDepth 100000 in
theorem checkAttr_any (x : Att) (w : World) :
    Calls Try.prog 77 #[x.v] w fun e w' => e = .returned (.int .i64 (chkA x)) ∧ Below w.heap.size w w' := by
  obtain ⟨s, ⟨l, p⟩, ⟨k, n, b⟩⟩ := x
  obtain ⟨X, hX⟩ : ∃ X, X = chkA ⟨s, ⟨l, p⟩, ⟨k, n, b⟩⟩ := ⟨_, rfl⟩
  rw [← hX]
  unfold chkA at hX
  have HN := Lib.hid (isName_any s)
  have HL := Lib.hid (veilCheck_any ⟨l, p⟩)
  have HV := Lib.hid (check_any ⟨k, n, b⟩)
  have HB := Lib.hid ((bel0 w).alloc (Nat.le_refl _) (.cells #[.string s, .int .i64 l, .int .u32 (p : Int), .int .i64 k, .int .i64 n, .string b] 49))
  unfold Att.v Att.cells
  unfold Lab.v at HL
  unfold Val.v at HV
  simp only at HL HV hX ⊢
  generalize nm (sb s) = c1 at *
  generalize chkL ⟨l, p⟩ = c2 at *
  generalize chkV ⟨k, n, b⟩ = c3 at *
  have HX := Lib.hid hX
  clear hX
  go_enter Try.func77, Try.ntmps77
  go_wp2_with fail
  refine (HN.out _).mono ?_
  rintro e w1 ⟨rfl, rfl⟩
  cases c1 with
  | false =>
    have HX1 := Lib.hid (HX.out.trans (if_neg (fun h => by simp at h)))
    clear HX
    go_wp2_with fail
    go_ret
    rw [HX1.out]
    exact ⟨rfl, HB.out⟩
  | true =>
    go_wp2_with fail
    refine (HL.out _).mono ?_
    rintro e w1 ⟨rfl, hb1⟩
    have hc : ∀ i : Nat, i < 6 → w1.cell? ⟨w.heap.size, i, none⟩ = (w.alloc (.cells #[.string s, .int .i64 l, .int .u32 (p : Int), .int .i64 k, .int .i64 n, .string b] 49)).cell? ⟨w.heap.size, i, none⟩ := by
      intro i hi
      rw [cell_of ((hb1.block w.heap.size (by simp)).trans (heap_alloc_new w _)) i, cell_of (heap_alloc_new w _) i]
    have h3 := (hc 3 (by omega)).trans (cell_of (heap_alloc_new w _) 3)
    have h4 := (hc 4 (by omega)).trans (cell_of (heap_alloc_new w _) 4)
    have h5 := (hc 5 (by omega)).trans (cell_of (heap_alloc_new w _) 5)
    simp at h3 h4 h5
    clear hc
    have hb01 := nx HB.out hb1
    by_cases e2 : c2 = 0
    · subst e2
      go_wp2_with fail
      refine (HV.out _).mono ?_
      rintro e w2 ⟨rfl, hb2⟩
      by_cases e3 : c3 = 0
      · subst e3
        have HX1 := Lib.hid (HX.out.trans (if_pos (by simp)))
        clear HX
        go_wp2_with fail
        go_ret
        rw [HX1.out]
        exact ⟨rfl, nx hb01 hb2⟩
      · have e3' : (c3 != 0) = true := by simp; exact e3
        have HX1 := Lib.hid (HX.out.trans (if_neg (fun h => e3 h.2.2)))
        clear HX
        go_wp2_with fail
        go_ret
        rw [HX1.out]
        exact ⟨rfl, nx hb01 hb2⟩
    · have e2' : (c2 != 0) = true := by simp; exact e2
      have HX1 := Lib.hid (HX.out.trans (if_neg (fun h => e2 h.2.1)))
      clear HX
      go_wp2_with fail
      go_ret
      rw [HX1.out]
      exact ⟨rfl, hb01⟩
end Go.Proofs.Ytmnabhennibddaa
