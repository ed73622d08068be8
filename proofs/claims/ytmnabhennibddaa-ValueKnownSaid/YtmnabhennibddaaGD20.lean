/- Values and attributes, compared with '=='. No conditions. -/
import Derived.Test.YtmnabhennibddaaGD17
import Derived.Laws.StructEq
import Derived.KernelRfl
set_option linter.unusedSimpArgs false
set_option linter.unusedVariables false
namespace Go.Proofs.Ytmnabhennibddaa
open Go.RowKit

def eqV (x y : Val) : Bool := x.k == y.k && (x.n == y.n && (x.b.toList == y.b.toList))
def eqL (x y : Lab) : Bool := (x.l == y.l) && ((x.p : Int) == (y.p : Int))
def eqA (x y : Att) : Bool := (x.name.toList == y.name.toList) && (eqL x.lab y.lab && eqV x.val y.val)

set_option maxRecDepth 100000 in
theorem eqV_run (d : Nat) (x y : Val) (w : World) : (Op.equalIn (d + 2) 42 (.agg #[.int .i64 x.k, .int .i64 x.n, .string x.b]) (.agg #[.int .i64 y.k, .int .i64 y.n, .string y.b])).run Try.prog w = .ok (eqV x y) w := by
  rw [run_equalIn_agg w (d + 1) 42 _ _ (by kernel_rfl) (by kernel_rfl)]
  unfold Program.fieldsOf
  rw [Try.underlying42]
  simp [Op.eqFields, part, go_sem, Try.underlying3, Try.underlying9]
  by_cases h1 : x.k = y.k <;> by_cases h2 : x.n = y.n <;> by_cases h3 : x.b.toList = y.b.toList <;> simp [eqV, h1, h2, h3]
set_option maxRecDepth 100000 in
theorem eqL_run (d : Nat) (x y : Lab) (w : World) : (Op.equalIn (d + 2) 47 (.agg #[.int .i64 x.l, .int .u32 (x.p : Int)]) (.agg #[.int .i64 y.l, .int .u32 (y.p : Int)])).run Try.prog w = .ok (eqL x y) w := by
  rw [run_equalIn_agg w (d + 1) 47 _ _ (by kernel_rfl) (by kernel_rfl)]
  unfold Program.fieldsOf
  rw [Try.underlying47]
  simp [Op.eqFields, part, go_sem, Try.underlying3, Try.underlying45]
  by_cases h1 : x.l = y.l <;> by_cases h2 : (x.p : Int) = (y.p : Int) <;> simp [eqL, h1, h2]
theorem toList_inj {a b : ByteArray} (h : a.toList = b.toList) : a = b := by
  rw [ByteArray.toList_eq, ByteArray.toList_eq] at h
  cases a; cases b
  simp only at h
  rw [Array.toList_inj.1 h]
theorem eqV_iff (x y : Val) : eqV x y = true ↔ x = y := by
  obtain ⟨a, b, c⟩ := x
  obtain ⟨a', b', c'⟩ := y
  unfold eqV
  simp only [Bool.and_eq_true, beq_iff_eq, Val.mk.injEq]
  constructor
  · rintro ⟨h1, h2, h3⟩; exact ⟨h1, h2, toList_inj h3⟩
  · rintro ⟨h1, h2, h3⟩; exact ⟨h1, h2, by rw [h3]⟩
theorem eqL_iff (x y : Lab) : eqL x y = true ↔ x = y := by
  obtain ⟨a, b⟩ := x
  obtain ⟨a', b'⟩ := y
  unfold eqL
  simp only [Bool.and_eq_true, beq_iff_eq, Lab.mk.injEq]
  constructor
  · rintro ⟨h1, h2⟩; exact ⟨h1, by omega⟩
  · rintro ⟨h1, h2⟩; exact ⟨h1, by omega⟩
theorem eqA_iff (x y : Att) : eqA x y = true ↔ x = y := by
  obtain ⟨a, b, c⟩ := x
  obtain ⟨a', b', c'⟩ := y
  unfold eqA
  simp only [Bool.and_eq_true, beq_iff_eq, Att.mk.injEq, eqL_iff, eqV_iff]
  constructor
  · rintro ⟨h1, h2, h3⟩; exact ⟨toList_inj h1, h2, h3⟩
  · rintro ⟨h1, h2, h3⟩; exact ⟨by rw [h1], h2, h3⟩
set_option maxRecDepth 100000 in
theorem eqA_run (x y : Att) (w : World) : (Op.equalIn 10000 49 (.agg #[.string x.name, .int .i64 x.lab.l, .int .u32 (x.lab.p : Int), .int .i64 x.val.k, .int .i64 x.val.n, .string x.val.b])
    (.agg #[.string y.name, .int .i64 y.lab.l, .int .u32 (y.lab.p : Int), .int .i64 y.val.k, .int .i64 y.val.n, .string y.val.b])).run Try.prog w = .ok (eqA x y) w := by
  rw [run_equalIn_agg w 9999 49 _ _ (by kernel_rfl) (by kernel_rfl)]
  unfold Program.fieldsOf
  rw [Try.underlying49]
  simp [Op.eqFields, part, go_sem, Try.underlying9]
  unfold eqA eqL eqV
  by_cases h1 : x.name.toList = y.name.toList <;> by_cases h2 : x.lab.l = y.lab.l <;> by_cases h3 : (x.lab.p : Int) = (y.lab.p : Int) <;> by_cases h4 : x.val.k = y.val.k <;> by_cases h5 : x.val.n = y.val.n <;> by_cases h6 : x.val.b.toList = y.val.b.toList <;> simp [h1, h2, h3, h4, h5, h6]
end Go.Proofs.Ytmnabhennibddaa
