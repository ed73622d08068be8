/- A span; both CheckSpan: contracts. No conditions. -/
import Derived.Test.YtbhfbpaaghpadaaGC14
import Derived.Test.YtbhfbpaaghpadaaGC15
import Derived.Test.YtbhfbpaaghpadaaGC05
set_option linter.unusedSimpArgs false
set_option linter.unusedVariables false
namespace Go.Proofs.Ytbhfbpaaghpadaa
open Go.RowKit

structure Spn where
  tr : Int
  id : Int
  pa : Int
  sv : ByteArray
  op : ByteArray
  st : Int
  ln : Int
  sj : ByteArray
  ats : List Att
/-- A span's cells; its attributes lie at a slice. -/
def Spn.cells (s : Spn) (v : Value) : List Value := [.int .i64 s.tr, .int .i64 s.id, .int .i64 s.pa, .string s.sv, .string s.op, .int .i64 s.st, .int .i64 s.ln, .string s.sj, v]
def Spn.v (s : Spn) (v : Value) : Value := .agg #[.int .i64 s.tr, .int .i64 s.id, .int .i64 s.pa, .string s.sv, .string s.op, .int .i64 s.st, .int .i64 s.ln, .string s.sj, v]
/-- A span that may be. -/
structure OkS (s : Spn) : Prop where
  tr : 1 ≤ s.tr ∧ s.tr ≤ 9007199254740991
  id : 1 ≤ s.id ∧ s.id ≤ 9007199254740991
  pa : 0 ≤ s.pa ∧ s.pa ≤ 9007199254740991
  st : 0 ≤ s.st ∧ s.st ≤ 9007199254740991
  ln : 0 ≤ s.ln ∧ s.ln ≤ 9007199254740991
  sum : s.st + s.ln ≤ 9007199254740991
  sv : nm (sb s.sv) = true
  op : nm (sb s.op) = true
  sj : s.sj.size ≤ 64
  ats : mayA s.ats = 0
instance (s : Spn) : Decidable (OkS s) := decidable_of_iff ((1 ≤ s.tr ∧ s.tr ≤ 9007199254740991) ∧ (1 ≤ s.id ∧ s.id ≤ 9007199254740991) ∧ (0 ≤ s.pa ∧ s.pa ≤ 9007199254740991) ∧ (0 ≤ s.st ∧ s.st ≤ 9007199254740991) ∧ (0 ≤ s.ln ∧ s.ln ≤ 9007199254740991) ∧ s.st + s.ln ≤ 9007199254740991 ∧ nm (sb s.sv) = true ∧ nm (sb s.op) = true ∧ s.sj.size ≤ 64 ∧ mayA s.ats = 0)
  ⟨fun ⟨a, b, c, d, e, f, g, h, i, j⟩ => ⟨a, b, c, d, e, f, g, h, i, j⟩, fun h => ⟨h.tr, h.id, h.pa, h.st, h.ln, h.sum, h.sv, h.op, h.sj, h.ats⟩⟩
def chkS (s : Spn) : Int := if OkS s then 0 else 90
theorem chkS_no {s : Spn} (h : ¬ OkS s) : chkS s = 90 := if_neg h
theorem chkS_yes {s : Spn} (h : OkS s) : chkS s = 0 := if_pos h
def inM (n a : Int) : Bool := decide (a ≤ n ∧ n ≤ 9007199254740991)
theorem inM_iff {n a : Int} : inM n a = true ↔ a ≤ n ∧ n ≤ 9007199254740991 := by simp [inM]
theorem inM_no {n a : Int} (h : inM n a = false) : ¬ (a ≤ n ∧ n ≤ 9007199254740991) := by simpa [inM] using h
def BSp (w : World) (q : Nat) (s : Spn) (v : Value) : Prop := w.heap[q]? = some (.cells #[.int .i64 s.tr, .int .i64 s.id, .int .i64 s.pa, .string s.sv, .string s.op, .int .i64 s.st, .int .i64 s.ln, .string s.sj, v] 32 (0, 0))
theorem BSp.cells {w : World} {q : Nat} {s : Spn} {v : Value} (h : BSp w q s v) : w.cell? ⟨q, 0, none⟩ = some (.int .i64 s.tr) ∧ w.cell? ⟨q, 1, none⟩ = some (.int .i64 s.id) ∧ w.cell? ⟨q, 2, none⟩ = some (.int .i64 s.pa) ∧ w.cell? ⟨q, 3, none⟩ = some (.string s.sv) ∧ w.cell? ⟨q, 4, none⟩ = some (.string s.op) ∧ w.cell? ⟨q, 5, none⟩ = some (.int .i64 s.st) ∧ w.cell? ⟨q, 6, none⟩ = some (.int .i64 s.ln) ∧ w.cell? ⟨q, 7, none⟩ = some (.string s.sj) ∧ w.cell? ⟨q, 8, none⟩ = some v :=
  ⟨cell_of h 0, cell_of h 1, cell_of h 2, cell_of h 3, cell_of h 4, cell_of h 5, cell_of h 6, cell_of h 7, cell_of h 8⟩
theorem BSp.below {w w' : World} {q : Nat} {s : Spn} {v : Value} (h : BSp w q s v) (hb : Below w.heap.size w w') : BSp w' q s v := (hb.block q (Array.getElem?_eq_some_iff.1 h).1).trans h
theorem BSp.new (w : World) (s : Spn) (v : Value) : BSp (w.alloc (.cells #[.int .i64 s.tr, .int .i64 s.id, .int .i64 s.pa, .string s.sv, .string s.op, .int .i64 s.st, .int .i64 s.ln, .string s.sj, v] 32)) w.heap.size s v := heap_alloc_new w _
set_option maxHeartbeats 4000000 in
theorem in_any (n a : Int) (w : World) :
    Calls Try.prog 18 #[.int .i64 n, .int .i64 a] w fun e w' => e = .returned (.bool (inM n a)) ∧ w = w' := by
  by_cases h1 : a ≤ n
  · by_cases h2 : n ≤ 9007199254740991
    · rw [inM_iff.2 ⟨h1, h2⟩]
      go_enter Try.func18, Try.ntmps18
      go_wp2
      go_ret
      exact ⟨rfl, rfl⟩
    · rw [show inM n a = false from by simp [inM]; omega]
      go_enter Try.func18, Try.ntmps18
      go_wp2
      go_ret
      exact ⟨rfl, rfl⟩
  · rw [show inM n a = false from by simp [inM]; omega]
    go_enter Try.func18, Try.ntmps18
    go_wp2
    go_ret
    exact ⟨rfl, rfl⟩
theorem atP_bool (l : List Att) : (mayA l = 0 ∧ (atP l).2 = 0) ∨ (mayA l ≠ 0 ∧ (atP l).2 = 80) := by
  unfold atP
  by_cases h : mayA l = 0
  · exact .inl ⟨h, by rw [if_pos h]⟩
  · exact .inr ⟨h, by rw [if_neg h]⟩
set_option maxHeartbeats 16000000 in
set_option maxRecDepth 100000 in
theorem checkSpan_any {A : Option Addr} {n c : Nat} {s : Spn} {w : World} (h : AS w A n c s.ats) :
    Calls Try.prog 9 #[s.v (.slice A n c)] w fun e w' => e = .returned (.int .i64 (chkS s)) ∧ Below w.heap.size w w' := by
  have IN := Lib.hid (fun (n a : Int) (w : World) => in_any n a w)
  have hb1 : Below w.heap.size w (w.alloc (.cells #[.int .i64 s.tr, .int .i64 s.id, .int .i64 s.pa, .string s.sv, .string s.op, .int .i64 s.st, .int .i64 s.ln, .string s.sj, .slice A n c] 32)) := (bel0 w).alloc (Nat.le_refl _) _
  have X := Lib.hid (BSp.new w s (.slice A n c))
  have HA := Lib.hid (h.below hb1)
  have K0 := Lib.hid (fun h => chkS_no (s := s) h)
  have K1 := Lib.hid (fun h => chkS_yes (s := s) h)
  have HO := Lib.hid (fun (h : OkS s) => h)
  have AT := Lib.hid (fun (w : World) (h : AS w A n c s.ats) => attrs_any h)
  have HP := Lib.hid (atP_bool s.ats)
  clear h
  generalize chkS s = X0 at *
  unfold Spn.v
  go_enter Try.func9, Try.ntmps9
  go_wp2_with fail
  generalize hW : w.alloc _ = W1 at *
  clear hW
  obtain ⟨x0, x1, x2, x3, x4, x5, x6, x7, x8⟩ := X.out.cells
  refine (IN.out _ _ _).mono ?_
  rintro e wz ⟨rfl, rfl⟩
  by_cases hi : inM s.tr 1 = true
  case neg =>
    have hf : inM s.tr 1 = false := by simpa using hi
    rw [hf]
    replace hi := inM_no hf
    clear hf
    go_wp2_with fail
    refine (AT.out _ HA.out).mono ?_
    rintro e w2 ⟨v2, rfl, ho2, hb2⟩
    have hb12 := nx hb1 hb2
    obtain ⟨y0, y1, y2, y3, y4, y5, y6, y7, y8⟩ := (X.out.below hb2).cells
    clear x0 x1 x2 x3 x4 x5 x6 x7 x8
    go_wp2_with fail
    go_ret
    exact ⟨by rw [K0.out (fun h => hi h.tr)]; rfl, hb12⟩
  rw [hi]
  have h0 := inM_iff.1 hi
  clear hi
  go_wp2_with fail
  refine (IN.out _ _ _).mono ?_
  rintro e wz ⟨rfl, rfl⟩
  by_cases hi : inM s.id 1 = true
  case neg =>
    have hf : inM s.id 1 = false := by simpa using hi
    rw [hf]
    replace hi := inM_no hf
    clear hf
    go_wp2_with fail
    refine (AT.out _ HA.out).mono ?_
    rintro e w2 ⟨v2, rfl, ho2, hb2⟩
    have hb12 := nx hb1 hb2
    obtain ⟨y0, y1, y2, y3, y4, y5, y6, y7, y8⟩ := (X.out.below hb2).cells
    clear x0 x1 x2 x3 x4 x5 x6 x7 x8
    go_wp2_with fail
    go_ret
    exact ⟨by rw [K0.out (fun h => hi h.id)]; rfl, hb12⟩
  rw [hi]
  have h1 := inM_iff.1 hi
  clear hi
  go_wp2_with fail
  refine (IN.out _ _ _).mono ?_
  rintro e wz ⟨rfl, rfl⟩
  by_cases hi : inM s.pa 0 = true
  case neg =>
    have hf : inM s.pa 0 = false := by simpa using hi
    rw [hf]
    replace hi := inM_no hf
    clear hf
    go_wp2_with fail
    refine (AT.out _ HA.out).mono ?_
    rintro e w2 ⟨v2, rfl, ho2, hb2⟩
    have hb12 := nx hb1 hb2
    obtain ⟨y0, y1, y2, y3, y4, y5, y6, y7, y8⟩ := (X.out.below hb2).cells
    clear x0 x1 x2 x3 x4 x5 x6 x7 x8
    go_wp2_with fail
    go_ret
    exact ⟨by rw [K0.out (fun h => hi h.pa)]; rfl, hb12⟩
  rw [hi]
  have h2 := inM_iff.1 hi
  clear hi
  go_wp2_with fail
  refine (IN.out _ _ _).mono ?_
  rintro e wz ⟨rfl, rfl⟩
  by_cases hi : inM s.st 0 = true
  case neg =>
    have hf : inM s.st 0 = false := by simpa using hi
    rw [hf]
    replace hi := inM_no hf
    clear hf
    go_wp2_with fail
    refine (AT.out _ HA.out).mono ?_
    rintro e w2 ⟨v2, rfl, ho2, hb2⟩
    have hb12 := nx hb1 hb2
    obtain ⟨y0, y1, y2, y3, y4, y5, y6, y7, y8⟩ := (X.out.below hb2).cells
    clear x0 x1 x2 x3 x4 x5 x6 x7 x8
    go_wp2_with fail
    go_ret
    exact ⟨by rw [K0.out (fun h => hi h.st)]; rfl, hb12⟩
  rw [hi]
  have h3 := inM_iff.1 hi
  clear hi
  go_wp2_with fail
  refine (IN.out _ _ _).mono ?_
  rintro e wz ⟨rfl, rfl⟩
  by_cases hi : inM s.ln 0 = true
  case neg =>
    have hf : inM s.ln 0 = false := by simpa using hi
    rw [hf]
    replace hi := inM_no hf
    clear hf
    go_wp2_with fail
    refine (AT.out _ HA.out).mono ?_
    rintro e w2 ⟨v2, rfl, ho2, hb2⟩
    have hb12 := nx hb1 hb2
    obtain ⟨y0, y1, y2, y3, y4, y5, y6, y7, y8⟩ := (X.out.below hb2).cells
    clear x0 x1 x2 x3 x4 x5 x6 x7 x8
    go_wp2_with fail
    go_ret
    exact ⟨by rw [K0.out (fun h => hi h.ln)]; rfl, hb12⟩
  rw [hi]
  have h4 := inM_iff.1 hi
  clear hi
  have hs1 : s.st + s.ln ≤ 18014398509481982 := by omega
  have hs0 : 0 ≤ s.st + s.ln := by omega
  go_wp2_with fail
  refine (IN.out _ _ _).mono ?_
  rintro e wz ⟨rfl, rfl⟩
  by_cases hi : inM (s.st + s.ln) 0 = true
  case neg =>
    have hf : inM (s.st + s.ln) 0 = false := by simpa using hi
    rw [hf]
    replace hi := inM_no hf
    clear hf
    go_wp2_with fail
    refine (AT.out _ HA.out).mono ?_
    rintro e w2 ⟨v2, rfl, ho2, hb2⟩
    have hb12 := nx hb1 hb2
    obtain ⟨y0, y1, y2, y3, y4, y5, y6, y7, y8⟩ := (X.out.below hb2).cells
    clear x0 x1 x2 x3 x4 x5 x6 x7 x8
    go_wp2_with fail
    go_ret
    exact ⟨by rw [K0.out (fun h => hi ⟨by have := h.st; have := h.ln; omega, h.sum⟩)]; rfl, hb12⟩
  rw [hi]
  have h5 := inM_iff.1 hi
  clear hi
  go_wp2_with fail
  refine (AT.out _ HA.out).mono ?_
  rintro e w2 ⟨v2, rfl, ho2, hb2⟩
  have hb12 := nx hb1 hb2
  obtain ⟨y0, y1, y2, y3, y4, y5, y6, y7, y8⟩ := (X.out.below hb2).cells
  clear x0 x1 x2 x3 x4 x5 x6 x7 x8 ho2
  go_wp2_with fail
  refine (isName_any _ _).mono ?_
  rintro e wz ⟨rfl, rfl⟩
  by_cases g1 : nm (sb s.sv) = true
  case neg =>
    rw [show nm (sb s.sv) = false from by simpa using g1]
    go_wp2_with fail
    go_ret
    exact ⟨by rw [K0.out (fun h => g1 h.sv)]; rfl, hb12⟩
  rw [g1]
  go_wp2_with fail
  refine (isName_any _ _).mono ?_
  rintro e wz ⟨rfl, rfl⟩
  by_cases g2 : nm (sb s.op) = true
  case neg =>
    rw [show nm (sb s.op) = false from by simpa using g2]
    go_wp2_with fail
    go_ret
    exact ⟨by rw [K0.out (fun h => g2 h.op)]; rfl, hb12⟩
  rw [g2]
  by_cases g3 : s.sj.size ≤ 64
  case neg =>
    go_wp2_with fail
    go_ret
    exact ⟨by rw [K0.out (fun h => by have := h.sj; omega)]; rfl, hb12⟩
  rcases HP.out with ⟨g4, g5⟩ | ⟨g4, g5⟩
  · rw [g5]
    go_wp2_with fail
    go_ret
    exact ⟨by rw [K1.out ⟨h0, h1, h2, h3, h4, h5.2, g1, g2, g3, g4⟩]; rfl, hb12⟩
  · rw [g5]
    go_wp2_with fail
    go_ret
    exact ⟨by rw [K0.out (fun h => g4 h.ats)]; rfl, hb12⟩
end Go.Proofs.Ytbhfbpaaghpadaa
/- The document's bytes of a list of attributes: the contract. No conditions. -/
set_option linter.unusedSimpArgs false
set_option linter.unusedVariables false
namespace Go.Proofs.Ytbhfbpaaghpadaa
open Go.RowKit

theorem own_far {w w' : World} {base : Nat} {e : TypeId} {size : Nat} {u : Value} {n : Nat} {xs : List Value} {row : Option Nat} (h : w.ownsRow base e size u n xs) (hg : w.grownBy w' row) (hne : ∀ k, u.ownBlock = some k → row ≠ some k) : w'.ownsRow base e size u n xs :=
  h.kept hg (by
    cases hv : u.ownBlock with
    | none => exact .inl rfl
    | some k => exact .inr (fun e => hne k hv (by rw [← e])))
end Go.Proofs.Ytbhfbpaaghpadaa
