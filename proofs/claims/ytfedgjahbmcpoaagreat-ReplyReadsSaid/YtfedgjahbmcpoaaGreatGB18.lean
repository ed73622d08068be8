/- A span; both CheckSpan: contracts. No conditions. -/
import Derived.Test.YtfedgjahbmcpoaaGreatGB16
import Derived.Test.YtfedgjahbmcpoaaGreatGB17
import Derived.Test.YtfedgjahbmcpoaaGreatGB06
set_option linter.unusedSimpArgs false
set_option linter.unusedVariables false
namespace Go.Proofs.YtfedgjahbmcpoaaGreat
open Go.RowKit

structure Spn where
  tr : Int
  id : Int
  pa : Int
  sv : ByteArray
  op : ByteArray
  st : Int
  ln : Int
  sj : ByteArray
  ats : List Att
/-- A span's cells; its attributes lie at a slice. -/
def Spn.cells (s : Spn) (v : Value) : List Value := [.int .i64 s.tr, .int .i64 s.id, .int .i64 s.pa, .string s.sv, .string s.op, .int .i64 s.st, .int .i64 s.ln, .string s.sj, v]
def Spn.v (s : Spn) (v : Value) : Value := .agg #[.int .i64 s.tr, .int .i64 s.id, .int .i64 s.pa, .string s.sv, .string s.op, .int .i64 s.st, .int .i64 s.ln, .string s.sj, v]
/-- A span that may be. -/
structure OkS (s : Spn) : Prop where
  tr : 1 ≤ s.tr ∧ s.tr ≤ 9007199254740991
  id : 1 ≤ s.id ∧ s.id ≤ 9007199254740991
  pa : 0 ≤ s.pa ∧ s.pa ≤ 9007199254740991
  st : 0 ≤ s.st ∧ s.st ≤ 9007199254740991
  ln : 0 ≤ s.ln ∧ s.ln ≤ 9007199254740991
  sum : s.st + s.ln ≤ 9007199254740991
  sv : nm (sb s.sv) = true
  op : nm (sb s.op) = true
  sj : s.sj.size ≤ 64
  ats : mayA s.ats = 0
instance (s : Spn) : Decidable (OkS s) := decidable_of_iff ((1 ≤ s.tr ∧ s.tr ≤ 9007199254740991) ∧ (1 ≤ s.id ∧ s.id ≤ 9007199254740991) ∧ (0 ≤ s.pa ∧ s.pa ≤ 9007199254740991) ∧ (0 ≤ s.st ∧ s.st ≤ 9007199254740991) ∧ (0 ≤ s.ln ∧ s.ln ≤ 9007199254740991) ∧ s.st + s.ln ≤ 9007199254740991 ∧ nm (sb s.sv) = true ∧ nm (sb s.op) = true ∧ s.sj.size ≤ 64 ∧ mayA s.ats = 0)
  ⟨fun ⟨a, b, c, d, e, f, g, h, i, j⟩ => ⟨a, b, c, d, e, f, g, h, i, j⟩, fun h => ⟨h.tr, h.id, h.pa, h.st, h.ln, h.sum, h.sv, h.op, h.sj, h.ats⟩⟩
def chkS (s : Spn) : Int := if OkS s then 0 else 90
theorem chkS_no {s : Spn} (h : ¬ OkS s) : chkS s = 90 := if_neg h
theorem chkS_yes {s : Spn} (h : OkS s) : chkS s = 0 := if_pos h
def inM (n a : Int) : Bool := decide (a ≤ n ∧ n ≤ 9007199254740991)
theorem inM_iff {n a : Int} : inM n a = true ↔ a ≤ n ∧ n ≤ 9007199254740991 := by simp [inM]
theorem inM_no {n a : Int} (h : inM n a = false) : ¬ (a ≤ n ∧ n ≤ 9007199254740991) := by simpa [inM] using h
def BSp (w : World) (q : Nat) (s : Spn) (v : Value) : Prop := w.heap[q]? = some (.cells #[.int .i64 s.tr, .int .i64 s.id, .int .i64 s.pa, .string s.sv, .string s.op, .int .i64 s.st, .int .i64 s.ln, .string s.sj, v] 48 (0, 0))
theorem BSp.cells {w : World} {q : Nat} {s : Spn} {v : Value} (h : BSp w q s v) : w.cell? ⟨q, 0, none⟩ = some (.int .i64 s.tr) ∧ w.cell? ⟨q, 1, none⟩ = some (.int .i64 s.id) ∧ w.cell? ⟨q, 2, none⟩ = some (.int .i64 s.pa) ∧ w.cell? ⟨q, 3, none⟩ = some (.string s.sv) ∧ w.cell? ⟨q, 4, none⟩ = some (.string s.op) ∧ w.cell? ⟨q, 5, none⟩ = some (.int .i64 s.st) ∧ w.cell? ⟨q, 6, none⟩ = some (.int .i64 s.ln) ∧ w.cell? ⟨q, 7, none⟩ = some (.string s.sj) ∧ w.cell? ⟨q, 8, none⟩ = some v :=
  ⟨cell_of h 0, cell_of h 1, cell_of h 2, cell_of h 3, cell_of h 4, cell_of h 5, cell_of h 6, cell_of h 7, cell_of h 8⟩
theorem BSp.below {w w' : World} {q : Nat} {s : Spn} {v : Value} (h : BSp w q s v) (hb : Below w.heap.size w w') : BSp w' q s v := (hb.block q (Array.getElem?_eq_some_iff.1 h).1).trans h
theorem BSp.new (w : World) (s : Spn) (v : Value) : BSp (w.alloc (.cells #[.int .i64 s.tr, .int .i64 s.id, .int .i64 s.pa, .string s.sv, .string s.op, .int .i64 s.st, .int .i64 s.ln, .string s.sj, v] 48)) w.heap.size s v := heap_alloc_new w _
set_option maxHeartbeats 4000000 in
theorem in_any (n a : Int) (w : World) :
    Calls Tryz.prog 110 #[.int .i64 n, .int .i64 a] w fun e w' => e = .returned (.bool (inM n a)) ∧ w = w' := by
  by_cases h1 : a ≤ n
  · by_cases h2 : n ≤ 9007199254740991
    · rw [inM_iff.2 ⟨h1, h2⟩]
      go_enter Tryz.func110, Tryz.ntmps110
      go_wp2
      go_ret
      exact ⟨rfl, rfl⟩
    · rw [show inM n a = false from by simp [inM]; omega]
      go_enter Tryz.func110, Tryz.ntmps110
      go_wp2
      go_ret
      exact ⟨rfl, rfl⟩
  · rw [show inM n a = false from by simp [inM]; omega]
    go_enter Tryz.func110, Tryz.ntmps110
    go_wp2
    go_ret
    exact ⟨rfl, rfl⟩
set_option maxHeartbeats 4000000 in
theorem refIn_any (n a : Int) (w : World) :
    Calls Tryz.prog 112 #[.int .i64 n, .int .i64 a] w fun e w' => e = .returned (.bool (inM n a)) ∧ w = w' := by
  by_cases h1 : a ≤ n
  · by_cases h2 : n ≤ 9007199254740991
    · rw [inM_iff.2 ⟨h1, h2⟩]
      go_enter Tryz.func112, Tryz.ntmps112
      go_wp2
      go_ret
      exact ⟨rfl, rfl⟩
    · rw [show inM n a = false from by simp [inM]; omega]
      go_enter Tryz.func112, Tryz.ntmps112
      go_wp2
      go_ret
      exact ⟨rfl, rfl⟩
  · rw [show inM n a = false from by simp [inM]; omega]
    go_enter Tryz.func112, Tryz.ntmps112
    go_wp2
    go_ret
    exact ⟨rfl, rfl⟩
theorem atP_bool (l : List Att) : (mayA l = 0 ∧ (atP l).2 = 0) ∨ (mayA l ≠ 0 ∧ (atP l).2 = 80) := by
  unfold atP
  by_cases h : mayA l = 0
  · exact .inl ⟨h, by rw [if_pos h]⟩
  · exact .inr ⟨h, by rw [if_neg h]⟩
set_option maxHeartbeats 16000000 in
set_option maxRecDepth 100000 in
theorem checkSpan_any {A : Option Addr} {n c : Nat} {s : Spn} {w : World} (h : AS w A n c s.ats) :
    Calls Tryz.prog 89 #[s.v (.slice A n c)] w fun e w' => e = .returned (.int .i64 (chkS s)) ∧ Below w.heap.size w w' := by
  have IN := Lib.hid (fun (n a : Int) (w : World) => in_any n a w)
  have hb1 : Below w.heap.size w (w.alloc (.cells #[.int .i64 s.tr, .int .i64 s.id, .int .i64 s.pa, .string s.sv, .string s.op, .int .i64 s.st, .int .i64 s.ln, .string s.sj, .slice A n c] 48)) := (bel0 w).alloc (Nat.le_refl _) _
  have X := Lib.hid (BSp.new w s (.slice A n c))
  have HA := Lib.hid (h.below hb1)
  have K0 := Lib.hid (fun h => chkS_no (s := s) h)
  have K1 := Lib.hid (fun h => chkS_yes (s := s) h)
  have HO := Lib.hid (fun (h : OkS s) => h)
  have AT := Lib.hid (fun (w : World) (h : AS w A n c s.ats) => attrs_any h)
  have HP := Lib.hid (atP_bool s.ats)
  clear h
  generalize chkS s = X0 at *
  unfold Spn.v
  go_enter Tryz.func89, Tryz.ntmps89
  go_wp2_with fail
  generalize hW : w.alloc _ = W1 at *
  clear hW
  obtain ⟨x0, x1, x2, x3, x4, x5, x6, x7, x8⟩ := X.out.cells
  refine (IN.out _ _ _).mono ?_
  rintro e wz ⟨rfl, rfl⟩
  by_cases hi : inM s.tr 1 = true
  case neg =>
    have hf : inM s.tr 1 = false := by simpa using hi
    rw [hf]
    replace hi := inM_no hf
    clear hf
    go_wp2_with fail
    refine (AT.out _ HA.out).mono ?_
    rintro e w2 ⟨v2, rfl, ho2, hb2⟩
    have hb12 := nx hb1 hb2
    obtain ⟨y0, y1, y2, y3, y4, y5, y6, y7, y8⟩ := (X.out.below hb2).cells
    clear x0 x1 x2 x3 x4 x5 x6 x7 x8
    go_wp2_with fail
    go_ret
    exact ⟨by rw [K0.out (fun h => hi h.tr)]; rfl, hb12⟩
  rw [hi]
  have h0 := inM_iff.1 hi
  clear hi
  go_wp2_with fail
  refine (IN.out _ _ _).mono ?_
  rintro e wz ⟨rfl, rfl⟩
  by_cases hi : inM s.id 1 = true
  case neg =>
    have hf : inM s.id 1 = false := by simpa using hi
    rw [hf]
    replace hi := inM_no hf
    clear hf
    go_wp2_with fail
    refine (AT.out _ HA.out).mono ?_
    rintro e w2 ⟨v2, rfl, ho2, hb2⟩
    have hb12 := nx hb1 hb2
    obtain ⟨y0, y1, y2, y3, y4, y5, y6, y7, y8⟩ := (X.out.below hb2).cells
    clear x0 x1 x2 x3 x4 x5 x6 x7 x8
    go_wp2_with fail
    go_ret
    exact ⟨by rw [K0.out (fun h => hi h.id)]; rfl, hb12⟩
  rw [hi]
  have h1 := inM_iff.1 hi
  clear hi
  go_wp2_with fail
  refine (IN.out _ _ _).mono ?_
  rintro e wz ⟨rfl, rfl⟩
  by_cases hi : inM s.pa 0 = true
  case neg =>
    have hf : inM s.pa 0 = false := by simpa using hi
    rw [hf]
    replace hi := inM_no hf
    clear hf
    go_wp2_with fail
    refine (AT.out _ HA.out).mono ?_
    rintro e w2 ⟨v2, rfl, ho2, hb2⟩
    have hb12 := nx hb1 hb2
    obtain ⟨y0, y1, y2, y3, y4, y5, y6, y7, y8⟩ := (X.out.below hb2).cells
    clear x0 x1 x2 x3 x4 x5 x6 x7 x8
    go_wp2_with fail
    go_ret
    exact ⟨by rw [K0.out (fun h => hi h.pa)]; rfl, hb12⟩
  rw [hi]
  have h2 := inM_iff.1 hi
  clear hi
  go_wp2_with fail
  refine (IN.out _ _ _).mono ?_
  rintro e wz ⟨rfl, rfl⟩
  by_cases hi : inM s.st 0 = true
  case neg =>
    have hf : inM s.st 0 = false := by simpa using hi
    rw [hf]
    replace hi := inM_no hf
    clear hf
    go_wp2_with fail
    refine (AT.out _ HA.out).mono ?_
    rintro e w2 ⟨v2, rfl, ho2, hb2⟩
    have hb12 := nx hb1 hb2
    obtain ⟨y0, y1, y2, y3, y4, y5, y6, y7, y8⟩ := (X.out.below hb2).cells
    clear x0 x1 x2 x3 x4 x5 x6 x7 x8
    go_wp2_with fail
    go_ret
    exact ⟨by rw [K0.out (fun h => hi h.st)]; rfl, hb12⟩
  rw [hi]
  have h3 := inM_iff.1 hi
  clear hi
  go_wp2_with fail
  refine (IN.out _ _ _).mono ?_
  rintro e wz ⟨rfl, rfl⟩
  by_cases hi : inM s.ln 0 = true
  case neg =>
    have hf : inM s.ln 0 = false := by simpa using hi
    rw [hf]
    replace hi := inM_no hf
    clear hf
    go_wp2_with fail
    refine (AT.out _ HA.out).mono ?_
    rintro e w2 ⟨v2, rfl, ho2, hb2⟩
    have hb12 := nx hb1 hb2
    obtain ⟨y0, y1, y2, y3, y4, y5, y6, y7, y8⟩ := (X.out.below hb2).cells
    clear x0 x1 x2 x3 x4 x5 x6 x7 x8
    go_wp2_with fail
    go_ret
    exact ⟨by rw [K0.out (fun h => hi h.ln)]; rfl, hb12⟩
  rw [hi]
  have h4 := inM_iff.1 hi
  clear hi
  have hs1 : s.st + s.ln ≤ 18014398509481982 := by omega
  have hs0 : 0 ≤ s.st + s.ln := by omega
  go_wp2_with fail
  refine (IN.out _ _ _).mono ?_
  rintro e wz ⟨rfl, rfl⟩
  by_cases hi : inM (s.st + s.ln) 0 = true
  case neg =>
    have hf : inM (s.st + s.ln) 0 = false := by simpa using hi
    rw [hf]
    replace hi := inM_no hf
    clear hf
    go_wp2_with fail
    refine (AT.out _ HA.out).mono ?_
    rintro e w2 ⟨v2, rfl, ho2, hb2⟩
    have hb12 := nx hb1 hb2
    obtain ⟨y0, y1, y2, y3, y4, y5, y6, y7, y8⟩ := (X.out.below hb2).cells
    clear x0 x1 x2 x3 x4 x5 x6 x7 x8
    go_wp2_with fail
    go_ret
    exact ⟨by rw [K0.out (fun h => hi ⟨by have := h.st; have := h.ln; omega, h.sum⟩)]; rfl, hb12⟩
  rw [hi]
  have h5 := inM_iff.1 hi
  clear hi
  go_wp2_with fail
  refine (AT.out _ HA.out).mono ?_
  rintro e w2 ⟨v2, rfl, ho2, hb2⟩
  have hb12 := nx hb1 hb2
  obtain ⟨y0, y1, y2, y3, y4, y5, y6, y7, y8⟩ := (X.out.below hb2).cells
  clear x0 x1 x2 x3 x4 x5 x6 x7 x8 ho2
  go_wp2_with fail
  refine (isName_any _ _).mono ?_
  rintro e wz ⟨rfl, rfl⟩
  by_cases g1 : nm (sb s.sv) = true
  case neg =>
    rw [show nm (sb s.sv) = false from by simpa using g1]
    go_wp2_with fail
    go_ret
    exact ⟨by rw [K0.out (fun h => g1 h.sv)]; rfl, hb12⟩
  rw [g1]
  go_wp2_with fail
  refine (isName_any _ _).mono ?_
  rintro e wz ⟨rfl, rfl⟩
  by_cases g2 : nm (sb s.op) = true
  case neg =>
    rw [show nm (sb s.op) = false from by simpa using g2]
    go_wp2_with fail
    go_ret
    exact ⟨by rw [K0.out (fun h => g2 h.op)]; rfl, hb12⟩
  rw [g2]
  by_cases g3 : s.sj.size ≤ 64
  case neg =>
    go_wp2_with fail
    go_ret
    exact ⟨by rw [K0.out (fun h => by have := h.sj; omega)]; rfl, hb12⟩
  rcases HP.out with ⟨g4, g5⟩ | ⟨g4, g5⟩
  · rw [g5]
    go_wp2_with fail
    go_ret
    exact ⟨by rw [K1.out ⟨h0, h1, h2, h3, h4, h5.2, g1, g2, g3, g4⟩]; rfl, hb12⟩
  · rw [g5]
    go_wp2_with fail
    go_ret
    exact ⟨by rw [K0.out (fun h => g4 h.ats)]; rfl, hb12⟩
set_option maxHeartbeats 16000000 in
set_option maxRecDepth 100000 in
theorem refCheckSpan_any {A : Option Addr} {n c : Nat} {s : Spn} {w : World} (h : AS w A n c s.ats) :
    Calls Tryz.prog 91 #[s.v (.slice A n c)] w fun e w' => e = .returned (.int .i64 (chkS s)) ∧ Below w.heap.size w w' := by
  have IN := Lib.hid (fun (n a : Int) (w : World) => refIn_any n a w)
  have hb1 : Below w.heap.size w (w.alloc (.cells #[.int .i64 s.tr, .int .i64 s.id, .int .i64 s.pa, .string s.sv, .string s.op, .int .i64 s.st, .int .i64 s.ln, .string s.sj, .slice A n c] 48)) := (bel0 w).alloc (Nat.le_refl _) _
  have X := Lib.hid (BSp.new w s (.slice A n c))
  have HA := Lib.hid (h.below hb1)
  have K0 := Lib.hid (fun h => chkS_no (s := s) h)
  have K1 := Lib.hid (fun h => chkS_yes (s := s) h)
  have HO := Lib.hid (fun (h : OkS s) => h)
  have AT := Lib.hid (fun (w : World) (h : AS w A n c s.ats) => refCheckAttrs_any h)
  clear h
  generalize chkS s = X0 at *
  unfold Spn.v
  go_enter Tryz.func91, Tryz.ntmps91
  go_wp2_with fail
  generalize hW : w.alloc _ = W1 at *
  clear hW
  obtain ⟨x0, x1, x2, x3, x4, x5, x6, x7, x8⟩ := X.out.cells
  refine (IN.out _ _ _).mono ?_
  rintro e wz ⟨rfl, rfl⟩
  by_cases hi : inM s.tr 1 = true
  case neg =>
    have hf : inM s.tr 1 = false := by simpa using hi
    rw [hf]
    replace hi := inM_no hf
    clear hf
    go_wp2_with fail
    go_ret
    exact ⟨by rw [K0.out (fun h => hi h.tr)]; rfl, hb1⟩
  rw [hi]
  have h0 := inM_iff.1 hi
  clear hi
  go_wp2_with fail
  refine (IN.out _ _ _).mono ?_
  rintro e wz ⟨rfl, rfl⟩
  by_cases hi : inM s.id 1 = true
  case neg =>
    have hf : inM s.id 1 = false := by simpa using hi
    rw [hf]
    replace hi := inM_no hf
    clear hf
    go_wp2_with fail
    go_ret
    exact ⟨by rw [K0.out (fun h => hi h.id)]; rfl, hb1⟩
  rw [hi]
  have h1 := inM_iff.1 hi
  clear hi
  go_wp2_with fail
  refine (IN.out _ _ _).mono ?_
  rintro e wz ⟨rfl, rfl⟩
  by_cases hi : inM s.pa 0 = true
  case neg =>
    have hf : inM s.pa 0 = false := by simpa using hi
    rw [hf]
    replace hi := inM_no hf
    clear hf
    go_wp2_with fail
    go_ret
    exact ⟨by rw [K0.out (fun h => hi h.pa)]; rfl, hb1⟩
  rw [hi]
  have h2 := inM_iff.1 hi
  clear hi
  go_wp2_with fail
  refine (IN.out _ _ _).mono ?_
  rintro e wz ⟨rfl, rfl⟩
  by_cases hi : inM s.st 0 = true
  case neg =>
    have hf : inM s.st 0 = false := by simpa using hi
    rw [hf]
    replace hi := inM_no hf
    clear hf
    go_wp2_with fail
    go_ret
    exact ⟨by rw [K0.out (fun h => hi h.st)]; rfl, hb1⟩
  rw [hi]
  have h3 := inM_iff.1 hi
  clear hi
  go_wp2_with fail
  refine (IN.out _ _ _).mono ?_
  rintro e wz ⟨rfl, rfl⟩
  by_cases hi : inM s.ln 0 = true
  case neg =>
    have hf : inM s.ln 0 = false := by simpa using hi
    rw [hf]
    replace hi := inM_no hf
    clear hf
    go_wp2_with fail
    go_ret
    exact ⟨by rw [K0.out (fun h => hi h.ln)]; rfl, hb1⟩
  rw [hi]
  have h4 := inM_iff.1 hi
  clear hi
  have hs1 : s.st + s.ln ≤ 18014398509481982 := by omega
  have hs0 : 0 ≤ s.st + s.ln := by omega
  by_cases h5 : s.st + s.ln ≤ 9007199254740991
  case neg =>
    go_wp2_with fail
    go_ret
    exact ⟨by rw [K0.out (fun h => by have := h.sum; omega)]; rfl, hb1⟩
  go_wp2_with fail
  refine (refIsName_any _ _).mono ?_
  rintro e wz ⟨rfl, rfl⟩
  by_cases g1 : nm (sb s.sv) = true
  case neg =>
    rw [show nm (sb s.sv) = false from by simpa using g1]
    go_wp2_with fail
    go_ret
    exact ⟨by rw [K0.out (fun h => g1 h.sv)]; rfl, hb1⟩
  rw [g1]
  go_wp2_with fail
  refine (refIsName_any _ _).mono ?_
  rintro e wz ⟨rfl, rfl⟩
  by_cases g2 : nm (sb s.op) = true
  case neg =>
    rw [show nm (sb s.op) = false from by simpa using g2]
    go_wp2_with fail
    go_ret
    exact ⟨by rw [K0.out (fun h => g2 h.op)]; rfl, hb1⟩
  rw [g2]
  by_cases g3 : s.sj.size ≤ 64
  case neg =>
    go_wp2_with fail
    go_ret
    exact ⟨by rw [K0.out (fun h => by have := h.sj; omega)]; rfl, hb1⟩
  go_wp2_with fail
  refine (AT.out _ HA.out).mono ?_
  rintro e w2 ⟨rfl, hb2⟩
  have hb12 := nx hb1 hb2
  by_cases g4 : mayA s.ats = 0
  · rw [decide_eq_true g4]
    go_wp2_with fail
    go_ret
    exact ⟨by rw [K1.out ⟨h0, h1, h2, h3, h4, h5, g1, g2, g3, g4⟩]; rfl, hb12⟩
  · rw [decide_eq_false g4]
    go_wp2_with fail
    go_ret
    exact ⟨by rw [K0.out (fun h => g4 h.ats)]; rfl, hb12⟩
end Go.Proofs.YtfedgjahbmcpoaaGreat
/- The document's bytes of a list of attributes: the contract. No conditions. -/
set_option linter.unusedSimpArgs false
set_option linter.unusedVariables false
namespace Go.Proofs.YtfedgjahbmcpoaaGreat
open Go.RowKit

theorem own_far {w w' : World} {base : Nat} {e : TypeId} {size : Nat} {u : Value} {n : Nat} {xs : List Value} {row : Option Nat} (h : w.ownsRow base e size u n xs) (hg : w.grownBy w' row) (hne : ∀ k, u.ownBlock = some k → row ≠ some k) : w'.ownsRow base e size u n xs :=
  h.kept hg (by
    cases hv : u.ownBlock with
    | none => exact .inl rfl
    | some k => exact .inr (fun e => hne k hv (by rw [← e])))
set_option maxHeartbeats 16000000 in
set_option maxRecDepth 100000 in
theorem refAttrs_any {A : Option Addr} {n c : Nat} {l : List Att} {w : World} (h : AS w A n c l) :
    Calls Tryz.prog 46 #[.slice A n c] w fun e w' => TwoB w w' e (atP l).1 (atP l).2 := by
  obtain rfl := h.len
  have HL := Lib.hid h
  have hlim := h.lim
  have HM := Lib.hid (refCheckAttrs_any h)
  clear h
  obtain ⟨X, hX⟩ : ∃ X, X = atP l := ⟨_, rfl⟩
  rw [← hX]
  unfold atP at hX
  have HX := Lib.hid hX
  clear hX
  rcases may_cases l with h0 | h0
  · rw [h0] at HM
    rw [show decide ((0 : Int) = 0) = true from rfl] at HM
    have HX1 := Lib.hid (HX.out.trans (if_pos h0))
    have HY := Lib.hid (may_yes h0)
    have HCK := Lib.hid (fun i (hi : i < l.length) => may_att h0 hi)
    have h8 : l.length ≤ 8 := HY.out.1
    have P0 := Lib.hid (fun w => refU_any (l.length : Int) w (by omega) (by omega))
    rw [Int.toNat_natCast] at P0
    have Z0 : Hid ((Dig.enc l.length).length ≤ 8) := Lib.hid (by rw [Dig.length_enc]; exact Dig.sz_le _)
    clear h0 HX
    go_enter Tryz.func46, Tryz.ntmps46
    go_wp2_with fail
    refine HM.out.mono ?_
    rintro e w1 ⟨rfl, hb1⟩
    go_wp2_with fail
    refine (P0.out _).mono ?_
    rintro e w2 ⟨v1, rfl, ho1, hb2⟩
    have O1 := Lib.hid (ownsRow_base ho1 hb1.size)
    have hb02 := nx hb1 hb2
    clear ho1
    go_wp2_with fail
    go_loopw [4, 6] (fun v i wr => ∃ (vo : Value) (k : Nat), vo = v ∧ k ≤ l.length ∧ i = .int .i64 k ∧ Hid (wr.ownsRow w.heap.size 5 1 vo (Dig.enc l.length ++ ((l.take k).map ab).flatten).length (bv (Dig.enc l.length ++ ((l.take k).map ab).flatten))) ∧ Below w.heap.size w wr ∧ Hid ((((l.take k).map ab).flatten).length ≤ 160 * k)) (fun _ i _ => l.length - (intOf i).toNat)
    case atStart => exact ⟨_, 0, rfl, Nat.zero_le _, rfl, Lib.hid (by simpa using O1.out), hb02, Lib.hid (by simp)⟩
    case round =>
      clear O1
      obtain ⟨vo, k, rfl, hk, rfl, HO, hb, HSZ⟩ := hrel
      by_cases hlt : k < l.length
      · obtain ⟨g, o, hA, hc⟩ := HL.out.cellsAt hb hlt
        have hcell := fun (wb : World) (hb : Below w.heap.size w wb) => HL.out.cellsAt hb hlt
        subst hA
        have haa : (⟨g, o, none⟩ : Addr).add (k * 6) = ⟨g, o + k * 6, none⟩ := addr_add _ _ _
        obtain ⟨y1, y2, y3⟩ := chkA_yes (HCK.out k hlt)
        have hp := HL.out.pt _ (List.getElem_mem hlt)
        have hsn : ((l.take (k + 1)).map ab).flatten = ((l.take k).map ab).flatten ++ ab l[k] := by
          rw [take_snoc l k hlt, List.map_append, List.flatten_append]; simp
        obtain ⟨a, ha⟩ : ∃ a, a = l[k] := ⟨_, rfl⟩
        rw [← ha] at hc y1 y2 y3 hp hsn
        have hcell2 : Hid (∀ wb : World, Below w.heap.size w wb → wb.cell? ⟨g, o + k * 6, none⟩ = some (.string a.name) ∧ wb.cell? ⟨g, o + k * 6 + 1, none⟩ = some (.int .i64 a.lab.l) ∧ wb.cell? ⟨g, o + k * 6 + 2, none⟩ = some (.int .u32 (a.lab.p : Int)) ∧
            wb.cell? ⟨g, o + k * 6 + 3, none⟩ = some (.int .i64 a.val.k) ∧ wb.cell? ⟨g, o + k * 6 + 4, none⟩ = some (.int .i64 a.val.n) ∧ wb.cell? ⟨g, o + k * 6 + 5, none⟩ = some (.string a.val.b)) := Lib.hid (by
          intro wb hwb
          obtain ⟨g', o', e', hc'⟩ := hcell wb hwb
          cases e'
          rw [← ha] at hc'
          exact ⟨hc' 0 _ rfl, hc' 1 _ rfl, hc' 2 _ rfl, hc' 3 _ rfl, hc' 4 _ rfl, hc' 5 _ rfl⟩)
        have hnsz := nm_size y1
        have hl2 : (lb a.lab).2 = 0 := by unfold lb; rw [if_pos y2]
        have hv2 : (vb a.val).2 = 0 := by unfold vb; rw [if_pos y3]
        have T0 := Lib.hid (fun w => refText_any a.name w (by omega))
        have T1 := Lib.hid (fun w => refVeilBytes_any a.lab hp w)
        have T2 := Lib.hid (fun w => refBytesV_any a.val w)
        rw [hl2] at T1
        rw [hv2] at T2
        have U0 := Lib.hid (show Byt (Dig.enc a.name.size ++ sb a.name) from Byt.append (Dig.enc_byt _ (by omega)) (sb_byt _))
        have U0l : Hid ((Dig.enc a.name.size ++ sb a.name).length ≤ 32) := Lib.hid (by rw [List.length_append, Dig.length_enc, sb_length]; have := Dig.sz_le a.name.size; omega)
        have U1 := Lib.hid (lb_ok a.lab hp)
        have U2 := Lib.hid (vb_ok a.val)
        have HSN := Lib.hid hsn
        have hca0 : wr.cell? ⟨g, o + k * 6, none⟩ = some (.string a.name) := hc 0 _ rfl
        clear hc hcell ha y1 y2 y3 hsn hl2 hv2 hp
        unfold Lab.v at T1
        unfold Val.v at T2
        have hkk : k ≤ 8 := by omega
        have hz := Z0.out
        have hsz := HSZ.out
        generalize hLk : ((l.take k).map ab).flatten = Lk at *
        clear hLk
        go_wp2_with fail
        refine (T0.out _).mono ?_
        intro r w3 hh
        obtain ⟨A2, n2, c2, rfl, hB, hb3⟩ := hh.open U0.out (by have := U0l.out; omega)
        have hb13 := nx hb hb3
        have HO3 := Lib.hid (ownsRow_below HO.out hb3)
        have HO0 := HO
        have B2 := Lib.hid hB
        obtain ⟨d0, d1, d2, d3, d4, d5⟩ := hcell2.out w3 hb13
        clear hh hB hca0 HO
        go_wp2_with fail
        refine (T1.out _).mono ?_
        rintro r w5 ⟨v3, rfl, ho3, hb5⟩
        have hb15 := nx hb13 hb5
        have HO5 := Lib.hid (ownsRow_below HO3.out hb5)
        have B25 := Lib.hid (B2.out.below hb5)
        have O35 := Lib.hid ho3
        have hz35 := hb3.size
        have hz55 := hb5.size
        clear ho3 d0 d1 d2 d3 d4 d5 HO3 B2
        obtain ⟨d0, d1, d2, d3, d4, d5⟩ := hcell2.out w5 hb15
        go_wp2_with fail
        refine (T2.out _).mono ?_
        rintro r w7 ⟨v4, rfl, ho4, hb7⟩
        have hb17 := nx hb15 hb7
        have HO7 := Lib.hid (ownsRow_below HO5.out hb7)
        have B27 := Lib.hid (B25.out.below hb7)
        have O37 := Lib.hid (ownsRow_below O35.out hb7)
        have O47 := Lib.hid ho4
        have hz77 := hb7.size
        have NE := Lib.hid (fun k (hk : vo.ownBlock = some k) => (HO0.out.lt k hk).2)
        clear ho4 d0 d1 d2 d3 d4 d5 HO5 B25 O35
        have u0 := U0l.out
        have u1 := U1.out.2
        have u2 := U2.out.2
        go_wp2_with (first
          | (at_builtin; refine append_bytes rfl (.tmp 55) (.tmp 56) rfl w.heap.size vo (Dig.enc l.length ++ Lk) (Dig.enc a.name.size ++ sb a.name) rfl HO7.out A2 n2 c2 rfl B27.out (by rw [List.length_append]; omega) hb17.size ?_; intro v8 w8 ho8 hg8 hv8; have hb18 := grown_below hb17 hg8 (own_block HO7.out); have HO8 := Lib.hid ho8; have O38 := Lib.hid (own_far O37.out hg8 (fun k hk e => by have := NE.out k e; have := (O37.out.lt k hk).1; omega)); have O48 := Lib.hid (own_far O47.out hg8 (fun k hk e => by have := NE.out k e; have := (O47.out.lt k hk).1; omega)); have NE8 := Lib.hid (fun k (hk : v8.ownBlock = some k) => show k < wr.heap.size ∨ w7.heap.size ≤ k from (hv8 k hk).imp (fun h => NE.out k h) id); have hz8 := hg8.size; obtain ⟨A3, n3, c3, e3, B3, _⟩ := ownsRow_bs O38.out U1.out.1 (by omega); subst e3; have B3 := Lib.hid B3; clear ho8 hg8 hv8)
          | (at_builtin; refine append_bytes rfl (.tmp 57) (.tmp 58) rfl w.heap.size v8 (Dig.enc l.length ++ Lk ++ (Dig.enc a.name.size ++ sb a.name)) (lb a.lab).1 rfl HO8.out A3 n3 c3 rfl B3.out (by rw [List.length_append, List.length_append]; omega) hb18.size ?_; intro v9 w9 ho9 hg9 hv9; have hb19 := grown_below hb18 hg9 (own_block HO8.out); have HO9 := Lib.hid ho9; have O49 := Lib.hid (own_far O48.out hg9 (fun k hk e => by have := NE8.out k e; have := O47.out.lt k hk; omega)); obtain ⟨A4, n4, c4, e4, B4, _⟩ := ownsRow_bs O49.out U2.out.1 (by omega); subst e4; have B4 := Lib.hid B4; clear ho9 hg9 hv9)
          | (at_builtin; refine append_bytes rfl (.tmp 59) (.tmp 60) rfl w.heap.size v9 (Dig.enc l.length ++ Lk ++ (Dig.enc a.name.size ++ sb a.name) ++ (lb a.lab).1) (vb a.val).1 rfl HO9.out A4 n4 c4 rfl B4.out (by rw [List.length_append, List.length_append, List.length_append]; omega) hb19.size ?_; intro v10 w10 ho10 hg10 hv10; have hb110 := grown_below hb19 hg10 (own_block HO9.out); have HO10 := Lib.hid ho10; clear ho10 hg10 hv10))
        refine ⟨⟨_, k + 1, rfl, by omega, by go_num, Lib.hid (by rw [HSN.out]; unfold ab; have := HO10.out; simpa only [List.append_assoc] using this), hb110, Lib.hid ?_⟩, by simp [intOf]; omega⟩
        rw [HSN.out]
        unfold ab
        simp only [List.length_append] at *
        omega
      · obtain rfl : k = l.length := by omega
        rw [List.take_length] at HO
        go_wp2_with fail
        go_ret2
        rw [HX1.out]
        exact ⟨_, rfl, HO.out, hb⟩
  · rw [h0] at HM
    rw [show decide ((80 : Int) = 0) = false from rfl] at HM
    have HX1 := Lib.hid (HX.out.trans (if_neg (by rw [h0]; decide)))
    go_enter Tryz.func46, Tryz.ntmps46
    go_wp2_with fail
    refine HM.out.mono ?_
    rintro e w1 ⟨rfl, hb1⟩
    go_wp2_with fail
    go_ret2
    rw [HX1.out]
    exact ⟨_, rfl, World.ownsRow_nil _ _ _ _, hb1⟩
end Go.Proofs.YtfedgjahbmcpoaaGreat
