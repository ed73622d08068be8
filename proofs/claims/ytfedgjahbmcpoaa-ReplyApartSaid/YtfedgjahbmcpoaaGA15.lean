/- A span; both CheckSpan: contracts. No conditions. -/
import Derived.Test.YtfedgjahbmcpoaaGA13
import Derived.Test.YtfedgjahbmcpoaaGA14
import Derived.Test.YtfedgjahbmcpoaaGA05
import Derived.Test.YtfedgjahbmcpoaaGA07
set_option linter.unusedSimpArgs false
set_option linter.unusedVariables false
namespace Go.Proofs.Ytfedgjahbmcpoaa
open Go.RowKit

structure Spn where
  tr : Int
  id : Int
  pa : Int
  sv : ByteArray
  op : ByteArray
  st : Int
  ln : Int
  sj : ByteArray
  ats : List Att
/-- A span's cells; its attributes lie at a slice. -/
def Spn.cells (s : Spn) (v : Value) : List Value := [.int .i64 s.tr, .int .i64 s.id, .int .i64 s.pa, .string s.sv, .string s.op, .int .i64 s.st, .int .i64 s.ln, .string s.sj, v]
def Spn.v (s : Spn) (v : Value) : Value := .agg #[.int .i64 s.tr, .int .i64 s.id, .int .i64 s.pa, .string s.sv, .string s.op, .int .i64 s.st, .int .i64 s.ln, .string s.sj, v]
/-- A span that may be. -/
structure OkS (s : Spn) : Prop where
  tr : 1 ≤ s.tr ∧ s.tr ≤ 9007199254740991
  id : 1 ≤ s.id ∧ s.id ≤ 9007199254740991
  pa : 0 ≤ s.pa ∧ s.pa ≤ 9007199254740991
  st : 0 ≤ s.st ∧ s.st ≤ 9007199254740991
  ln : 0 ≤ s.ln ∧ s.ln ≤ 9007199254740991
  sum : s.st + s.ln ≤ 9007199254740991
  sv : nm (sb s.sv) = true
  op : nm (sb s.op) = true
  sj : s.sj.size ≤ 64
  ats : mayA s.ats = 0
instance (s : Spn) : Decidable (OkS s) := decidable_of_iff ((1 ≤ s.tr ∧ s.tr ≤ 9007199254740991) ∧ (1 ≤ s.id ∧ s.id ≤ 9007199254740991) ∧ (0 ≤ s.pa ∧ s.pa ≤ 9007199254740991) ∧ (0 ≤ s.st ∧ s.st ≤ 9007199254740991) ∧ (0 ≤ s.ln ∧ s.ln ≤ 9007199254740991) ∧ s.st + s.ln ≤ 9007199254740991 ∧ nm (sb s.sv) = true ∧ nm (sb s.op) = true ∧ s.sj.size ≤ 64 ∧ mayA s.ats = 0)
  ⟨fun ⟨a, b, c, d, e, f, g, h, i, j⟩ => ⟨a, b, c, d, e, f, g, h, i, j⟩, fun h => ⟨h.tr, h.id, h.pa, h.st, h.ln, h.sum, h.sv, h.op, h.sj, h.ats⟩⟩
def chkS (s : Spn) : Int := if OkS s then 0 else 90
theorem chkS_no {s : Spn} (h : ¬ OkS s) : chkS s = 90 := if_neg h
theorem chkS_yes {s : Spn} (h : OkS s) : chkS s = 0 := if_pos h
def inM (n a : Int) : Bool := decide (a ≤ n ∧ n ≤ 9007199254740991)
theorem inM_iff {n a : Int} : inM n a = true ↔ a ≤ n ∧ n ≤ 9007199254740991 := by simp [inM]
theorem inM_no {n a : Int} (h : inM n a = false) : ¬ (a ≤ n ∧ n ≤ 9007199254740991) := by simpa [inM] using h
def BSp (w : World) (q : Nat) (s : Spn) (v : Value) : Prop := w.heap[q]? = some (.cells #[.int .i64 s.tr, .int .i64 s.id, .int .i64 s.pa, .string s.sv, .string s.op, .int .i64 s.st, .int .i64 s.ln, .string s.sj, v] 43 (0, 0))
theorem BSp.cells {w : World} {q : Nat} {s : Spn} {v : Value} (h : BSp w q s v) : w.cell? ⟨q, 0, none⟩ = some (.int .i64 s.tr) ∧ w.cell? ⟨q, 1, none⟩ = some (.int .i64 s.id) ∧ w.cell? ⟨q, 2, none⟩ = some (.int .i64 s.pa) ∧ w.cell? ⟨q, 3, none⟩ = some (.string s.sv) ∧ w.cell? ⟨q, 4, none⟩ = some (.string s.op) ∧ w.cell? ⟨q, 5, none⟩ = some (.int .i64 s.st) ∧ w.cell? ⟨q, 6, none⟩ = some (.int .i64 s.ln) ∧ w.cell? ⟨q, 7, none⟩ = some (.string s.sj) ∧ w.cell? ⟨q, 8, none⟩ = some v :=
  ⟨cell_of h 0, cell_of h 1, cell_of h 2, cell_of h 3, cell_of h 4, cell_of h 5, cell_of h 6, cell_of h 7, cell_of h 8⟩
theorem BSp.below {w w' : World} {q : Nat} {s : Spn} {v : Value} (h : BSp w q s v) (hb : Below w.heap.size w w') : BSp w' q s v := (hb.block q (Array.getElem?_eq_some_iff.1 h).1).trans h
theorem BSp.new (w : World) (s : Spn) (v : Value) : BSp (w.alloc (.cells #[.int .i64 s.tr, .int .i64 s.id, .int .i64 s.pa, .string s.sv, .string s.op, .int .i64 s.st, .int .i64 s.ln, .string s.sj, v] 43)) w.heap.size s v := heap_alloc_new w _
set_option maxHeartbeats 4000000 in
theorem in_any (n a : Int) (w : World) :
    Calls Try.prog 92 #[.int .i64 n, .int .i64 a] w fun e w' => e = .returned (.bool (inM n a)) ∧ w = w' := by
  by_cases h1 : a ≤ n
  · by_cases h2 : n ≤ 9007199254740991
    · rw [inM_iff.2 ⟨h1, h2⟩]
      go_enter Try.func92, Try.ntmps92
      go_wp2
      go_ret
      exact ⟨rfl, rfl⟩
    · rw [show inM n a = false from by simp [inM]; omega]
      go_enter Try.func92, Try.ntmps92
      go_wp2
      go_ret
      exact ⟨rfl, rfl⟩
  · rw [show inM n a = false from by simp [inM]; omega]
    go_enter Try.func92, Try.ntmps92
    go_wp2
    go_ret
    exact ⟨rfl, rfl⟩
theorem atP_bool (l : List Att) : (mayA l = 0 ∧ (atP l).2 = 0) ∨ (mayA l ≠ 0 ∧ (atP l).2 = 80) := by
  unfold atP
  by_cases h : mayA l = 0
  · exact .inl ⟨h, by rw [if_pos h]⟩
  · exact .inr ⟨h, by rw [if_neg h]⟩
set_option maxHeartbeats 16000000 in
set_option maxRecDepth 100000 in
theorem checkSpan_any {A : Option Addr} {n c : Nat} {s : Spn} {w : World} (h : AS w A n c s.ats) :
    Calls Try.prog 72 #[s.v (.slice A n c)] w fun e w' => e = .returned (.int .i64 (chkS s)) ∧ Below w.heap.size w w' := by
  have IN := Lib.hid (fun (n a : Int) (w : World) => in_any n a w)
  have hb1 : Below w.heap.size w (w.alloc (.cells #[.int .i64 s.tr, .int .i64 s.id, .int .i64 s.pa, .string s.sv, .string s.op, .int .i64 s.st, .int .i64 s.ln, .string s.sj, .slice A n c] 43)) := (bel0 w).alloc (Nat.le_refl _) _
  have X := Lib.hid (BSp.new w s (.slice A n c))
  have HA := Lib.hid (h.below hb1)
  have K0 := Lib.hid (fun h => chkS_no (s := s) h)
  have K1 := Lib.hid (fun h => chkS_yes (s := s) h)
  have HO := Lib.hid (fun (h : OkS s) => h)
  have AT := Lib.hid (fun (w : World) (h : AS w A n c s.ats) => attrs_any h)
  have HP := Lib.hid (atP_bool s.ats)
  clear h
  generalize chkS s = X0 at *
  unfold Spn.v
  go_enter Try.func72, Try.ntmps72
  go_wp2_with fail
  generalize hW : w.alloc _ = W1 at *
  clear hW
  obtain ⟨x0, x1, x2, x3, x4, x5, x6, x7, x8⟩ := X.out.cells
  refine (IN.out _ _ _).mono ?_
  rintro e wz ⟨rfl, rfl⟩
  by_cases hi : inM s.tr 1 = true
  case neg =>
    have hf : inM s.tr 1 = false := by simpa using hi
    rw [hf]
    replace hi := inM_no hf
    clear hf
    go_wp2_with fail
    refine (AT.out _ HA.out).mono ?_
    rintro e w2 ⟨v2, rfl, ho2, hb2⟩
    have hb12 := nx hb1 hb2
    obtain ⟨y0, y1, y2, y3, y4, y5, y6, y7, y8⟩ := (X.out.below hb2).cells
    clear x0 x1 x2 x3 x4 x5 x6 x7 x8
    go_wp2_with fail
    go_ret
    exact ⟨by rw [K0.out (fun h => hi h.tr)]; rfl, hb12⟩
  rw [hi]
  have h0 := inM_iff.1 hi
  clear hi
  go_wp2_with fail
  refine (IN.out _ _ _).mono ?_
  rintro e wz ⟨rfl, rfl⟩
  by_cases hi : inM s.id 1 = true
  case neg =>
    have hf : inM s.id 1 = false := by simpa using hi
    rw [hf]
    replace hi := inM_no hf
    clear hf
    go_wp2_with fail
    refine (AT.out _ HA.out).mono ?_
    rintro e w2 ⟨v2, rfl, ho2, hb2⟩
    have hb12 := nx hb1 hb2
    obtain ⟨y0, y1, y2, y3, y4, y5, y6, y7, y8⟩ := (X.out.below hb2).cells
    clear x0 x1 x2 x3 x4 x5 x6 x7 x8
    go_wp2_with fail
    go_ret
    exact ⟨by rw [K0.out (fun h => hi h.id)]; rfl, hb12⟩
  rw [hi]
  have h1 := inM_iff.1 hi
  clear hi
  go_wp2_with fail
  refine (IN.out _ _ _).mono ?_
  rintro e wz ⟨rfl, rfl⟩
  by_cases hi : inM s.pa 0 = true
  case neg =>
    have hf : inM s.pa 0 = false := by simpa using hi
    rw [hf]
    replace hi := inM_no hf
    clear hf
    go_wp2_with fail
    refine (AT.out _ HA.out).mono ?_
    rintro e w2 ⟨v2, rfl, ho2, hb2⟩
    have hb12 := nx hb1 hb2
    obtain ⟨y0, y1, y2, y3, y4, y5, y6, y7, y8⟩ := (X.out.below hb2).cells
    clear x0 x1 x2 x3 x4 x5 x6 x7 x8
    go_wp2_with fail
    go_ret
    exact ⟨by rw [K0.out (fun h => hi h.pa)]; rfl, hb12⟩
  rw [hi]
  have h2 := inM_iff.1 hi
  clear hi
  go_wp2_with fail
  refine (IN.out _ _ _).mono ?_
  rintro e wz ⟨rfl, rfl⟩
  by_cases hi : inM s.st 0 = true
  case neg =>
    have hf : inM s.st 0 = false := by simpa using hi
    rw [hf]
    replace hi := inM_no hf
    clear hf
    go_wp2_with fail
    refine (AT.out _ HA.out).mono ?_
    rintro e w2 ⟨v2, rfl, ho2, hb2⟩
    have hb12 := nx hb1 hb2
    obtain ⟨y0, y1, y2, y3, y4, y5, y6, y7, y8⟩ := (X.out.below hb2).cells
    clear x0 x1 x2 x3 x4 x5 x6 x7 x8
    go_wp2_with fail
    go_ret
    exact ⟨by rw [K0.out (fun h => hi h.st)]; rfl, hb12⟩
  rw [hi]
  have h3 := inM_iff.1 hi
  clear hi
  go_wp2_with fail
  refine (IN.out _ _ _).mono ?_
  rintro e wz ⟨rfl, rfl⟩
  by_cases hi : inM s.ln 0 = true
  case neg =>
    have hf : inM s.ln 0 = false := by simpa using hi
    rw [hf]
    replace hi := inM_no hf
    clear hf
    go_wp2_with fail
    refine (AT.out _ HA.out).mono ?_
    rintro e w2 ⟨v2, rfl, ho2, hb2⟩
    have hb12 := nx hb1 hb2
    obtain ⟨y0, y1, y2, y3, y4, y5, y6, y7, y8⟩ := (X.out.below hb2).cells
    clear x0 x1 x2 x3 x4 x5 x6 x7 x8
    go_wp2_with fail
    go_ret
    exact ⟨by rw [K0.out (fun h => hi h.ln)]; rfl, hb12⟩
  rw [hi]
  have h4 := inM_iff.1 hi
  clear hi
  have hs1 : s.st + s.ln ≤ 18014398509481982 := by omega
  have hs0 : 0 ≤ s.st + s.ln := by omega
  go_wp2_with fail
  refine (IN.out _ _ _).mono ?_
  rintro e wz ⟨rfl, rfl⟩
  by_cases hi : inM (s.st + s.ln) 0 = true
  case neg =>
    have hf : inM (s.st + s.ln) 0 = false := by simpa using hi
    rw [hf]
    replace hi := inM_no hf
    clear hf
    go_wp2_with fail
    refine (AT.out _ HA.out).mono ?_
    rintro e w2 ⟨v2, rfl, ho2, hb2⟩
    have hb12 := nx hb1 hb2
    obtain ⟨y0, y1, y2, y3, y4, y5, y6, y7, y8⟩ := (X.out.below hb2).cells
    clear x0 x1 x2 x3 x4 x5 x6 x7 x8
    go_wp2_with fail
    go_ret
    exact ⟨by rw [K0.out (fun h => hi ⟨by have := h.st; have := h.ln; omega, h.sum⟩)]; rfl, hb12⟩
  rw [hi]
  have h5 := inM_iff.1 hi
  clear hi
  go_wp2_with fail
  refine (AT.out _ HA.out).mono ?_
  rintro e w2 ⟨v2, rfl, ho2, hb2⟩
  have hb12 := nx hb1 hb2
  obtain ⟨y0, y1, y2, y3, y4, y5, y6, y7, y8⟩ := (X.out.below hb2).cells
  clear x0 x1 x2 x3 x4 x5 x6 x7 x8 ho2
  go_wp2_with fail
  refine (isName_any _ _).mono ?_
  rintro e wz ⟨rfl, rfl⟩
  by_cases g1 : nm (sb s.sv) = true
  case neg =>
    rw [show nm (sb s.sv) = false from by simpa using g1]
    go_wp2_with fail
    go_ret
    exact ⟨by rw [K0.out (fun h => g1 h.sv)]; rfl, hb12⟩
  rw [g1]
  go_wp2_with fail
  refine (isName_any _ _).mono ?_
  rintro e wz ⟨rfl, rfl⟩
  by_cases g2 : nm (sb s.op) = true
  case neg =>
    rw [show nm (sb s.op) = false from by simpa using g2]
    go_wp2_with fail
    go_ret
    exact ⟨by rw [K0.out (fun h => g2 h.op)]; rfl, hb12⟩
  rw [g2]
  by_cases g3 : s.sj.size ≤ 64
  case neg =>
    go_wp2_with fail
    go_ret
    exact ⟨by rw [K0.out (fun h => by have := h.sj; omega)]; rfl, hb12⟩
  rcases HP.out with ⟨g4, g5⟩ | ⟨g4, g5⟩
  · rw [g5]
    go_wp2_with fail
    go_ret
    exact ⟨by rw [K1.out ⟨h0, h1, h2, h3, h4, h5.2, g1, g2, g3, g4⟩]; rfl, hb12⟩
  · rw [g5]
    go_wp2_with fail
    go_ret
    exact ⟨by rw [K0.out (fun h => g4 h.ats)]; rfl, hb12⟩
end Go.Proofs.Ytfedgjahbmcpoaa
/- A batch's row of bytes: put, numbers, texts: contracts. No conditions. -/
set_option linter.unusedSimpArgs false
set_option linter.unusedVariables false
namespace Go.Proofs.Ytfedgjahbmcpoaa
open Go.RowKit

/-- What else lies there stays. -/
def KeepQ (w w' : World) (q : Nat) : Prop := w.heap.size ≤ w'.heap.size ∧ ∀ p c t mk, p ≠ q → t ≠ 5 → w.heap[p]? = some (.cells c t mk) → w'.heap[p]? = some (.cells c t mk)
theorem KeepQ.refl (w : World) (q : Nat) : KeepQ w w q := ⟨Nat.le_refl _, fun _ _ _ _ _ _ h => h⟩
theorem KeepQ.trans {w w1 w2 : World} {q : Nat} (h : KeepQ w w1 q) (h2 : KeepQ w1 w2 q) : KeepQ w w2 q := ⟨Nat.le_trans h.1 h2.1, fun p c t mk a b d => h2.2 p c t mk a b (h.2 p c t mk a b d)⟩
theorem KeepQ.ofBelow {w w' : World} (hb : Below w.heap.size w w') (q : Nat) : KeepQ w w' q := ⟨hb.size, fun p c t mk _ _ h => (hb.block p (Array.getElem?_eq_some_iff.1 h).1).trans h⟩
/-- Numbers' bytes, and whether one has none. -/
def uN (l : List Int) : List Nat := (l.map fun n => (uP n).1).flatten
def uE (l : List Int) : Bool := l.any fun n => decide ((uP n).2 ≠ 0)
def tN (l : List ByteArray) : List Nat := (l.map fun s => (tP s).1).flatten
def tE (l : List ByteArray) : Bool := l.any fun s => decide ((tP s).2 ≠ 0)
theorem uN_take {l : List Int} {k : Nat} (hk : k < l.length) : uN (l.take (k + 1)) = uN (l.take k) ++ (uP l[k]).1 ∧ uE (l.take (k + 1)) = (uE (l.take k) || decide ((uP l[k]).2 ≠ 0)) := by
  rw [List.take_succ_eq_append_getElem hk]
  constructor
  · unfold uN
    rw [List.map_append, List.flatten_append]
    simp
  · unfold uE
    rw [List.any_append]
    simp
theorem uN_len (l : List Int) : (uN l).length ≤ 8 * l.length := by
  induction l with
  | nil => simp [uN]
  | cons a l ih =>
    have := (uP_ok a).2
    unfold uN at *
    simp only [List.map_cons, List.flatten_cons, List.length_append, List.length_cons]
    omega
theorem uN_byt (l : List Int) : Byt (uN l) := by
  intro x hx
  unfold uN at hx
  simp only [List.mem_flatten, List.mem_map] at hx
  obtain ⟨_, ⟨a, _, rfl⟩, hx⟩ := hx
  exact (uP_ok a).1 x hx
theorem tN_take {l : List ByteArray} {k : Nat} (hk : k < l.length) : tN (l.take (k + 1)) = tN (l.take k) ++ (tP l[k]).1 ∧ tE (l.take (k + 1)) = (tE (l.take k) || decide ((tP l[k]).2 ≠ 0)) := by
  rw [List.take_succ_eq_append_getElem hk]
  constructor
  · unfold tN
    rw [List.map_append, List.flatten_append]
    simp
  · unfold tE
    rw [List.any_append]
    simp
theorem tN_len (l : List ByteArray) : (tN l).length ≤ 65543 * l.length := by
  induction l with
  | nil => simp [tN]
  | cons a l ih =>
    have := (tP_ok a).2
    unfold tN at *
    simp only [List.map_cons, List.flatten_cons, List.length_append, List.length_cons]
    omega
theorem tN_byt (l : List ByteArray) : Byt (tN l) := by
  intro x hx
  unfold tN at hx
  simp only [List.mem_flatten, List.mem_map] at hx
  obtain ⟨_, ⟨a, _, rfl⟩, hx⟩ := hx
  exact (tP_ok a).1 x hx
end Go.Proofs.Ytfedgjahbmcpoaa
/- The document's bytes of a list of attributes: the contract. No conditions. -/
set_option linter.unusedSimpArgs false
set_option linter.unusedVariables false
namespace Go.Proofs.Ytfedgjahbmcpoaa
open Go.RowKit

theorem own_far {w w' : World} {base : Nat} {e : TypeId} {size : Nat} {u : Value} {n : Nat} {xs : List Value} {row : Option Nat} (h : w.ownsRow base e size u n xs) (hg : w.grownBy w' row) (hne : ∀ k, u.ownBlock = some k → row ≠ some k) : w'.ownsRow base e size u n xs :=
  h.kept hg (by
    cases hv : u.ownBlock with
    | none => exact .inl rfl
    | some k => exact .inr (fun e => hne k hv (by rw [← e])))
end Go.Proofs.Ytfedgjahbmcpoaa
