/- A row of spans of one's own, each with attributes of its own. No conditions. -/
import Derived.Test.YtbhfbpaaghpadaaGC23
import Derived.Test.YtbhfbpaaghpadaaGC16
import Derived.Test.YtbhfbpaaghpadaaGC13
set_option linter.unusedSimpArgs false
set_option linter.unusedVariables false
namespace Go.Proofs.Ytbhfbpaaghpadaa
open Go.RowKit

theorem infoSpn : (Try.prog.info? 32).map (fun i => (i.zero, i.size, i.bytes)) = some (some (.agg #[.int .i64 0, .int .i64 0, .int .i64 0, .string ⟨#[]⟩, .string ⟨#[]⟩, .int .i64 0, .int .i64 0, .string ⟨#[]⟩, .slice none 0 0]), 9, 112) := by kernel_rfl
def spc : List Spn → List Value → List Value
  | s :: l, v :: vs => s.cells v ++ spc l vs
  | _, _ => []
theorem spc_length : ∀ (l : List Spn) (vs : List Value), vs.length = l.length → (spc l vs).length = 9 * l.length
  | [], [], _ => rfl
  | s :: l, v :: vs, h => by
    have := spc_length l vs (by simpa using h)
    simp only [spc, List.length_append, List.length_cons, this, Spn.cells, List.length_nil]
    omega
theorem spc_snoc : ∀ (l : List Spn) (vs : List Value) (s : Spn) (v : Value), vs.length = l.length → spc (l ++ [s]) (vs ++ [v]) = spc l vs ++ s.cells v
  | [], [], s, v, _ => by simp [spc]
  | a :: l, b :: vs, s, v, h => by
    have := spc_snoc l vs s v (by simpa using h)
    simp only [List.cons_append, spc, this, List.append_assoc]
theorem spc_at : ∀ (l : List Spn) (vs : List Value), vs.length = l.length → ∀ i (h : i < l.length) (h2 : i < vs.length) j, j < 9 → (spc l vs)[9 * i + j]? = (l[i].cells vs[i])[j]?
  | a :: l, b :: vs, hv, 0, h, h2, j, hj => by
    simp only [spc, Nat.mul_zero, Nat.zero_add, List.getElem_cons_zero]
    rw [List.getElem?_append_left (by simpa [Spn.cells] using hj)]
  | a :: l, b :: vs, hv, i + 1, h, h2, j, hj => by
    have := spc_at l vs (by simpa using hv) i (by simpa using h) (by simpa using h2) j hj
    have hl9 : (a.cells b).length = 9 := rfl
    simp only [spc, List.getElem_cons_succ]
    rw [List.getElem?_append_right (by rw [hl9]; omega), hl9, show 9 * (i + 1) + j - 9 = 9 * i + j by omega]
    exact this
/-- A row of spans of one's own, each with a row of attributes of its own. -/
def SpOwn (w : World) (base : Nat) (v : Value) (l : List Spn) : Prop := ∃ vs : List Value, ∃ hv : vs.length = l.length, w.ownsRow base 32 9 v l.length (spc l vs) ∧ ∀ i (h : i < l.length), w.ownsRow base 46 6 (vs[i]'(by omega)) l[i].ats.length (acs l[i].ats)
theorem SpOwn.nil (w : World) (base : Nat) : SpOwn w base (.slice none 0 0) [] := ⟨[], rfl, World.ownsRow_nil _ _ _ _, fun i h => absurd h (by simp)⟩
theorem SpOwn.below {w w' : World} {base : Nat} {v : Value} {l : List Spn} (h : SpOwn w base v l) (hb : Below w.heap.size w w') : SpOwn w' base v l := by
  obtain ⟨vs, hv, h1, h2⟩ := h
  exact ⟨vs, hv, ownsRow_below h1 hb, fun i hi => ownsRow_below (h2 i hi) hb⟩
theorem own_types {w : World} {b1 b2 : Nat} {t1 t2 : TypeId} {s1 s2 n1 n2 : Nat} {v1 v2 : Value} {x1 x2 : List Value} (h : w.ownsRow b1 t1 s1 v1 n1 x1) (h2 : w.ownsRow b2 t2 s2 v2 n2 x2) (ht : t1 ≠ t2) {k : Nat} (hk : v1.ownBlock = some k) : v2.ownBlock ≠ some k := by
  intro hk2
  rcases h.2 with ⟨hv, _⟩ | ⟨g, cap, cur, hv, _, hg, _⟩
  · rw [hv] at hk; cases hk
  · rcases h2.2 with ⟨hv2, _⟩ | ⟨g2, cap2, cur2, hv2, _, hg2, _⟩
    · rw [hv2] at hk2; cases hk2
    · rw [hv] at hk
      rw [hv2] at hk2
      have e1 : g = k := by injection hk
      have e2 : g2 = k := by injection hk2
      subst e1
      subst e2
      rw [hg] at hg2
      injection hg2 with h1
      injection h1 with _ h3 _
      exact ht h3
theorem spn_oneCell (s : Spn) {v : Value} (hv : v.oneCell' = true) : ∀ u ∈ s.cells v, u.oneCell' = true := by
  intro u hu
  simp only [Spn.cells, List.mem_cons, List.not_mem_nil, or_false] at hu
  rcases hu with rfl | rfl | rfl | rfl | rfl | rfl | rfl | rfl | rfl <;> first | rfl | exact hv
/-- append(v, s) of one span, which lies in a block of its own. -/
theorem append_sp {w : World} {ops : Array Oper} {rest : List Oper} {o : Oper} {a : Act} {Q : Exit → Act → World → Prop} (hgd : o.guard = none) (s x : Operand)
    (ho : o.op = .call { callee := .builtin .append, args := #[s, x], argTypes := #[22, 22] })
    (base : Nat) (v : Value) (l : List Spn) (b : Spn) (u : Value) (hs : a.eval s = v) (hown : SpOwn w base v l) (hu : w.ownsRow base 46 6 u b.ats.length (acs b.ats))
    (g : Nat) (hx : a.eval x = .slice (some ⟨g, 0, none⟩) 1 1) (hm : BSp w g b u) (hb : l.length + 1 ≤ 1256584717421) (hbase : base ≤ w.heap.size)
    (h : ∀ v' w', SpOwn w' base v' (l ++ [b]) → w.grownBy w' v.ownBlock → (∀ k, v.ownBlock = some k → base ≤ k) → wpList Try.prog ops Q rest (a.put o.dst v') w') :
    wpList Try.prog ops Q (o :: rest) a w :=
  wpList_plain hgd fun _ hK => by
    obtain ⟨vs, hv, h1, h2⟩ := hown
    have huc : u.oneCell' = true := by rcases hu.2 with ⟨e, _⟩ | ⟨_, _, _, e, _⟩ <;> rw [e] <;> rfl
    refine wp_append_any s x _ ho base 32 _ 9 112 Try.underlying22 infoSpn rfl (by decide) v l.length (spc l vs) hs h1 _ 1 1 (b.cells u) hx (by simp) (by omega) rfl ?_ (spn_oneCell b huc) (by unfold maxLen; omega) (by omega) hbase ?_
    · intro i hi
      refine ⟨_, rfl, ?_⟩
      rw [addr_add, Nat.zero_add, cell_of hm i]
      show ((b.cells u).toArray)[i]? = _
      rw [List.getElem?_toArray]
      exact List.getElem?_eq_getElem hi
    · intro v' w' h3 h4 h5
      refine hK _ _ (h v' w' ⟨vs ++ [u], by simp [hv], ?_, fun i hi => ?_⟩ h4 (fun k hk => (h1.lt k hk).1))
      · rw [spc_snoc l vs b u hv]
        simpa using h3
      · have hfar : ∀ (y : Value) (n : Nat) (xs : List Value), w.ownsRow base 46 6 y n xs → w'.ownsRow base 46 6 y n xs := fun y n xs hy => own_far hy h4 (fun k hk => own_types hy h1 (by decide) hk)
        by_cases hil : i < l.length
        · rw [List.getElem_append_left (by omega)]
          have e : (l ++ [b])[i] = l[i] := List.getElem_append_left hil
          rw [e]
          exact hfar _ _ _ (h2 i hil)
        · have hi2 : i = l.length := by rw [List.length_append, List.length_cons, List.length_nil] at hi; omega
          subst hi2
          have e : (l ++ [b])[l.length]'hi = b := by simp
          have e2 : (vs ++ [u])[l.length]'(by simp [hv]) = u := by simp [← hv]
          rw [e2, e]
          exact hfar _ _ _ hu
theorem SpOwn.ls {w : World} {base : Nat} {v : Value} {l : List Spn} (h : SpOwn w base v l) (hp : ∀ s ∈ l, ∀ a ∈ s.ats, a.lab.p < 4294967296) (ha : ∀ s ∈ l, s.ats.length ≤ 2199023255552) (hl : l.length ≤ 1256584717421) : ∃ A n c, v = .slice A n c ∧ LS w A n c l := by
  obtain ⟨vs, hv, h1, h2⟩ := h
  obtain ⟨A, c, e, hle, _, hnil, hlies, hA⟩ := ownsRow_lies h1
  refine ⟨A, l.length, c, e, rfl, hle, hnil, fun i hi => ?_, hl⟩
  have hlen := spc_length l vs hv
  obtain ⟨B, m, d, e2, hAS⟩ := own_asL (h2 i hi) (hp _ (List.getElem_mem hi)) (ha _ (List.getElem_mem hi))
  rcases h1.2 with ⟨_, h0⟩ | ⟨g, cap, cur, e3, hb, hg, _⟩
  · omega
  · rw [e3] at e
    injection e with e4 _ _
    refine ⟨g, 0, B, m, d, e4.symm, fun j u hj => ?_, hAS⟩
    have hj9 : j < 9 := (List.getElem?_eq_some_iff.1 hj).1
    obtain ⟨ad, hA2, hc⟩ := hlies (i * 9 + j) (by rw [hlen]; omega)
    rw [← e4] at hA2
    cases hA2
    rw [addr_add, ← Nat.add_assoc] at hc
    rw [hc, ← hj, ← e2, ← spc_at l vs hv i hi (by omega) j hj9, show 9 * i + j = i * 9 + j by omega]
    exact (List.getElem?_eq_getElem _).symm
end Go.Proofs.Ytbhfbpaaghpadaa
/- Two spans compared, by the document and by the program. No conditions. -/
set_option linter.unusedSimpArgs false
set_option linter.unusedVariables false
namespace Go.Proofs.Ytbhfbpaaghpadaa
open Go.RowKit

def SmR (w w' : World) (e : Ending) (p : Prop) : Prop := ∃ b, e = .returned (.bool b) ∧ (b = true ↔ p) ∧ Below w.heap.size w w'
theorem smNo {w w' : World} {p : Prop} (hp : ¬ p) (hb : Below w.heap.size w w') : SmR w w' (.returned (.bool false)) p := ⟨false, rfl, ⟨(by intro h; cases h), fun h => absurd h hp⟩, hb⟩
set_option maxHeartbeats 32000000 in
set_option maxRecDepth 100000 in
theorem refSameSpan_any {A B : Option Addr} {n c m d : Nat} {s t : Spn} {w : World} (h : AS w A n c s.ats) (h2 : AS w B m d t.ats) :
    Calls Try.prog 59 #[s.v (.slice A n c), t.v (.slice B m d)] w fun e w' => SmR w w' e (s = t) := by
  obtain ⟨tr1, id1, pa1, sv1, op1, st1, ln1, sj1, ats1⟩ := s
  obtain ⟨tr2, id2, pa2, sv2, op2, st2, ln2, sj2, ats2⟩ := t
  unfold Spn.v
  simp only at h h2 ⊢
  have hb1 := nx ((bel0 w).alloc (Nat.le_refl _) (.cells #[.int .i64 tr1, .int .i64 id1, .int .i64 pa1, .string sv1, .string op1, .int .i64 st1, .int .i64 ln1, .string sj1, .slice A n c] 32)) ((bel0 (w.alloc (.cells #[.int .i64 tr1, .int .i64 id1, .int .i64 pa1, .string sv1, .string op1, .int .i64 st1, .int .i64 ln1, .string sj1, .slice A n c] 32))).alloc (Nat.le_refl _) (.cells #[.int .i64 tr2, .int .i64 id2, .int .i64 pa2, .string sv2, .string op2, .int .i64 st2, .int .i64 ln2, .string sj2, .slice B m d] 32))
  have X1 : BSp _ w.heap.size ⟨tr1, id1, pa1, sv1, op1, st1, ln1, sj1, ats1⟩ (.slice A n c) := (BSp.new w ⟨tr1, id1, pa1, sv1, op1, st1, ln1, sj1, ats1⟩ (.slice A n c)).below ((bel0 _).alloc (Nat.le_refl _) (.cells #[.int .i64 tr2, .int .i64 id2, .int .i64 pa2, .string sv2, .string op2, .int .i64 st2, .int .i64 ln2, .string sj2, .slice B m d] 32))
  have X2 := BSp.new (w.alloc (.cells #[.int .i64 tr1, .int .i64 id1, .int .i64 pa1, .string sv1, .string op1, .int .i64 st1, .int .i64 ln1, .string sj1, .slice A n c] 32)) ⟨tr2, id2, pa2, sv2, op2, st2, ln2, sj2, ats2⟩ (.slice B m d)
  simp only at X1 X2 hb1
  have HA := Lib.hid (h.below hb1)
  have HB := Lib.hid (h2.below hb1)
  clear h h2
  go_enter Try.func59, Try.ntmps59
  skip
  rw [World.size_alloc] at X2
  obtain ⟨W1, hW⟩ : ∃ W, W = (w.alloc (.cells #[.int .i64 tr1, .int .i64 id1, .int .i64 pa1, .string sv1, .string op1, .int .i64 st1, .int .i64 ln1, .string sj1, .slice A n c] 32)).alloc (.cells #[.int .i64 tr2, .int .i64 id2, .int .i64 pa2, .string sv2, .string op2, .int .i64 st2, .int .i64 ln2, .string sj2, .slice B m d] 32) := ⟨_, rfl⟩
  rw [← hW] at X1 X2 hb1 HA HB
  have HB1 := Lib.hid hb1
  have HW := Lib.hid hW
  clear hb1 hW
  obtain ⟨x0, x1, x2, x3, x4, x5, x6, x7, x8⟩ := X1.cells
  obtain ⟨y0, y1, y2, y3, y4, y5, y6, y7, y8⟩ := X2.cells
  simp only at x0 x1 x2 x3 x4 x5 x6 x7 x8 y0 y1 y2 y3 y4 y5 y6 y7 y8
  clear X1 X2
  by_cases etr : tr1 = tr2
  case neg =>
    have hsf : (tr1 == tr2) = false := by simpa using etr
    go_wp2_with fail
    go_ret
    exact smNo (fun e => etr (by injection e)) (by rw [← HW.out]; exact HB1.out)
  subst etr
  by_cases eid : id1 = id2
  case neg =>
    have hsf : (id1 == id2) = false := by simpa using eid
    go_wp2_with fail
    go_ret
    exact smNo (fun e => eid (by injection e)) (by rw [← HW.out]; exact HB1.out)
  subst eid
  by_cases epa : pa1 = pa2
  case neg =>
    have hsf : (pa1 == pa2) = false := by simpa using epa
    go_wp2_with fail
    go_ret
    exact smNo (fun e => epa (by injection e)) (by rw [← HW.out]; exact HB1.out)
  subst epa
  by_cases esv : sv1 = sv2
  case neg =>
    have hsf : (sv1.toList == sv2.toList) = false := by simpa using (fun e => esv (toList_inj e))
    go_wp2_with fail
    go_ret
    exact smNo (fun e => esv (by injection e)) (by rw [← HW.out]; exact HB1.out)
  subst esv
  by_cases eop : op1 = op2
  case neg =>
    have hsf : (op1.toList == op2.toList) = false := by simpa using (fun e => eop (toList_inj e))
    go_wp2_with fail
    go_ret
    exact smNo (fun e => eop (by injection e)) (by rw [← HW.out]; exact HB1.out)
  subst eop
  by_cases est : st1 = st2
  case neg =>
    have hsf : (st1 == st2) = false := by simpa using est
    go_wp2_with fail
    go_ret
    exact smNo (fun e => est (by injection e)) (by rw [← HW.out]; exact HB1.out)
  subst est
  by_cases eln : ln1 = ln2
  case neg =>
    have hsf : (ln1 == ln2) = false := by simpa using eln
    go_wp2_with fail
    go_ret
    exact smNo (fun e => eln (by injection e)) (by rw [← HW.out]; exact HB1.out)
  subst eln
  by_cases esj : sj1 = sj2
  case neg =>
    have hsf : (sj1.toList == sj2.toList) = false := by simpa using (fun e => esj (toList_inj e))
    go_wp2_with fail
    go_ret
    exact smNo (fun e => esj (by injection e)) (by rw [← HW.out]; exact HB1.out)
  subst esj
  go_wp2_with fail
  rw [← HW.out]
  refine (same_any HA.out HB.out).mono ?_
  rintro e W2 ⟨bb, rfl, hbb, hb2⟩
  have HBB := Lib.hid hbb
  have HB2 := Lib.hid (nx HB1.out hb2)
  clear hbb hb2
  go_wp2_with fail
  go_ret
  exact ⟨bb, rfl, ⟨fun h => by rw [HBB.out.1 h], fun e => HBB.out.2 (by injection e)⟩, HB2.out⟩
end Go.Proofs.Ytbhfbpaaghpadaa
