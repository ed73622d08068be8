/- Two spans compared, by the document and by the program. No conditions. -/
import Derived.Test.YtnaijnbdhojhaaaGA27
import Derived.Test.YtnaijnbdhojhaaaGA14
set_option linter.unusedSimpArgs false
set_option linter.unusedVariables false
namespace Go.Proofs.Ytnaijnbdhojhaaa
open Go.RowKit

def SmR (w w' : World) (e : Ending) (p : Prop) : Prop := ∃ b, e = .returned (.bool b) ∧ (b = true ↔ p) ∧ Below w.heap.size w w'
theorem smNo {w w' : World} {p : Prop} (hp : ¬ p) (hb : Below w.heap.size w w') : SmR w w' (.returned (.bool false)) p := ⟨false, rfl, ⟨(by intro h; cases h), fun h => absurd h hp⟩, hb⟩
set_option maxHeartbeats 32000000 in
set_option maxRecDepth 100000 in
theorem refSameSpan_any {A B : Option Addr} {n c m d : Nat} {s t : Spn} {w : World} (h : AS w A n c s.ats) (h2 : AS w B m d t.ats) :
    Calls Try.prog 79 #[s.v (.slice A n c), t.v (.slice B m d)] w fun e w' => SmR w w' e (s = t) := by
  obtain ⟨tr1, id1, pa1, sv1, op1, st1, ln1, sj1, ats1⟩ := s
  obtain ⟨tr2, id2, pa2, sv2, op2, st2, ln2, sj2, ats2⟩ := t
  unfold Spn.v
  simp only at h h2 ⊢
  have hb1 := nx ((bel0 w).alloc (Nat.le_refl _) (.cells #[.int .i64 tr1, .int .i64 id1, .int .i64 pa1, .string sv1, .string op1, .int .i64 st1, .int .i64 ln1, .string sj1, .slice A n c] 42)) ((bel0 (w.alloc (.cells #[.int .i64 tr1, .int .i64 id1, .int .i64 pa1, .string sv1, .string op1, .int .i64 st1, .int .i64 ln1, .string sj1, .slice A n c] 42))).alloc (Nat.le_refl _) (.cells #[.int .i64 tr2, .int .i64 id2, .int .i64 pa2, .string sv2, .string op2, .int .i64 st2, .int .i64 ln2, .string sj2, .slice B m d] 42))
  have X1 : BSp _ w.heap.size ⟨tr1, id1, pa1, sv1, op1, st1, ln1, sj1, ats1⟩ (.slice A n c) := (BSp.new w ⟨tr1, id1, pa1, sv1, op1, st1, ln1, sj1, ats1⟩ (.slice A n c)).below ((bel0 _).alloc (Nat.le_refl _) (.cells #[.int .i64 tr2, .int .i64 id2, .int .i64 pa2, .string sv2, .string op2, .int .i64 st2, .int .i64 ln2, .string sj2, .slice B m d] 42))
  have X2 := BSp.new (w.alloc (.cells #[.int .i64 tr1, .int .i64 id1, .int .i64 pa1, .string sv1, .string op1, .int .i64 st1, .int .i64 ln1, .string sj1, .slice A n c] 42)) ⟨tr2, id2, pa2, sv2, op2, st2, ln2, sj2, ats2⟩ (.slice B m d)
  simp only at X1 X2 hb1
  have HA := Lib.hid (h.below hb1)
  have HB := Lib.hid (h2.below hb1)
  clear h h2
  go_enter Try.func79, Try.ntmps79
  skip
  rw [World.size_alloc] at X2
  obtain ⟨W1, hW⟩ : ∃ W, W = (w.alloc (.cells #[.int .i64 tr1, .int .i64 id1, .int .i64 pa1, .string sv1, .string op1, .int .i64 st1, .int .i64 ln1, .string sj1, .slice A n c] 42)).alloc (.cells #[.int .i64 tr2, .int .i64 id2, .int .i64 pa2, .string sv2, .string op2, .int .i64 st2, .int .i64 ln2, .string sj2, .slice B m d] 42) := ⟨_, rfl⟩
  rw [← hW] at X1 X2 hb1 HA HB
  have HB1 := Lib.hid hb1
  have HW := Lib.hid hW
  clear hb1 hW
  obtain ⟨x0, x1, x2, x3, x4, x5, x6, x7, x8⟩ := X1.cells
  obtain ⟨y0, y1, y2, y3, y4, y5, y6, y7, y8⟩ := X2.cells
  simp only at x0 x1 x2 x3 x4 x5 x6 x7 x8 y0 y1 y2 y3 y4 y5 y6 y7 y8
  clear X1 X2
  by_cases etr : tr1 = tr2
  case neg =>
    have hsf : (tr1 == tr2) = false := by simpa using etr
    go_wp2_with fail
    go_ret
    exact smNo (fun e => etr (by injection e)) (by rw [← HW.out]; exact HB1.out)
  subst etr
  by_cases eid : id1 = id2
  case neg =>
    have hsf : (id1 == id2) = false := by simpa using eid
    go_wp2_with fail
    go_ret
    exact smNo (fun e => eid (by injection e)) (by rw [← HW.out]; exact HB1.out)
  subst eid
  by_cases epa : pa1 = pa2
  case neg =>
    have hsf : (pa1 == pa2) = false := by simpa using epa
    go_wp2_with fail
    go_ret
    exact smNo (fun e => epa (by injection e)) (by rw [← HW.out]; exact HB1.out)
  subst epa
  by_cases esv : sv1 = sv2
  case neg =>
    have hsf : (sv1.toList == sv2.toList) = false := by simpa using (fun e => esv (toList_inj e))
    go_wp2_with fail
    go_ret
    exact smNo (fun e => esv (by injection e)) (by rw [← HW.out]; exact HB1.out)
  subst esv
  by_cases eop : op1 = op2
  case neg =>
    have hsf : (op1.toList == op2.toList) = false := by simpa using (fun e => eop (toList_inj e))
    go_wp2_with fail
    go_ret
    exact smNo (fun e => eop (by injection e)) (by rw [← HW.out]; exact HB1.out)
  subst eop
  by_cases est : st1 = st2
  case neg =>
    have hsf : (st1 == st2) = false := by simpa using est
    go_wp2_with fail
    go_ret
    exact smNo (fun e => est (by injection e)) (by rw [← HW.out]; exact HB1.out)
  subst est
  by_cases eln : ln1 = ln2
  case neg =>
    have hsf : (ln1 == ln2) = false := by simpa using eln
    go_wp2_with fail
    go_ret
    exact smNo (fun e => eln (by injection e)) (by rw [← HW.out]; exact HB1.out)
  subst eln
  by_cases esj : sj1 = sj2
  case neg =>
    have hsf : (sj1.toList == sj2.toList) = false := by simpa using (fun e => esj (toList_inj e))
    go_wp2_with fail
    go_ret
    exact smNo (fun e => esj (by injection e)) (by rw [← HW.out]; exact HB1.out)
  subst esj
  go_wp2_with fail
  rw [← HW.out]
  refine (same_any HA.out HB.out).mono ?_
  rintro e W2 ⟨bb, rfl, hbb, hb2⟩
  have HBB := Lib.hid hbb
  have HB2 := Lib.hid (nx HB1.out hb2)
  clear hbb hb2
  go_wp2_with fail
  go_ret
  exact ⟨bb, rfl, ⟨fun h => by rw [HBB.out.1 h], fun e => HBB.out.2 (by injection e)⟩, HB2.out⟩
set_option maxHeartbeats 8000000 in
set_option maxRecDepth 100000 in
theorem eqAtts_any {A B : Option Addr} {n c m d : Nat} {l r : List Att} {w : World} (h : AS w A n c l) (h2 : AS w B m d r) :
    Calls Try.prog 52 #[.slice A n c, .slice B m d] w fun e w' => ∃ b, e = .returned (.bool b) ∧ (b = true ↔ l = r) ∧ Below w.heap.size w w' := by
  obtain rfl := h.len
  obtain rfl := h2.len
  have HL := Lib.hid h
  have HM := Lib.hid h2
  have hlim := h.lim
  have hlim2 := h2.lim
  clear h h2
  by_cases hlen : l.length = r.length
  · have hd : ((l.length : Int) != (r.length : Int)) = false := by simp [hlen]
    have HLEN := Lib.hid hlen
    clear hlen
    go_enter Try.func52, Try.ntmps52
    go_wp2
    go_loopw [13] (fun i wr => ∃ k : Nat, k ≤ l.length ∧ i = .int .i64 k ∧ Hid (l.take k = r.take k) ∧ Below w.heap.size w wr) (fun i _ => l.length - (intOf i).toNat)
    case atStart => exact ⟨0, Nat.zero_le _, rfl, Lib.hid rfl, Below.refl _ _⟩
    case round =>
      obtain ⟨k, hk, rfl, HE, hb⟩ := hrel
      by_cases hlt : k < l.length
      · have hlt' : k < r.length := by rw [← HLEN.out]; exact hlt
        obtain ⟨g, o, hA, hc⟩ := HL.out.cellsAt hb hlt
        obtain ⟨g2, o2, hB, hc2⟩ := HM.out.cellsAt hb hlt'
        subst hA hB
        have haa : (⟨g, o, none⟩ : Addr).add (k * 6) = ⟨g, o + k * 6, none⟩ := addr_add _ _ _
        have haa2 : (⟨g2, o2, none⟩ : Addr).add (k * 6) = ⟨g2, o2 + k * 6, none⟩ := addr_add _ _ _
        have hl1 := take_snoc l k hlt
        have hm1 := take_snoc r k hlt'
        obtain ⟨a, ha⟩ : ∃ a, a = l[k] := ⟨_, rfl⟩
        obtain ⟨b, hb'⟩ : ∃ b, b = r[k] := ⟨_, rfl⟩
        rw [← ha] at hc hl1
        rw [← hb'] at hc2 hm1
        have hca0 : wr.cell? ⟨g, o + k * 6, none⟩ = some (.string a.name) := hc 0 _ rfl
        have hca1 := hc 1 _ rfl
        have hca2 := hc 2 _ rfl
        have hca3 := hc 3 _ rfl
        have hca4 := hc 4 _ rfl
        have hca5 := hc 5 _ rfl
        have hcb0 : wr.cell? ⟨g2, o2 + k * 6, none⟩ = some (.string b.name) := hc2 0 _ rfl
        have hcb1 := hc2 1 _ rfl
        have hcb2 := hc2 2 _ rfl
        have hcb3 := hc2 3 _ rfl
        have hcb4 := hc2 4 _ rfl
        have hcb5 := hc2 5 _ rfl
        have HL1 := Lib.hid hl1
        have HM1 := Lib.hid hm1
        clear hl1 hm1 hc hc2 ha hb'
        have hlt2 : (k : Int) < (r.length : Int) := by omega
        have heq := eqA_run a b
        have hiff := eqA_iff a b
        have HIFF := Lib.hid hiff
        generalize eqA a b = bb at *
        clear hiff
        cases bb with
        | true =>
          obtain rfl := HIFF.out.1 rfl
          go_wp2
          go_quiet (fail)
          go_wp2
          exact ⟨⟨k + 1, by omega, by go_num, Lib.hid (by rw [HL1.out, HM1.out, HE.out]), below_drewN hb _⟩, by simp [intOf]; omega⟩
        | false =>
          have hne : ¬ l = r := by
            intro e
            subst e
            have h1 := HL1.out
            rw [HM1.out] at h1
            have h2 := List.append_cancel_left h1
            injection h2 with h3
            have := HIFF.out.2 h3.symm
            simp at this
          have HNE := Lib.hid hne
          clear hne
          go_wp2
          go_quiet (fail)
          go_wp2
          go_ret
          exact ⟨false, rfl, ⟨(by intro h; cases h), fun h => absurd h HNE.out⟩, below_drewN hb _⟩
      · have hyes : l = r := by
          have h1 := HE.out
          rw [List.take_of_length_le (by omega), List.take_of_length_le (by rw [← HLEN.out]; omega)] at h1
          exact h1
        have HY := Lib.hid hyes
        clear hyes
        go_wp2
        go_ret
        exact ⟨true, rfl, ⟨fun _ => HY.out, fun _ => rfl⟩, hb⟩
  · have hd : ((l.length : Int) != (r.length : Int)) = true := by simp; omega
    have hne : ¬ l = r := fun h => hlen (by rw [h])
    have HNE := Lib.hid hne
    clear hne
    go_enter Try.func52, Try.ntmps52
    go_wp2
    go_ret
    exact ⟨false, rfl, ⟨(by intro h; cases h), fun h => absurd h HNE.out⟩, Below.refl _ _⟩
set_option maxHeartbeats 32000000 in
set_option maxRecDepth 100000 in
theorem sameSpan_any {A B : Option Addr} {n c m d : Nat} {s t : Spn} {w : World} (h : AS w A n c s.ats) (h2 : AS w B m d t.ats) :
    Calls Try.prog 51 #[s.v (.slice A n c), t.v (.slice B m d)] w fun e w' => SmR w w' e (s = t) := by
  obtain ⟨tr1, id1, pa1, sv1, op1, st1, ln1, sj1, ats1⟩ := s
  obtain ⟨tr2, id2, pa2, sv2, op2, st2, ln2, sj2, ats2⟩ := t
  unfold Spn.v
  simp only at h h2 ⊢
  have hb1 := nx ((bel0 w).alloc (Nat.le_refl _) (.cells #[.int .i64 tr1, .int .i64 id1, .int .i64 pa1, .string sv1, .string op1, .int .i64 st1, .int .i64 ln1, .string sj1, .slice A n c] 42)) ((bel0 (w.alloc (.cells #[.int .i64 tr1, .int .i64 id1, .int .i64 pa1, .string sv1, .string op1, .int .i64 st1, .int .i64 ln1, .string sj1, .slice A n c] 42))).alloc (Nat.le_refl _) (.cells #[.int .i64 tr2, .int .i64 id2, .int .i64 pa2, .string sv2, .string op2, .int .i64 st2, .int .i64 ln2, .string sj2, .slice B m d] 42))
  have X1 : BSp _ w.heap.size ⟨tr1, id1, pa1, sv1, op1, st1, ln1, sj1, ats1⟩ (.slice A n c) := (BSp.new w ⟨tr1, id1, pa1, sv1, op1, st1, ln1, sj1, ats1⟩ (.slice A n c)).below ((bel0 _).alloc (Nat.le_refl _) (.cells #[.int .i64 tr2, .int .i64 id2, .int .i64 pa2, .string sv2, .string op2, .int .i64 st2, .int .i64 ln2, .string sj2, .slice B m d] 42))
  have X2 := BSp.new (w.alloc (.cells #[.int .i64 tr1, .int .i64 id1, .int .i64 pa1, .string sv1, .string op1, .int .i64 st1, .int .i64 ln1, .string sj1, .slice A n c] 42)) ⟨tr2, id2, pa2, sv2, op2, st2, ln2, sj2, ats2⟩ (.slice B m d)
  simp only at X1 X2 hb1
  have HA := Lib.hid (h.below hb1)
  have HB := Lib.hid (h2.below hb1)
  clear h h2
  go_enter Try.func51, Try.ntmps51
  go_wp2_with fail
  rw [World.size_alloc] at X2
  obtain ⟨W1, hW⟩ : ∃ W, W = (w.alloc (.cells #[.int .i64 tr1, .int .i64 id1, .int .i64 pa1, .string sv1, .string op1, .int .i64 st1, .int .i64 ln1, .string sj1, .slice A n c] 42)).alloc (.cells #[.int .i64 tr2, .int .i64 id2, .int .i64 pa2, .string sv2, .string op2, .int .i64 st2, .int .i64 ln2, .string sj2, .slice B m d] 42) := ⟨_, rfl⟩
  rw [← hW] at X1 X2 hb1 HA HB ⊢
  have HB1 := Lib.hid hb1
  have HW := Lib.hid hW
  clear hb1 hW
  clear HW
  refine (eqAtts_any HA.out HB.out).mono ?_
  rintro e W2 ⟨bb, rfl, hbb, hb2⟩
  have HBB := Lib.hid hbb
  have HB2 := Lib.hid (nx HB1.out hb2)
  obtain ⟨x0, x1, x2, x3, x4, x5, x6, x7, x8⟩ := (X1.below hb2).cells
  obtain ⟨y0, y1, y2, y3, y4, y5, y6, y7, y8⟩ := (X2.below hb2).cells
  simp only at x0 x1 x2 x3 x4 x5 x6 x7 x8 y0 y1 y2 y3 y4 y5 y6 y7 y8
  clear hbb hb2 X1 X2
  cases bb with
  | false =>
    go_wp2_with fail
    go_ret
    exact smNo (fun e => by have := HBB.out.2 (by injection e); cases this) HB2.out
  | true =>
    have he := HBB.out.1 rfl
    by_cases etr : tr1 = tr2
    case neg =>
      have hsf : (tr1 == tr2) = false := by simpa using etr
      go_wp2_with fail
      go_ret
      exact smNo (fun e => etr (by injection e)) HB2.out
    subst etr
    by_cases eid : id1 = id2
    case neg =>
      have hsf : (id1 == id2) = false := by simpa using eid
      go_wp2_with fail
      go_ret
      exact smNo (fun e => eid (by injection e)) HB2.out
    subst eid
    by_cases epa : pa1 = pa2
    case neg =>
      have hsf : (pa1 == pa2) = false := by simpa using epa
      go_wp2_with fail
      go_ret
      exact smNo (fun e => epa (by injection e)) HB2.out
    subst epa
    by_cases esv : sv1 = sv2
    case neg =>
      have hsf : (sv1.toList == sv2.toList) = false := by simpa using (fun e => esv (toList_inj e))
      go_wp2_with fail
      go_ret
      exact smNo (fun e => esv (by injection e)) HB2.out
    subst esv
    by_cases eop : op1 = op2
    case neg =>
      have hsf : (op1.toList == op2.toList) = false := by simpa using (fun e => eop (toList_inj e))
      go_wp2_with fail
      go_ret
      exact smNo (fun e => eop (by injection e)) HB2.out
    subst eop
    by_cases est : st1 = st2
    case neg =>
      have hsf : (st1 == st2) = false := by simpa using est
      go_wp2_with fail
      go_ret
      exact smNo (fun e => est (by injection e)) HB2.out
    subst est
    by_cases eln : ln1 = ln2
    case neg =>
      have hsf : (ln1 == ln2) = false := by simpa using eln
      go_wp2_with fail
      go_ret
      exact smNo (fun e => eln (by injection e)) HB2.out
    subst eln
    by_cases esj : sj1 = sj2
    case neg =>
      have hsf : (sj1.toList == sj2.toList) = false := by simpa using (fun e => esj (toList_inj e))
      go_wp2_with fail
      go_ret
      exact smNo (fun e => esj (by injection e)) HB2.out
    subst esj
    go_wp2_with fail
    go_ret
    exact ⟨true, rfl, ⟨fun _ => by rw [he], fun _ => rfl⟩, HB2.out⟩
end Go.Proofs.Ytnaijnbdhojhaaa
