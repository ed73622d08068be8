/- A row of spans of one's own, each with attributes of its own. No conditions. -/
import Derived.Test.YtfedgjahbmcpoaaGA21
import Derived.Test.YtfedgjahbmcpoaaGA15
import Derived.Test.YtfedgjahbmcpoaaGA13
set_option linter.unusedSimpArgs false
set_option linter.unusedVariables false
namespace Go.Proofs.Ytfedgjahbmcpoaa
open Go.RowKit

theorem infoSpn : (Try.prog.info? 43).map (fun i => (i.zero, i.size, i.bytes)) = some (some (.agg #[.int .i64 0, .int .i64 0, .int .i64 0, .string ⟨#[]⟩, .string ⟨#[]⟩, .int .i64 0, .int .i64 0, .string ⟨#[]⟩, .slice none 0 0]), 9, 112) := by kernel_rfl
def spc : List Spn → List Value → List Value
  | s :: l, v :: vs => s.cells v ++ spc l vs
  | _, _ => []
theorem spc_length : ∀ (l : List Spn) (vs : List Value), vs.length = l.length → (spc l vs).length = 9 * l.length
  | [], [], _ => rfl
  | s :: l, v :: vs, h => by
    have := spc_length l vs (by simpa using h)
    simp only [spc, List.length_append, List.length_cons, this, Spn.cells, List.length_nil]
    omega
theorem spc_snoc : ∀ (l : List Spn) (vs : List Value) (s : Spn) (v : Value), vs.length = l.length → spc (l ++ [s]) (vs ++ [v]) = spc l vs ++ s.cells v
  | [], [], s, v, _ => by simp [spc]
  | a :: l, b :: vs, s, v, h => by
    have := spc_snoc l vs s v (by simpa using h)
    simp only [List.cons_append, spc, this, List.append_assoc]
theorem spc_at : ∀ (l : List Spn) (vs : List Value), vs.length = l.length → ∀ i (h : i < l.length) (h2 : i < vs.length) j, j < 9 → (spc l vs)[9 * i + j]? = (l[i].cells vs[i])[j]?
  | a :: l, b :: vs, hv, 0, h, h2, j, hj => by
    simp only [spc, Nat.mul_zero, Nat.zero_add, List.getElem_cons_zero]
    rw [List.getElem?_append_left (by simpa [Spn.cells] using hj)]
  | a :: l, b :: vs, hv, i + 1, h, h2, j, hj => by
    have := spc_at l vs (by simpa using hv) i (by simpa using h) (by simpa using h2) j hj
    have hl9 : (a.cells b).length = 9 := rfl
    simp only [spc, List.getElem_cons_succ]
    rw [List.getElem?_append_right (by rw [hl9]; omega), hl9, show 9 * (i + 1) + j - 9 = 9 * i + j by omega]
    exact this
/-- A row of spans of one's own, each with a row of attributes of its own. -/
def SpOwn (w : World) (base : Nat) (v : Value) (l : List Spn) : Prop := ∃ vs : List Value, ∃ hv : vs.length = l.length, w.ownsRow base 43 9 v l.length (spc l vs) ∧ ∀ i (h : i < l.length), w.ownsRow base 93 6 (vs[i]'(by omega)) l[i].ats.length (acs l[i].ats)
theorem SpOwn.nil (w : World) (base : Nat) : SpOwn w base (.slice none 0 0) [] := ⟨[], rfl, World.ownsRow_nil _ _ _ _, fun i h => absurd h (by simp)⟩
theorem SpOwn.below {w w' : World} {base : Nat} {v : Value} {l : List Spn} (h : SpOwn w base v l) (hb : Below w.heap.size w w') : SpOwn w' base v l := by
  obtain ⟨vs, hv, h1, h2⟩ := h
  exact ⟨vs, hv, ownsRow_below h1 hb, fun i hi => ownsRow_below (h2 i hi) hb⟩
theorem own_types {w : World} {b1 b2 : Nat} {t1 t2 : TypeId} {s1 s2 n1 n2 : Nat} {v1 v2 : Value} {x1 x2 : List Value} (h : w.ownsRow b1 t1 s1 v1 n1 x1) (h2 : w.ownsRow b2 t2 s2 v2 n2 x2) (ht : t1 ≠ t2) {k : Nat} (hk : v1.ownBlock = some k) : v2.ownBlock ≠ some k := by
  intro hk2
  rcases h.2 with ⟨hv, _⟩ | ⟨g, cap, cur, hv, _, hg, _⟩
  · rw [hv] at hk; cases hk
  · rcases h2.2 with ⟨hv2, _⟩ | ⟨g2, cap2, cur2, hv2, _, hg2, _⟩
    · rw [hv2] at hk2; cases hk2
    · rw [hv] at hk
      rw [hv2] at hk2
      have e1 : g = k := by injection hk
      have e2 : g2 = k := by injection hk2
      subst e1
      subst e2
      rw [hg] at hg2
      injection hg2 with h1
      injection h1 with _ h3 _
      exact ht h3
theorem spn_oneCell (s : Spn) {v : Value} (hv : v.oneCell' = true) : ∀ u ∈ s.cells v, u.oneCell' = true := by
  intro u hu
  simp only [Spn.cells, List.mem_cons, List.not_mem_nil, or_false] at hu
  rcases hu with rfl | rfl | rfl | rfl | rfl | rfl | rfl | rfl | rfl <;> first | rfl | exact hv
theorem SpOwn.ls {w : World} {base : Nat} {v : Value} {l : List Spn} (h : SpOwn w base v l) (hp : ∀ s ∈ l, ∀ a ∈ s.ats, a.lab.p < 4294967296) (ha : ∀ s ∈ l, s.ats.length ≤ 2199023255552) (hl : l.length ≤ 1256584717421) : ∃ A n c, v = .slice A n c ∧ LS w A n c l := by
  obtain ⟨vs, hv, h1, h2⟩ := h
  obtain ⟨A, c, e, hle, _, hnil, hlies, hA⟩ := ownsRow_lies h1
  refine ⟨A, l.length, c, e, rfl, hle, hnil, fun i hi => ?_, hl⟩
  have hlen := spc_length l vs hv
  obtain ⟨B, m, d, e2, hAS⟩ := own_asL (h2 i hi) (hp _ (List.getElem_mem hi)) (ha _ (List.getElem_mem hi))
  rcases h1.2 with ⟨_, h0⟩ | ⟨g, cap, cur, e3, hb, hg, _⟩
  · omega
  · rw [e3] at e
    injection e with e4 _ _
    refine ⟨g, 0, B, m, d, e4.symm, fun j u hj => ?_, hAS⟩
    have hj9 : j < 9 := (List.getElem?_eq_some_iff.1 hj).1
    obtain ⟨ad, hA2, hc⟩ := hlies (i * 9 + j) (by rw [hlen]; omega)
    rw [← e4] at hA2
    cases hA2
    rw [addr_add, ← Nat.add_assoc] at hc
    rw [hc, ← hj, ← e2, ← spc_at l vs hv i hi (by omega) j hj9, show 9 * i + j = i * 9 + j by omega]
    exact (List.getElem?_eq_getElem _).symm
end Go.Proofs.Ytfedgjahbmcpoaa
/- Two spans compared, by the document and by the program. No conditions. -/
set_option linter.unusedSimpArgs false
set_option linter.unusedVariables false
namespace Go.Proofs.Ytfedgjahbmcpoaa
open Go.RowKit

def SmR (w w' : World) (e : Ending) (p : Prop) : Prop := ∃ b, e = .returned (.bool b) ∧ (b = true ↔ p) ∧ Below w.heap.size w w'
theorem smNo {w w' : World} {p : Prop} (hp : ¬ p) (hb : Below w.heap.size w w') : SmR w w' (.returned (.bool false)) p := ⟨false, rfl, ⟨(by intro h; cases h), fun h => absurd h hp⟩, hb⟩
set_option maxHeartbeats 8000000 in
set_option maxRecDepth 100000 in
theorem eqAtts_any {A B : Option Addr} {n c m d : Nat} {l r : List Att} {w : World} (h : AS w A n c l) (h2 : AS w B m d r) :
    Calls Try.prog 49 #[.slice A n c, .slice B m d] w fun e w' => ∃ b, e = .returned (.bool b) ∧ (b = true ↔ l = r) ∧ Below w.heap.size w w' := by
  obtain rfl := h.len
  obtain rfl := h2.len
  have HL := Lib.hid h
  have HM := Lib.hid h2
  have hlim := h.lim
  have hlim2 := h2.lim
  clear h h2
  by_cases hlen : l.length = r.length
  · have hd : ((l.length : Int) != (r.length : Int)) = false := by simp [hlen]
    have HLEN := Lib.hid hlen
    clear hlen
    go_enter Try.func49, Try.ntmps49
    go_wp2
    go_loopw [13] (fun i wr => ∃ k : Nat, k ≤ l.length ∧ i = .int .i64 k ∧ Hid (l.take k = r.take k) ∧ Below w.heap.size w wr) (fun i _ => l.length - (intOf i).toNat)
    case atStart => exact ⟨0, Nat.zero_le _, rfl, Lib.hid rfl, Below.refl _ _⟩
    case round =>
      obtain ⟨k, hk, rfl, HE, hb⟩ := hrel
      by_cases hlt : k < l.length
      · have hlt' : k < r.length := by rw [← HLEN.out]; exact hlt
        obtain ⟨g, o, hA, hc⟩ := HL.out.cellsAt hb hlt
        obtain ⟨g2, o2, hB, hc2⟩ := HM.out.cellsAt hb hlt'
        subst hA hB
        have haa : (⟨g, o, none⟩ : Addr).add (k * 6) = ⟨g, o + k * 6, none⟩ := addr_add _ _ _
        have haa2 : (⟨g2, o2, none⟩ : Addr).add (k * 6) = ⟨g2, o2 + k * 6, none⟩ := addr_add _ _ _
        have hl1 := take_snoc l k hlt
        have hm1 := take_snoc r k hlt'
        obtain ⟨a, ha⟩ : ∃ a, a = l[k] := ⟨_, rfl⟩
        obtain ⟨b, hb'⟩ : ∃ b, b = r[k] := ⟨_, rfl⟩
        rw [← ha] at hc hl1
        rw [← hb'] at hc2 hm1
        have hca0 : wr.cell? ⟨g, o + k * 6, none⟩ = some (.string a.name) := hc 0 _ rfl
        have hca1 := hc 1 _ rfl
        have hca2 := hc 2 _ rfl
        have hca3 := hc 3 _ rfl
        have hca4 := hc 4 _ rfl
        have hca5 := hc 5 _ rfl
        have hcb0 : wr.cell? ⟨g2, o2 + k * 6, none⟩ = some (.string b.name) := hc2 0 _ rfl
        have hcb1 := hc2 1 _ rfl
        have hcb2 := hc2 2 _ rfl
        have hcb3 := hc2 3 _ rfl
        have hcb4 := hc2 4 _ rfl
        have hcb5 := hc2 5 _ rfl
        have HL1 := Lib.hid hl1
        have HM1 := Lib.hid hm1
        clear hl1 hm1 hc hc2 ha hb'
        have hlt2 : (k : Int) < (r.length : Int) := by omega
        have heq := eqA_run a b
        have hiff := eqA_iff a b
        have HIFF := Lib.hid hiff
        generalize eqA a b = bb at *
        clear hiff
        cases bb with
        | true =>
          obtain rfl := HIFF.out.1 rfl
          go_wp2
          go_quiet (fail)
          go_wp2
          exact ⟨⟨k + 1, by omega, by go_num, Lib.hid (by rw [HL1.out, HM1.out, HE.out]), below_drewN hb _⟩, by simp [intOf]; omega⟩
        | false =>
          have hne : ¬ l = r := by
            intro e
            subst e
            have h1 := HL1.out
            rw [HM1.out] at h1
            have h2 := List.append_cancel_left h1
            injection h2 with h3
            have := HIFF.out.2 h3.symm
            simp at this
          have HNE := Lib.hid hne
          clear hne
          go_wp2
          go_quiet (fail)
          go_wp2
          go_ret
          exact ⟨false, rfl, ⟨(by intro h; cases h), fun h => absurd h HNE.out⟩, below_drewN hb _⟩
      · have hyes : l = r := by
          have h1 := HE.out
          rw [List.take_of_length_le (by omega), List.take_of_length_le (by rw [← HLEN.out]; omega)] at h1
          exact h1
        have HY := Lib.hid hyes
        clear hyes
        go_wp2
        go_ret
        exact ⟨true, rfl, ⟨fun _ => HY.out, fun _ => rfl⟩, hb⟩
  · have hd : ((l.length : Int) != (r.length : Int)) = true := by simp; omega
    have hne : ¬ l = r := fun h => hlen (by rw [h])
    have HNE := Lib.hid hne
    clear hne
    go_enter Try.func49, Try.ntmps49
    go_wp2
    go_ret
    exact ⟨false, rfl, ⟨(by intro h; cases h), fun h => absurd h HNE.out⟩, Below.refl _ _⟩
end Go.Proofs.Ytfedgjahbmcpoaa
/- The document's CopySpans, Copy. No conditions. -/
set_option linter.unusedSimpArgs false
set_option linter.unusedVariables false
namespace Go.Proofs.Ytfedgjahbmcpoaa
open Go.RowKit

theorem BSp.put8 {w : World} {q : Nat} {s : Spn} {v : Value} (h : BSp w q s v) (u : Value) : BSp (w.setCell ⟨q, 8, none⟩ u) q s u := heap_set h 8 u
theorem own_ne2 {w : World} {base : Nat} {t0 : TypeId} {sz : Nat} {v : Value} {n : Nat} {xs : List Value} {q : Nat} {c : Array Value} {t : TypeId} {mk : Nat × Nat} (h : w.ownsRow base t0 sz v n xs) (hq : w.heap[q]? = some (.cells c t mk)) (ht : t ≠ t0) : v.ownBlock ≠ some q := by
  rcases h.2 with ⟨hv, _⟩ | ⟨g, cap, cur, hv, _, hg, _⟩
  · rw [hv]; intro e; cases e
  · rw [hv]
    intro e
    have : g = q := by injection e
    subst this
    rw [hq] at hg
    injection hg with h1
    injection h1 with _ h2 _
    exact ht h2
theorem SpOwn.setCell {w : World} {base : Nat} {v : Value} {l : List Spn} (h : SpOwn w base v l) {q : Nat} {s : Spn} {u : Value} (hq : BSp w q s u) (hne : v.ownBlock ≠ some q) (j : Nat) (x : Value) : SpOwn (w.setCell ⟨q, j, none⟩ x) base v l := by
  obtain ⟨vs, hv, h1, h2⟩ := h
  exact ⟨vs, hv, ownsRow_setCell_other h1 (a := ⟨q, j, none⟩) hne _, fun i hi => ownsRow_setCell_other (h2 i hi) (a := ⟨q, j, none⟩) (own_ne2 (h2 i hi) hq (by decide)) _⟩
theorem SpOwn.ne {w : World} {base : Nat} {v : Value} {l : List Spn} (h : SpOwn w base v l) {q : Nat} (hq : w.heap.size ≤ q) : v.ownBlock ≠ some q := by
  obtain ⟨vs, hv, h1, h2⟩ := h
  intro e
  have := (h1.lt _ e).2
  omega
theorem SpOwn.len {w : World} {base : Nat} {v : Value} {l : List Spn} (h : SpOwn w base v l) : ∃ A c, v = .slice A l.length c := by
  obtain ⟨vs, hv, h1, h2⟩ := h
  obtain ⟨A, c, e, _⟩ := ownsRow_lies h1
  exact ⟨A, c, e⟩
/-- A cell far below is overwritten. -/
theorem SpOwn.far {w : World} {base : Nat} {v : Value} {l : List Spn} (h : SpOwn w base v l) {q : Nat} (hq : q < base) (j : Nat) (x : Value) : SpOwn (w.setCell ⟨q, j, none⟩ x) base v l := by
  obtain ⟨vs, hv, h1, h2⟩ := h
  exact ⟨vs, hv, ownsRow_setCell_other h1 (a := ⟨q, j, none⟩) (fun e => by have := (h1.lt _ e).1; simp only at this; omega) _, fun i hi => ownsRow_setCell_other (h2 i hi) (a := ⟨q, j, none⟩) (fun e => by have := ((h2 i hi).lt _ e).1; simp only at this; omega) _⟩
theorem SpOwn.base {w : World} {base base' : Nat} {v : Value} {l : List Spn} (h : SpOwn w base v l) (hb : base' ≤ base) (_ : base' ≤ w.heap.size) : SpOwn w base' v l := by
  obtain ⟨vs, hv, h1, h2⟩ := h
  exact ⟨vs, hv, ownsRow_base h1 hb, fun i hi => ownsRow_base (h2 i hi) hb⟩
end Go.Proofs.Ytfedgjahbmcpoaa
