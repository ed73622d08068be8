/- A row of spans of one's own, its fields written over one by one. No conditions. -/
import Derived.Test.YtbhfbpaaghpadaaGC33
import Derived.Test.YtbhfbpaaghpadaaGC34
import Derived.Test.YtbhfbpaaghpadaaGC35
set_option linter.unusedSimpArgs false
set_option linter.unusedVariables false
namespace Go.Proofs.Ytbhfbpaaghpadaa
open Go.RowKit

theorem own_setC {w : World} {base : Nat} {t : TypeId} {sz g n c : Nat} {xs : List Value} (h : w.ownsRow base t sz (.slice (some ⟨g, 0, none⟩) n c) n xs) (j : Nat) (x : Value) : (w.setCell ⟨g, j, none⟩ x).ownsRow base t sz (.slice (some ⟨g, 0, none⟩) n c) n (xs.set j x) := by
  obtain ⟨hl, h⟩ := h
  refine ⟨by rw [List.length_set]; exact hl, ?_⟩
  rcases h with ⟨e, _⟩ | ⟨g2, cap, cur, e, hb, hg, h3, h4, h5, h6⟩
  · cases e
  · injection e with e1 e2 e3
    injection e1 with e1
    injection e1 with e1 _ _
    subst e1 e3
    refine .inr ⟨_, _, _, rfl, hb, heap_set hg j x, h3, h4, by rw [Array.size_setIfInBounds]; exact h5, ?_⟩
    rw [Array.toList_setIfInBounds, List.take_set, h6]
theorem spc_set : ∀ (l : List Spn) (vs : List Value) (i f : Nat) (x : Value) (s' : Spn) (hv : vs.length = l.length) (hi : i < l.length), f < 9 → (∀ v, s'.cells v = (l[i].cells v).set f x) → (spc l vs).set (9 * i + f) x = spc (l.set i s') vs
  | a :: l, b :: vs, 0, f, x, s', hv, hi, hf, hc => by
    show (a.cells b ++ spc l vs).set (9 * 0 + f) x = s'.cells b ++ spc l vs
    rw [show 9 * 0 + f = f by omega, List.set_append_left _ _ (by show f < 9; exact hf), hc b]
    rfl
  | a :: l, b :: vs, i + 1, f, x, s', hv, hi, hf, hc => by
    show (a.cells b ++ spc l vs).set (9 * (i + 1) + f) x = a.cells b ++ spc (l.set i s') vs
    rw [List.set_append_right _ _ (by show 9 ≤ _; omega), show 9 * (i + 1) + f - (a.cells b).length = 9 * i + f by show _ - 9 = _; omega, spc_set l vs i f x s' (by simpa using hv) (by simpa using hi) hf hc]
  | [], _, i, f, x, s', hv, hi, hf, hc => by simp at hi
  | a :: l, [], i, f, x, s', hv, hi, hf, hc => by simp at hv
theorem acs_set : ∀ (l : List Att) (k f : Nat) (x : Value) (a' : Att) (hk : k < l.length), f < 6 → a'.cells = (l[k].cells).set f x → (acs l).set (6 * k + f) x = acs (l.set k a')
  | a :: l, 0, f, x, a', hk, hf, hc => by
    show (a.cells ++ acs l).set (6 * 0 + f) x = a'.cells ++ acs l
    rw [show 6 * 0 + f = f by omega, List.set_append_left _ _ (by show f < 6; exact hf), hc]
    rfl
  | a :: l, k + 1, f, x, a', hk, hf, hc => by
    show (a.cells ++ acs l).set (6 * (k + 1) + f) x = a.cells ++ acs (l.set k a')
    rw [List.set_append_right _ _ (by show 6 ≤ _; omega), show 6 * (k + 1) + f - a.cells.length = 6 * k + f by show _ - 6 = _; omega, acs_set l k f x a' (by simpa using hk) hf hc]
  | [], k, f, x, a', hk, hf, hc => by simp at hk
structure SpV (w : World) (base g c : Nat) (l : List Spn) (vs : List Value) : Prop where
  len : vs.length = l.length
  row : w.ownsRow base 32 9 (.slice (some ⟨g, 0, none⟩) l.length c) l.length (spc l vs)
  at' : ∀ i (h : i < l.length), w.ownsRow base 46 6 (vs[i]'(by omega)) l[i].ats.length (acs l[i].ats)
  ap : ∀ i j k (hi : i < vs.length) (hj : j < vs.length), i ≠ j → vs[i].ownBlock = some k → vs[j].ownBlock ≠ some k
theorem DOwn.v {w : World} {base : Nat} {v : Value} {l : List Spn} (h : DOwn w base v l) (hn : 0 < l.length) : ∃ g c vs, v = .slice (some ⟨g, 0, none⟩) l.length c ∧ base ≤ g ∧ SpV w base g c l vs := by
  obtain ⟨T, vs, hv, h1, h2, h3, h4⟩ := h
  have h0 := h1
  rcases h0.2 with ⟨_, e⟩ | ⟨g, cap, cur, e, hb, _⟩
  · omega
  · subst e
    exact ⟨g, cap, vs, rfl, hb, hv, h1, h2, h4⟩
section
variable {w w' : World} {base g c : Nat} {l : List Spn} {vs : List Value}
theorem SpV.below (h : SpV w base g c l vs) (hb : Below w.heap.size w w') : SpV w' base g c l vs :=
  ⟨h.len, ownsRow_below h.row hb, fun i hi => ownsRow_below (h.at' i hi) hb, h.ap⟩
theorem SpV.sp (h : SpV w base g c l vs) : SpOwn w base (.slice (some ⟨g, 0, none⟩) l.length c) l := ⟨vs, h.len, h.row, h.at'⟩
/-- A field of a span is written. -/
theorem SpV.fld (h : SpV w base g c l vs) {i f : Nat} {x : Value} {s' : Spn} (hi : i < l.length) (hf : f < 9) (hc : ∀ v, s'.cells v = (l[i].cells v).set f x) (ha : s'.ats = l[i].ats) : SpV (w.setCell ⟨g, i * 9 + f, none⟩ x) base g c (l.set i s') vs := by
  refine ⟨by rw [List.length_set]; exact h.len, ?_, fun j hj => ?_, h.ap⟩
  · have h1 := own_setC h.row (i * 9 + f) x
    rw [show i * 9 + f = 9 * i + f by omega, spc_set l vs i f x s' h.len hi hf hc] at h1
    rw [List.length_set, show i * 9 + f = 9 * i + f by omega]
    exact h1
  · rw [List.length_set] at hj
    have h2 := h.at' j hj
    have hne : (vs[j]'(by have := h.len; omega)).ownBlock ≠ some g := fun e => own_types h2 h.row (by decide) e rfl
    have h3 := ownsRow_setCell_other h2 (a := ⟨g, i * 9 + f, none⟩) hne x
    by_cases hji : i = j
    · subst hji
      rw [List.getElem_set_self, ha]
      exact h3
    · rw [List.getElem_set_ne hji]
      exact h3
/-- A field of an attribute of a span is written. -/
theorem SpV.att (h : SpV w base g c l vs) {i k f ga m ca : Nat} {x : Value} {a' : Att} {s' : Spn} (hi : i < l.length) (hv : vs[i]'(by have := h.len; omega) = .slice (some ⟨ga, 0, none⟩) m ca) (hk : k < l[i].ats.length) (hf : f < 6) (hc : a'.cells = (l[i].ats[k].cells).set f x)
    (hs : ∀ v, s'.cells v = l[i].cells v) (ha : s'.ats = l[i].ats.set k a') : SpV (w.setCell ⟨ga, k * 6 + f, none⟩ x) base g c (l.set i s') vs := by
  have hlen := h.len
  have h2 := h.at' i hi
  have hga : (Value.slice (some ⟨g, 0, none⟩) l.length c).ownBlock ≠ some ga := by
    have := own_types h2 h.row (by decide) (k := ga) (by rw [hv]; rfl)
    exact this
  refine ⟨by rw [List.length_set]; exact hlen, ?_, fun j hj => ?_, h.ap⟩
  · have h1 := ownsRow_setCell_other h.row (a := ⟨ga, k * 6 + f, none⟩) hga x
    have e : spc (l.set i s') vs = spc l vs := by
      have h9 := spc_set l vs i 0 ((.int .i64 l[i].tr)) s' hlen hi (by omega) (fun v => by rw [hs v]; rfl)
      rw [← h9]
      have h8 := spc_at l vs hlen i hi (by omega) 0 (by omega)
      have hlt : 9 * i + 0 < (spc l vs).length := by rw [spc_length l vs hlen]; omega
      rw [List.getElem?_eq_getElem hlt] at h8
      have h7 : (spc l vs)[9 * i + 0] = .int .i64 l[i].tr := by
        have : some ((spc l vs)[9 * i + 0]) = some (.int .i64 l[i].tr) := h8
        injection this
      rw [← h7]
      exact List.set_getElem_self hlt
    rw [List.length_set, e]
    exact h1
  · rw [List.length_set] at hj
    by_cases hji : i = j
    · subst hji
      have h3 := h2
      rw [hv] at h3
      have hm : m = l[i].ats.length := by
        rcases h3.2 with ⟨e, _⟩ | ⟨_, _, _, e, _⟩
        · cases e
        · injection e
      subst hm
      have h4 := own_setC h3 (k * 6 + f) x
      rw [show k * 6 + f = 6 * k + f by omega, acs_set _ k f x a' hk hf hc] at h4
      rw [List.getElem_set_self, ha, show (l[i].ats.set k a').length = l[i].ats.length from List.length_set, hv, show k * 6 + f = 6 * k + f by omega]
      exact h4
    · rw [List.getElem_set_ne hji]
      refine ownsRow_setCell_other (h.at' j hj) (a := ⟨ga, k * 6 + f, none⟩) ?_ x
      exact h.ap i j ga (by omega) (by omega) hji (by rw [hv]; rfl)
theorem SpV.cell (h : SpV w base g c l vs) {i : Nat} (hi : i < l.length) (j : Nat) (v : Value) (hj : (l[i].cells (vs[i]'(by have := h.len; omega)))[j]? = some v) : w.cell? ⟨g, i * 9 + j, none⟩ = some v ∧ w.frozen? ⟨g, i * 9 + j, none⟩ = false := by
  have hlen := spc_length l vs h.len
  obtain ⟨A, c0, e, _, _, _, hlies, _⟩ := ownsRow_lies h.row
  injection e with e1 _ _
  have hj9 : j < 9 := (List.getElem?_eq_some_iff.1 hj).1
  constructor
  · obtain ⟨ad, hA2, hc⟩ := hlies (i * 9 + j) (by rw [hlen]; omega)
    rw [← e1] at hA2
    cases hA2
    rw [addr_add, Nat.zero_add] at hc
    rw [hc, ← hj, ← spc_at l vs h.len i hi (by have := h.len; omega) j hj9, show 9 * i + j = i * 9 + j by omega]
    exact (List.getElem?_eq_getElem _).symm
  · rcases h.row.2 with ⟨e, _⟩ | ⟨g2, cap, cur, e, hb, hg, _⟩
    · cases e
    · injection e with e1 _ _
      injection e1 with e1
      injection e1 with e1 _ _
      subst e1
      exact frozen_of hg _
theorem SpV.attc (h : SpV w base g c l vs) {i k : Nat} (hi : i < l.length) (hk : k < l[i].ats.length) : ∃ ga ca, vs[i]'(by have := h.len; omega) = .slice (some ⟨ga, 0, none⟩) l[i].ats.length ca ∧ l[i].ats.length ≤ ca ∧ base ≤ ga ∧ ∀ j v, (l[i].ats[k].cells)[j]? = some v → w.cell? ⟨ga, k * 6 + j, none⟩ = some v ∧ w.frozen? ⟨ga, k * 6 + j, none⟩ = false := by
  have h2 := h.at' i hi
  obtain ⟨A, c0, e, hle, _, _, hlies, hA⟩ := ownsRow_lies h2
  rcases h2.2 with ⟨_, h0⟩ | ⟨ga, cap, cur, e2, hb, hg, _⟩
  · omega
  · rw [e2] at e
    injection e with e1 _ e3
    subst e3
    refine ⟨ga, _, e2, hle, hb, fun j v hj => ⟨?_, frozen_of hg _⟩⟩
    have hj6 : j < 6 := (List.getElem?_eq_some_iff.1 hj).1
    obtain ⟨ad, hA2, hc⟩ := hlies (k * 6 + j) (by rw [acs_length]; omega)
    rw [← e1] at hA2
    cases hA2
    rw [addr_add, Nat.zero_add] at hc
    rw [hc, ← hj, ← acs_at _ k hk j hj6, show 6 * k + j = k * 6 + j by omega]
    exact (List.getElem?_eq_getElem _).symm
end
/-! With one span named -/
section
variable {w w' : World} {base g c : Nat} {L : List Spn} {vs : List Value} {i : Nat} {s s' : Spn}
theorem SpV.cell1 (h : SpV w base g c (L.set i s) vs) (hi : i < L.length) (j : Nat) (v : Value) (hj : (s.cells (vs[i]'(by have := h.len; rw [List.length_set] at this; omega)))[j]? = some v) : w.cell? ⟨g, i * 9 + j, none⟩ = some v ∧ w.frozen? ⟨g, i * 9 + j, none⟩ = false :=
  h.cell (by rw [List.length_set]; exact hi) j v (by rw [List.getElem_set_self]; exact hj)
theorem SpV.fld1 (h : SpV w base g c (L.set i s) vs) {f : Nat} {x : Value} (hi : i < L.length) (hf : f < 9) (hc : ∀ v, s'.cells v = (s.cells v).set f x) (ha : s'.ats = s.ats) : SpV (w.setCell ⟨g, i * 9 + f, none⟩ x) base g c (L.set i s') vs := by
  have h1 := h.fld (i := i) (s' := s') (x := x) (f := f) (by rw [List.length_set]; exact hi) hf (fun v => by rw [List.getElem_set_self]; exact hc v) (by rw [List.getElem_set_self]; exact ha)
  rw [List.set_set] at h1
  exact h1
theorem SpV.attc1 (h : SpV w base g c (L.set i s) vs) {k : Nat} (hi : i < L.length) (hk : k < s.ats.length) : ∃ ga ca, vs[i]'(by have := h.len; rw [List.length_set] at this; omega) = .slice (some ⟨ga, 0, none⟩) s.ats.length ca ∧ s.ats.length ≤ ca ∧ base ≤ ga ∧ ∀ j v, (s.ats[k].cells)[j]? = some v → w.cell? ⟨ga, k * 6 + j, none⟩ = some v ∧ w.frozen? ⟨ga, k * 6 + j, none⟩ = false := by
  have e : (L.set i s)[i]'(by rw [List.length_set]; exact hi) = s := List.getElem_set_self _
  have h1 := h.attc (i := i) (k := k) (by rw [List.length_set]; exact hi) (by rw [e]; exact hk)
  simp only [e] at h1
  exact h1
theorem SpV.att1 (h : SpV w base g c (L.set i s) vs) {k f ga m ca : Nat} {x : Value} {a' : Att} (hi : i < L.length) (hv : vs[i]'(by have := h.len; rw [List.length_set] at this; omega) = .slice (some ⟨ga, 0, none⟩) m ca) (hk : k < s.ats.length) (hf : f < 6) (hc : a'.cells = (s.ats[k].cells).set f x)
    (hs : ∀ v, s'.cells v = s.cells v) (ha : s'.ats = s.ats.set k a') : SpV (w.setCell ⟨ga, k * 6 + f, none⟩ x) base g c (L.set i s') vs := by
  have e : (L.set i s)[i]'(by rw [List.length_set]; exact hi) = s := List.getElem_set_self _
  have h1 := h.att (i := i) (k := k) (f := f) (x := x) (a' := a') (s' := s') (by rw [List.length_set]; exact hi) hv (by rw [e]; exact hk) hf (by simp only [e]; exact hc) (fun v => by rw [e]; exact hs v) (by rw [e]; exact ha)
  rw [List.set_set] at h1
  exact h1
end
/-! What is written so far -/
def mixS (y : Nat) (l : List Spn) (i : Nat) : List Spn := (l.take i).map (repS y) ++ l.drop i
def mixA (y : Nat) (l : List Att) (k : Nat) : List Att := (l.take k).map (rep y) ++ l.drop k
theorem mixS_len (y : Nat) (l : List Spn) (i : Nat) : (mixS y l i).length = l.length := by
  unfold mixS
  rw [List.length_append, List.length_map, List.length_take, List.length_drop]
  omega
theorem mixA_len (y : Nat) (l : List Att) (i : Nat) : (mixA y l i).length = l.length := by
  unfold mixA
  rw [List.length_append, List.length_map, List.length_take, List.length_drop]
  omega
theorem mixS_all (y : Nat) (l : List Spn) : mixS y l l.length = l.map (repS y) := by
  unfold mixS
  rw [List.take_length, List.drop_length, List.append_nil]
theorem mixA_all (y : Nat) (l : List Att) : mixA y l l.length = l.map (rep y) := by
  unfold mixA
  rw [List.take_length, List.drop_length, List.append_nil]
theorem mixS_0 (y : Nat) (l : List Spn) : mixS y l 0 = l := rfl
theorem mixA_0 (y : Nat) (l : List Att) : mixA y l 0 = l := rfl
theorem mixS_at (y : Nat) {l : List Spn} {i : Nat} (hi : i < l.length) : (mixS y l i).set i l[i] = mixS y l i := by
  have h : (mixS y l i)[i]'(by rw [mixS_len]; exact hi) = l[i] := by
    apply Option.some.inj
    rw [← List.getElem?_eq_getElem, ← List.getElem?_eq_getElem]
    unfold mixS
    rw [List.getElem?_append_right (by simp; omega), List.getElem?_drop]
    congr 1
    simp
    omega
  conv => lhs; rw [← h]
  exact List.set_getElem_self _
theorem mixA_get (y : Nat) {l : List Att} {k : Nat} (hk : k < l.length) : (mixA y l k)[k]'(by rw [mixA_len]; exact hk) = l[k] := by
  apply Option.some.inj
  rw [← List.getElem?_eq_getElem, ← List.getElem?_eq_getElem]
  unfold mixA
  rw [List.getElem?_append_right (by simp; omega), List.getElem?_drop]
  congr 1
  simp
  omega
theorem mixS_step (y : Nat) {l : List Spn} {i : Nat} (hi : i < l.length) : (mixS y l i).set i (repS y l[i]) = mixS y l (i + 1) := by
  unfold mixS
  have e0 : i - ((l.take i).map (repS y)).length = 0 := by rw [List.length_map, List.length_take]; omega
  rw [List.set_append_right _ _ (by rw [List.length_map, List.length_take]; omega), e0, List.take_succ_eq_append_getElem hi, List.map_append, List.append_assoc]
  congr 1
  rw [List.drop_eq_getElem_cons hi]
  rfl
theorem mixA_step (y : Nat) {l : List Att} {k : Nat} (hk : k < l.length) : (mixA y l k).set k (rep y l[k]) = mixA y l (k + 1) := by
  unfold mixA
  have e0 : k - ((l.take k).map (rep y)).length = 0 := by rw [List.length_map, List.length_take]; omega
  rw [List.set_append_right _ _ (by rw [List.length_map, List.length_take]; omega), e0, List.take_succ_eq_append_getElem hk, List.map_append, List.append_assoc]
  congr 1
  rw [List.drop_eq_getElem_cons hk]
  rfl
theorem mixA_same (y : Nat) {l : List Att} {k : Nat} (hk : k < l.length) (h : rep y l[k] = l[k]) : mixA y l (k + 1) = mixA y l k := by
  rw [← mixA_step y hk, h]
  conv => lhs; rw [← mixA_get y hk]
  exact List.set_getElem_self _
/-- Where BatchSize stands. -/
structure SzW (b : Bat) (w W : World) (q7 g7 c7 : Nat) (L : List Spn) (vs : List Value) : Prop where
  bw : Below w.heap.size w W
  b7 : W.heap[q7]? = some (.cells #[.int .i64 b.ag, .int .i64 b.sq, .slice (some ⟨g7, 0, none⟩) b.sp.length c7] 24 (0, 0))
  sp : SpV W w.heap.size g7 c7 L vs
theorem SzW.below {b : Bat} {w W W' : World} {q7 g7 c7 : Nat} {L : List Spn} {vs : List Value} (h : SzW b w W q7 g7 c7 L vs) (hb : Below W.heap.size W W') : SzW b w W' q7 g7 c7 L vs := ⟨nx h.bw hb, blk_bel h.b7 hb, h.sp.below hb⟩
theorem SzW.fld {b : Bat} {w W : World} {q7 g7 c7 : Nat} {L : List Spn} {vs : List Value} {i f : Nat} {x : Value} {s s' : Spn} (h : SzW b w W q7 g7 c7 (L.set i s) vs) (hg : w.heap.size ≤ g7) (hi : i < L.length) (hf : f < 9) (hc : ∀ v, s'.cells v = (s.cells v).set f x) (ha : s'.ats = s.ats) : SzW b w (W.setCell ⟨g7, i * 9 + f, none⟩ x) q7 g7 c7 (L.set i s') vs := by
  have hlt := (h.sp.row.lt g7 rfl)
  obtain ⟨_, ⟨e, _⟩ | ⟨g2, cap, cur, e, hb, hg2, _⟩⟩ := h.sp.row
  · cases e
  · injection e with e1 _ _
    injection e1 with e1
    injection e1 with e1 _ _
    subst e1
    exact ⟨h.bw.setCell (p := ⟨g7, i * 9 + f, none⟩) hg _, (Below.heap_setCell W ⟨g7, i * 9 + f, none⟩ x q7 (blk_ne h.b7 hg2 (by decide))).trans h.b7, h.sp.fld1 hi hf hc ha⟩
theorem SzW.att {b : Bat} {w W : World} {q7 g7 c7 : Nat} {L : List Spn} {vs : List Value} {i k f ga m ca : Nat} {x : Value} {a' : Att} {s s' : Spn} (h : SzW b w W q7 g7 c7 (L.set i s) vs) (hg : w.heap.size ≤ ga) (hi : i < L.length) (hv : vs[i]'(by have := h.sp.len; rw [List.length_set] at this; omega) = .slice (some ⟨ga, 0, none⟩) m ca) (hk : k < s.ats.length) (hf : f < 6) (hc : a'.cells = (s.ats[k].cells).set f x)
    (hs : ∀ v, s'.cells v = s.cells v) (ha : s'.ats = s.ats.set k a') : SzW b w (W.setCell ⟨ga, k * 6 + f, none⟩ x) q7 g7 c7 (L.set i s') vs := by
  have h2 := h.sp.at' i (by rw [List.length_set]; exact hi)
  obtain ⟨_, ⟨e, _⟩ | ⟨g2, cap, cur, e, hb, hg2, _⟩⟩ := h2
  · rw [hv] at e; cases e
  · rw [hv] at e
    injection e with e1 _ _
    injection e1 with e1
    injection e1 with e1 _ _
    subst e1
    exact ⟨h.bw.setCell (p := ⟨ga, k * 6 + f, none⟩) hg _, (Below.heap_setCell W ⟨ga, k * 6 + f, none⟩ x q7 (blk_ne h.b7 hg2 (by decide))).trans h.b7, h.sp.att1 hi hv hk hf hc hs ha⟩
end Go.Proofs.Ytbhfbpaaghpadaa
