/- Lists of structs in memory, whatever the struct: read, and in memory of one's own. No conditions. -/
import Derived.Test.YtmnabhennibddaaGC00
import Derived.Test.YtmnabhennibddaaGC07
import Derived.DataReads
set_option linter.unusedSimpArgs false
set_option linter.unusedVariables false
namespace Go.Proofs.Ytmnabhennibddaa
open Go.RowKit

/-- How an element lies in memory: so many cells, and what they hold. -/
structure RdE (α : Type) where
  k : Nat
  kpos : 0 < k
  rd : World → α → List Value → Prop
  len : ∀ w x cs, rd w x cs → cs.length = k
  below : ∀ w w' x cs, rd w x cs → Below w.heap.size w w' → rd w' x cs
structure EL {α : Type} (R : RdE α) (w : World) (A : Option Addr) (n c : Nat) (l : List α) : Prop where
  len : n = l.length
  le : l.length ≤ c
  nil : A = none → c = 0
  at' : ∀ i (h : i < l.length), ∃ b o cs, A = some ⟨b, o, none⟩ ∧ (∀ j v, cs[j]? = some v → w.cell? ⟨b, o + i * R.k + j, none⟩ = some v) ∧ R.rd w l[i] cs
  lim : l.length ≤ 8796093021952
theorem EL.below {α : Type} {R : RdE α} {w w' : World} {A : Option Addr} {n c : Nat} {l : List α} (h : EL R w A n c l) (hb : Below w.heap.size w w') : EL R w' A n c l := by
  refine ⟨h.len, h.le, h.nil, fun i hi => ?_, h.lim⟩
  obtain ⟨b, o, cs, e, hc, hI⟩ := h.at' i hi
  refine ⟨b, o, cs, e, fun j v hj => ?_, R.below _ _ _ _ hI hb⟩
  have := hc j v hj
  exact (hb.cell (p := ⟨b, o + i * R.k + j, none⟩) (World.block_lt_of_cell? w _ this)).trans this
theorem EL.cellsAt {α : Type} {R : RdE α} {w wr : World} {A : Option Addr} {n c : Nat} {l : List α} (h : EL R w A n c l) (hb : Below w.heap.size w wr) {k : Nat} (hk : k < l.length) :
    ∃ g o cs, A = some ⟨g, o, none⟩ ∧ R.rd wr l[k] cs ∧ ∀ j v, cs[j]? = some v → wr.cell? ⟨g, o + k * R.k + j, none⟩ = some v := by
  obtain ⟨b, o, cs, e, hc, hI⟩ := (h.below hb).at' k hk
  exact ⟨b, o, cs, e, hI, hc⟩
theorem EL.zero {α : Type} (R : RdE α) (w : World) : EL R w none 0 0 [] := ⟨rfl, Nat.le_refl _, fun _ => rfl, (by intro i hi; exact absurd hi (Nat.not_lt_zero _)), Nat.zero_le _⟩
theorem EL.cut {α : Type} {R : RdE α} {w : World} {A : Option Addr} {n c : Nat} {l : List α} (h : EL R w A n c l) {m : Nat} (hm : m ≤ l.length) : EL R w A m c (l.take m) := by
  have hl : (l.take m).length = m := by simp; omega
  refine ⟨hl.symm, by have := h.le; omega, h.nil, fun i hi => ?_, by have := h.lim; omega⟩
  have hi' : i < l.length := by omega
  obtain ⟨b, o, cs, e, hc, hI⟩ := h.at' i hi'
  exact ⟨b, o, cs, e, hc, by rw [List.getElem_take]; exact hI⟩
theorem EL.one {α : Type} {R : RdE α} {w : World} {q : Nat} {cs : List Value} {t : TypeId} {mk : Nat × Nat} {x : α} (h : w.heap[q]? = some (.cells cs.toArray t mk)) (hr : R.rd w x cs) : EL R w (some ⟨q, 0, none⟩) 1 1 [x] := by
  refine ⟨rfl, Nat.le_refl _, (by intro h; cases h), fun i hi => ?_, by simp⟩
  obtain rfl : i = 0 := by simp at hi; omega
  refine ⟨q, 0, cs, rfl, fun j v hj => ?_, hr⟩
  simp only [Nat.zero_mul, Nat.zero_add]
  rw [cell_of h j]
  exact (List.getElem?_toArray ..).trans hj

theorem flatK {k : Nat} : ∀ {ys : List (List Value)}, (∀ y ∈ ys, y.length = k) → ys.flatten.length = ys.length * k ∧ ∀ i (h : i < ys.length) j v, ys[i][j]? = some v → ys.flatten[i * k + j]? = some v ∧ i * k + j < ys.flatten.length
  | [], _ => ⟨by simp, fun i h => absurd h (by simp)⟩
  | y :: ys, hy => by
    have hy9 := hy y (by simp)
    obtain ⟨hl, h0⟩ := flatK (ys := ys) (fun z hz => hy z (List.mem_cons_of_mem _ hz))
    refine ⟨by rw [List.flatten_cons, List.length_append, hl, hy9, List.length_cons, Nat.succ_mul]; omega, fun i h j v hv => ?_⟩
    cases i with
    | zero =>
      simp only [List.getElem_cons_zero] at hv
      have hj : j < y.length := by
        rw [List.getElem?_eq_some_iff] at hv
        exact hv.1
      refine ⟨?_, by simp only [List.flatten_cons, List.length_append]; omega⟩
      rw [List.flatten_cons, Nat.zero_mul, Nat.zero_add, List.getElem?_append_left hj]
      exact hv
    | succ i =>
      obtain ⟨h1, h2⟩ := h0 i (by simpa using h) j v (by simpa using hv)
      have e : (i + 1) * k + j = k + (i * k + j) := by rw [Nat.succ_mul]; omega
      refine ⟨?_, by simp only [List.flatten_cons, List.length_append]; omega⟩
      rw [List.flatten_cons, e, List.getElem?_append_right (by omega), hy9]
      rw [show k + (i * k + j) - k = i * k + j by omega]
      exact h1
/-- A list out of cells that lie in a row. -/
theorem EL.ofLies {α : Type} {R : RdE α} {w : World} {A : Option Addr} {c : Nat} {l : List α} {css : List (List Value)} (hle : l.length ≤ c) (hnil : A = none → c = 0) (hlies : Lies w A css.flatten) (hcl : css.length = l.length) (hr : ∀ i (h : i < l.length) (h2 : i < css.length), R.rd w l[i] css[i]) (hlim : l.length ≤ 8796093021952) : EL R w A l.length c l := by
  refine ⟨rfl, hle, hnil, fun i hi => ?_, hlim⟩
  have hk : ∀ y ∈ css, y.length = R.k := by
    intro y hy
    obtain ⟨i, h2, rfl⟩ := List.getElem_of_mem hy
    exact R.len _ _ _ (hr i (by omega) h2)
  obtain ⟨hl, hf⟩ := flatK hk
  have h0 : 0 < css.flatten.length := by
    rw [hl]
    exact Nat.mul_pos (by omega) R.kpos
  obtain ⟨ad, rfl, hc0⟩ := hlies 0 h0
  obtain ⟨b, o, sp⟩ := ad
  obtain rfl : sp = none := by simpa [Addr.add] using World.cell?_spot hc0
  refine ⟨b, o, css[i]'(by omega), rfl, fun j v hj => ?_, hr i hi (by omega)⟩
  obtain ⟨g0, g1⟩ := hf i (by omega) j v hj
  obtain ⟨ad, e6, e7⟩ := hlies _ g1
  cases e6
  rw [addr_add] at e7
  rw [Nat.add_assoc, e7]
  rw [List.getElem?_eq_getElem g1] at g0
  exact g0

/-- How an element lies in memory of one's own: its parts in blocks from base on, none of them a block of elements. -/
structure RoE {α : Type} (R : RdE α) where
  T : TypeId
  ro : World → Nat → α → List Value → Prop
  len : ∀ w b x cs, ro w b x cs → cs.length = R.k
  one : ∀ w b x cs, ro w b x cs → ∀ u ∈ cs, u.oneCell' = true
  keep : ∀ w w' b x cs, ro w b x cs → (∀ k c t mk, b ≤ k → t ≠ T → w.heap[k]? = some (.cells c t mk) → w'.heap[k]? = some (.cells c t mk)) → ro w' b x cs
  base : ∀ w b b' x cs, ro w b x cs → b' ≤ b → ro w b' x cs
def EOwn {α : Type} {R : RdE α} (O : RoE R) (w : World) (base : Nat) (v : Value) (l : List α) : Prop :=
  ∃ css : List (List Value), css.length = l.length ∧ w.ownsRow base O.T R.k v l.length css.flatten ∧ ∀ i (h : i < l.length) (h2 : i < css.length), O.ro w base l[i] css[i]
theorem own_keep {w w' : World} {base : Nat} {t : TypeId} {sz : Nat} {v : Value} {n : Nat} {xs : List Value} (h : w.ownsRow base t sz v n xs) (hk : ∀ k c mk, base ≤ k → v.ownBlock = some k → w.heap[k]? = some (.cells c t mk) → w'.heap[k]? = some (.cells c t mk)) : w'.ownsRow base t sz v n xs := by
  obtain ⟨h0, h1⟩ := h
  refine ⟨h0, ?_⟩
  rcases h1 with h1 | ⟨g, cap, cur, h1, h2, h3, h4⟩
  · exact .inl h1
  · exact .inr ⟨g, cap, cur, h1, h2, hk g cur (0, 0) h2 (by rw [h1]; rfl) h3, h4⟩
theorem own_cells {w : World} {base : Nat} {t : TypeId} {sz : Nat} {v : Value} {n : Nat} {xs : List Value} (h : w.ownsRow base t sz v n xs) {k : Nat} (hk : v.ownBlock = some k) : base ≤ k ∧ ∃ c mk, w.heap[k]? = some (.cells c t mk) := by
  obtain ⟨h0, h1⟩ := h
  rcases h1 with ⟨h1, _⟩ | ⟨g, cap, cur, h1, h2, h3, h4⟩
  · rw [h1] at hk; cases hk
  · rw [h1] at hk
    injection hk with hk
    simp only at hk
    subst hk
    exact ⟨h2, cur, (0, 0), h3⟩
section
variable {α : Type} {R : RdE α} {O : RoE R}
theorem EOwn.nil (w : World) (base : Nat) : EOwn O w base (.slice none 0 0) [] := ⟨[], rfl, World.ownsRow_nil _ _ _ _, fun i h => absurd h (by simp)⟩
theorem EOwn.keep {w w' : World} {base : Nat} {v : Value} {l : List α} (h : EOwn O w base v l) (h1 : ∀ k c mk, base ≤ k → v.ownBlock = some k → w.heap[k]? = some (.cells c O.T mk) → w'.heap[k]? = some (.cells c O.T mk)) (h2 : ∀ k c t mk, base ≤ k → t ≠ O.T → w.heap[k]? = some (.cells c t mk) → w'.heap[k]? = some (.cells c t mk)) : EOwn O w' base v l := by
  obtain ⟨css, hv, ho, hr⟩ := h
  exact ⟨css, hv, own_keep ho h1, fun i hi hi2 => O.keep _ _ _ _ _ (hr i hi hi2) h2⟩
theorem EOwn.below {w w' : World} {base : Nat} {v : Value} {l : List α} (h : EOwn O w base v l) (hb : Below w.heap.size w w') : EOwn O w' base v l :=
  h.keep (fun k c mk _ _ hk => (hb.block k (Array.getElem?_eq_some_iff.1 hk).1).trans hk) (fun k c t mk _ _ hk => (hb.block k (Array.getElem?_eq_some_iff.1 hk).1).trans hk)
theorem EOwn.grown {w w' : World} {base : Nat} {v : Value} {l : List α} {row : Option Nat} (h : EOwn O w base v l) (hg : w.grownBy w' row) (hr : ∀ k, row = some k → k < base) : EOwn O w' base v l :=
  h.keep (fun k c mk hb _ hk => (hg.block k (Array.getElem?_eq_some_iff.1 hk).1 (fun e => by have := hr k e.symm; omega)).trans hk) (fun k c t mk hb _ hk => (hg.block k (Array.getElem?_eq_some_iff.1 hk).1 (fun e => by have := hr k e.symm; omega)).trans hk)
theorem EOwn.far {w : World} {base : Nat} {v : Value} {l : List α} (h : EOwn O w base v l) {q : Nat} (hq : q < base) (j : Nat) (x : Value) : EOwn O (w.setCell ⟨q, j, none⟩ x) base v l :=
  h.keep (fun k c mk hb _ hk => (Below.heap_setCell w ⟨q, j, none⟩ x k (by show k ≠ q; omega)).trans hk) (fun k c t mk hb _ hk => (Below.heap_setCell w ⟨q, j, none⟩ x k (by show k ≠ q; omega)).trans hk)
/-- A store into a box of one element. -/
theorem EOwn.box {w : World} {base : Nat} {v : Value} {l : List α} (h : EOwn O w base v l) {q : Nat} {c0 : Array Value} {mk0 : Nat × Nat} (hq : w.heap[q]? = some (.cells c0 O.T mk0)) (hne : v.ownBlock ≠ some q) (j : Nat) (x : Value) : EOwn O (w.setCell ⟨q, j, none⟩ x) base v l :=
  h.keep (fun k c mk hb hk0 hk => (Below.heap_setCell w ⟨q, j, none⟩ x k (by show k ≠ q; intro e; subst e; exact hne hk0)).trans hk)
    (fun k c t mk hb ht hk => (Below.heap_setCell w ⟨q, j, none⟩ x k (by show k ≠ q; intro e; subst e; rw [hq] at hk; injection hk with hk; injection hk with _ e2 _; exact ht e2.symm)).trans hk)
theorem EOwn.base {w : World} {base base' : Nat} {v : Value} {l : List α} (h : EOwn O w base v l) (hb : base' ≤ base) : EOwn O w base' v l := by
  obtain ⟨css, hv, h1, h2⟩ := h
  exact ⟨css, hv, ownsRow_base h1 hb, fun i hi hi2 => O.base _ _ _ _ _ (h2 i hi hi2) hb⟩
theorem EOwn.ne {w : World} {base : Nat} {v : Value} {l : List α} (h : EOwn O w base v l) {q : Nat} (hq : w.heap.size ≤ q) : v.ownBlock ≠ some q := by
  obtain ⟨css, hv, h1, h2⟩ := h
  intro e
  have := (h1.lt q e).2
  omega
theorem EOwn.ne2 {w : World} {base : Nat} {v : Value} {l : List α} (h : EOwn O w base v l) {q : Nat} {c : Array Value} {t : TypeId} {mk : Nat × Nat} (hq : w.heap[q]? = some (.cells c t mk)) (ht : t ≠ O.T) : v.ownBlock ≠ some q := by
  obtain ⟨css, hv, h1, h2⟩ := h
  intro e
  obtain ⟨_, c2, mk2, h3⟩ := own_cells h1 e
  rw [hq] at h3
  injection h3 with h3
  injection h3 with _ h4 _
  exact ht h4
theorem EOwn.block {w : World} {base : Nat} {v : Value} {l : List α} (h : EOwn O w base v l) : ∀ k, v.ownBlock = some k → base ≤ k := by
  obtain ⟨css, hv, h1, h2⟩ := h
  exact fun k hk => (h1.lt k hk).1
theorem EOwn.len {w : World} {base : Nat} {v : Value} {l : List α} (h : EOwn O w base v l) : ∃ A c, v = .slice A l.length c := by
  obtain ⟨css, hv, h1, h2⟩ := h
  obtain ⟨A, c, e, _⟩ := ownsRow_lies h1
  exact ⟨A, c, e⟩
theorem EOwn.el {w : World} {base : Nat} {v : Value} {l : List α} (h : EOwn O w base v l) {p : α → Prop} (hrd : ∀ w b x cs, p x → O.ro w b x cs → R.rd w x cs) (hp : ∀ x ∈ l, p x) (hl : l.length ≤ 8796093021952) : ∃ A c, v = .slice A l.length c ∧ EL R w A l.length c l ∧ (∀ ad, A = some ad → base ≤ ad.block ∧ ad.block < w.heap.size) := by
  obtain ⟨css, hv, h1, h2⟩ := h
  obtain ⟨A, c, e, hle, _, hnil, hlies, hA⟩ := ownsRow_lies h1
  exact ⟨A, c, e, EL.ofLies hle hnil hlies hv (fun i hi hi2 => hrd _ _ _ _ (hp _ (List.getElem_mem hi)) (h2 i hi hi2)) hl, hA⟩
/-- append(v, x) of one element, which lies in a block of its own. -/
theorem append_el {w : World} {ops : Array Oper} {rest : List Oper} {o : Oper} {a : Act} {Q : Exit → Act → World → Prop} (hgd : o.guard = none) (s x : Operand) (t : TypeId) (z : Value) (bytes : Nat)
    (ho : o.op = .call { callee := .builtin .append, args := #[s, x], argTypes := #[t, t] }) (ht : Try.prog.underlying t = some (.slice O.T)) (hi : (Try.prog.info? O.T).map (fun i => (i.zero, i.size, i.bytes)) = some (some z, R.k, bytes)) (hz : z.cells.size = R.k) (hby : bytes ≤ 4096)
    (base : Nat) (v : Value) (l : List α) (b : α) (cs : List Value) (hs : a.eval s = v) (hown : EOwn O w base v l) (hu : O.ro w base b cs)
    (g : Nat) (hx : a.eval x = .slice (some ⟨g, 0, none⟩) 1 1) (mk : Nat × Nat) (hm : w.heap[g]? = some (.cells cs.toArray O.T mk)) (hb : l.length + 1 ≤ 34359738368) (hbase : base ≤ w.heap.size)
    (h : ∀ v' w', EOwn O w' base v' (l ++ [b]) → w.grownBy w' v.ownBlock → wpList Try.prog ops Q rest (a.put o.dst v') w') :
    wpList Try.prog ops Q (o :: rest) a w :=
  wpList_plain hgd fun _ hK => by
    obtain ⟨css, hv, h1, h2⟩ := hown
    have hbb : (l.length + 1) * bytes ≤ (l.length + 1) * 4096 := Nat.mul_le_mul_left _ hby
    refine wp_append_any s x _ ho base O.T _ R.k bytes ht hi hz R.kpos v l.length css.flatten hs h1 _ 1 1 cs hx (by simp) (by omega) (by rw [O.len _ _ _ _ hu, Nat.one_mul]) ?_ (O.one _ _ _ _ hu) (by unfold maxLen; omega) (by omega) hbase ?_
    · intro i hi
      refine ⟨_, rfl, ?_⟩
      rw [addr_add, Nat.zero_add, cell_of hm i, List.getElem?_toArray]
      exact List.getElem?_eq_getElem hi
    · intro v' w' h3 h4 h5
      have hk : ∀ k c t mk, base ≤ k → t ≠ O.T → w.heap[k]? = some (.cells c t mk) → w'.heap[k]? = some (.cells c t mk) := by
        intro k c t mk _ ht' hk
        refine (h4.block k (Array.getElem?_eq_some_iff.1 hk).1 (fun e => ?_)).trans hk
        obtain ⟨_, c2, mk2, h6⟩ := own_cells h1 e.symm
        rw [hk] at h6
        injection h6 with h6
        injection h6 with _ h7 _
        exact ht' h7
      refine hK _ _ (h v' w' ⟨css ++ [cs], by simp [hv], ?_, fun i hi hi2 => ?_⟩ h4)
      · rw [List.flatten_append]
        simpa using h3
      · by_cases hil : i < l.length
        · have e : (l ++ [b])[i] = l[i] := List.getElem_append_left hil
          have e2 : (css ++ [cs])[i] = css[i]'(by omega) := List.getElem_append_left (by omega)
          rw [e, e2]
          exact O.keep _ _ _ _ _ (h2 i hil (by omega)) hk
        · have hi3 : i = l.length := by rw [List.length_append, List.length_cons, List.length_nil] at hi; omega
          subst hi3
          have e : (l ++ [b])[l.length]'hi = b := by simp
          have e2 : (css ++ [cs])[l.length]'hi2 = cs := by simp [← hv]
          rw [e2, e]
          exact O.keep _ _ _ _ _ hu hk
end
end Go.Proofs.Ytmnabhennibddaa
