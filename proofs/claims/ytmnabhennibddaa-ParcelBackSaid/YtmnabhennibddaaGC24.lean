/- Where All stands: its variables, the captured ones, the loop's record. No conditions. -/
import Derived.Test.YtmnabhennibddaaGC22
import Derived.Test.YtmnabhennibddaaGC23
import Derived.Deep.RegionHeld3
import Derived.RangeFuncSeq
import Derived.RangeFuncOwn
set_option linter.unusedSimpArgs false
set_option linter.unusedVariables false
namespace Go.Proofs.Ytmnabhennibddaa
open Go.RowKit

theorem take_skip {P : Program} {md : _} {ops : Array Oper} {Q : Exit → Act → World → Prop} {S : World → Prop} {i d : Nat} {oi : Oper} {fuel : Nat} {listed : Array Bool} {a : Act} {w : World} (hi : ops[i]? = some oi) (hd : oi.dst = some d)
    (hs : Region.noSelect ops = true) (hf : Region.free md ops listed i = true) (hr : (Region.ready md ops listed).contains i = true) (hQ : ∀ c a w, Q (.panic c) (a.put (some d) undef) w → Q (.panic c) a w)
    (hw : Region.wanted oi (yielded ops a.tmps) = false) (hS : S w) (h : wpAnyH P md ops Q S fuel (listed.setIfInBounds i true) (a.put (some d) undef) w) : wpAnyH P md ops Q S (fuel + 1) listed a w :=
  wpAnyH_take hi hs hf hr (by rw [hd]; exact hQ) (Or.inr ⟨hw, rfl⟩) hS (by rw [hd]; exact h)
theorem take_val {P : Program} {md : _} {ops : Array Oper} {Q : Exit → Act → World → Prop} {S : World → Prop} {i d : Nat} {oi : Oper} {v : Value} {fuel : Nat} {listed : Array Bool} {a : Act} {w : World} (hi : ops[i]? = some oi) (hd : oi.dst = some d)
    (hs : Region.noSelect ops = true) (hf : Region.free md ops listed i = true) (hr : (Region.ready md ops listed).contains i = true) (hQ : ∀ c a w, Q (.panic c) (a.put (some d) v) w → Q (.panic c) a w)
    (hw : Region.wanted oi (yielded ops a.tmps) = true) (hy : ∀ w, S w → (execOp a.eval oi).run P w = .ok (.value v) w) (hS : S w) (h : wpAnyH P md ops Q S fuel (listed.setIfInBounds i true) (a.put (some d) v) w) : wpAnyH P md ops Q S (fuel + 1) listed a w :=
  wpAnyH_take hi hs hf hr (by rw [hd]; exact hQ) (Or.inl ⟨hw, hy⟩) hS (by rw [hd]; exact h)
theorem ino_keep {W W' : World} {b : Nat} {v : Value} {l : List Int} (h : EOwn inO W b v l) (h1 : ∀ k c mk, b ≤ k → v.ownBlock = some k → W.heap[k]? = some (.cells c 3 mk) → W'.heap[k]? = some (.cells c 3 mk)) : EOwn inO W' b v l := by
  obtain ⟨css, hv, ho, hr⟩ := h
  exact ⟨css, hv, own_keep ho h1, hr⟩
theorem blo_keep {W W' : World} {b : Nat} {v : Value} {l : List (List Nat)} (h : EOwn blO W b v l) (h1 : ∀ k c mk, b ≤ k → v.ownBlock = some k → W.heap[k]? = some (.cells c 22 mk) → W'.heap[k]? = some (.cells c 22 mk)) (h2 : ∀ k c mk, b ≤ k → W.heap[k]? = some (.cells c 5 mk) → W'.heap[k]? = some (.cells c 5 mk)) : EOwn blO W' b v l := by
  obtain ⟨css, hv, ho, hr⟩ := h
  refine ⟨css, hv, own_keep ho h1, fun i hi hi2 => ?_⟩
  obtain ⟨u, e, hu⟩ := hr i hi hi2
  exact ⟨u, e, own_keep hu (fun k c mk hb _ hc => h2 k c mk hb hc)⟩
/-- Only a block of one type is turned. -/
theorem ino_type {W W' : World} {b : Nat} {v : Value} {l : List Int} (h : EOwn inO W b v l) {row : Option Nat} (hg : W.grownBy W' row) (hr : ∀ k, row = some k → ∃ c t mk, W.heap[k]? = some (.cells c t mk) ∧ t ≠ 3) : EOwn inO W' b v l :=
  ino_keep h fun k c mk _ _ hc => (hg.block k (Array.getElem?_eq_some_iff.1 hc).1 (fun e => by
    obtain ⟨c2, t, mk2, h3, h4⟩ := hr k e.symm
    rw [hc] at h3
    injection h3 with h3
    injection h3 with _ h5 _
    exact h4 h5.symm)).trans hc
theorem blo_type {W W' : World} {b : Nat} {v : Value} {l : List (List Nat)} (h : EOwn blO W b v l) {row : Option Nat} (hg : W.grownBy W' row) (hr : ∀ k, row = some k → ∃ c t mk, W.heap[k]? = some (.cells c t mk) ∧ t ≠ 5 ∧ t ≠ 22) : EOwn blO W' b v l :=
  blo_keep h (fun k c mk _ _ hc => (hg.block k (Array.getElem?_eq_some_iff.1 hc).1 (fun e => by
    obtain ⟨c2, t, mk2, h3, h4, h5⟩ := hr k e.symm
    rw [hc] at h3
    injection h3 with h3
    injection h3 with _ h6 _
    exact h5 h6.symm)).trans hc) (fun k c mk _ hc => (hg.block k (Array.getElem?_eq_some_iff.1 hc).1 (fun e => by
    obtain ⟨c2, t, mk2, h3, h4, h5⟩ := hr k e.symm
    rw [hc] at h3
    injection h3 with h3
    injection h3 with _ h6 _
    exact h4 h6.symm)).trans hc)
theorem ino_row {W : World} {b : Nat} {v : Value} {l : List Int} (h : EOwn inO W b v l) {k : Nat} (hk : v.ownBlock = some k) : ∃ c t mk, W.heap[k]? = some (.cells c t mk) ∧ t ≠ 5 ∧ t ≠ 22 := by
  obtain ⟨css, hv, ho, hr⟩ := h
  obtain ⟨_, c, mk, hc⟩ := own_cells ho hk
  exact ⟨c, _, mk, hc, by decide, by decide⟩
theorem blo_row {W : World} {b : Nat} {v : Value} {l : List (List Nat)} (h : EOwn blO W b v l) {k : Nat} (hk : v.ownBlock = some k) : ∃ c t mk, W.heap[k]? = some (.cells c t mk) ∧ t ≠ 3 := by
  obtain ⟨css, hv, ho, hr⟩ := h
  obtain ⟨_, c, mk, hc⟩ := own_cells ho hk
  exact ⟨c, _, mk, hc, by decide⟩
/-- The low blocks. -/
structure ALo (w0 W : World) (vk vb : Value) (p : Nat) (e : Int) (A : Option Addr) (n c : Nat) (lp : Loop) : Prop where
  bel : Below w0.heap.size w0 W
  ck : W.heap[w0.heap.size]? = some (.cells #[vk] 27 (0, 0))
  cb : W.heap[w0.heap.size + 1]? = some (.cells #[vb] 28 (0, 0))
  ce : W.heap[w0.heap.size + 2]? = some (.cells #[.int .i64 e] 24 (0, 0))
  ca : W.heap[w0.heap.size + 3]? = some (.cells #[.int .i64 (p : Int)] 3 (0, 0))
  cB : W.heap[w0.heap.size + 4]? = some (.cells #[.slice A n c] 22 (0, 0))
  cE : W.heap[w0.heap.size + 5]? = some (.cells #[.pointer (some ⟨w0.heap.size + 2, 0, none⟩)] 72 (0, 0))
  dD : W.heap[w0.heap.size + 6]? = some (.deferred (some []))
  dL : W.heap[w0.heap.size + 7]? = some (.loop lp)
section
variable {w0 W W' : World} {vk vb : Value} {p : Nat} {e : Int} {A : Option Addr} {n c : Nat} {lp : Loop}
theorem ALo.high (h : ALo w0 W vk vb p e A n c lp) {row : Option Nat} (hg : W.grownBy W' row) (hr : ∀ k, row = some k → w0.heap.size + 8 ≤ k) : ALo w0 W' vk vb p e A n c lp := by
  have hk : ∀ q o, q < w0.heap.size + 8 → W.heap[q]? = some o → W'.heap[q]? = some o := fun q o hq ho => (hg.block q (Array.getElem?_eq_some_iff.1 ho).1 (fun e => by have := hr q e.symm; omega)).trans ho
  exact ⟨h.bel.grown hg h.bel.size (fun k e => by have := hr k e; omega), hk _ _ (by omega) h.ck, hk _ _ (by omega) h.cb, hk _ _ (by omega) h.ce, hk _ _ (by omega) h.ca, hk _ _ (by omega) h.cB, hk _ _ (by omega) h.cE, hk _ _ (by omega) h.dD, hk _ _ (by omega) h.dL⟩
theorem ALo.below (h : ALo w0 W vk vb p e A n c lp) (hb : Below W.heap.size W W') : ALo w0 W' vk vb p e A n c lp := h.high (row := none) (grown_of_below hb _) (fun k e => by cases e)
theorem set_other {W : World} {b q j : Nat} {v : Value} (h : q ≠ b) : (W.setCell ⟨b, j, none⟩ v).heap[q]? = W.heap[q]? := Below.heap_setCell W ⟨b, j, none⟩ v q h
theorem ALo.setK (h : ALo w0 W vk vb p e A n c lp) (v : Value) : ALo w0 (W.setCell ⟨w0.heap.size, 0, none⟩ v) v vb p e A n c lp :=
  ⟨h.bel.setCell (p := ⟨w0.heap.size, 0, none⟩) (Nat.le_refl _) _, heap_set h.ck 0 v, (set_other (by omega)).trans h.cb, (set_other (by omega)).trans h.ce, (set_other (by omega)).trans h.ca, (set_other (by omega)).trans h.cB, (set_other (by omega)).trans h.cE, (set_other (by omega)).trans h.dD, (set_other (by omega)).trans h.dL⟩
theorem ALo.setV (h : ALo w0 W vk vb p e A n c lp) (v : Value) : ALo w0 (W.setCell ⟨w0.heap.size + 1, 0, none⟩ v) vk v p e A n c lp :=
  ⟨h.bel.setCell (p := ⟨w0.heap.size + 1, 0, none⟩) (Nat.le_add_right _ _) _, (set_other (by omega)).trans h.ck, heap_set h.cb 0 v, (set_other (by omega)).trans h.ce, (set_other (by omega)).trans h.ca, (set_other (by omega)).trans h.cB, (set_other (by omega)).trans h.cE, (set_other (by omega)).trans h.dD, (set_other (by omega)).trans h.dL⟩
theorem ALo.setE (h : ALo w0 W vk vb p e A n c lp) (e' : Int) : ALo w0 (W.setCell ⟨w0.heap.size + 2, 0, none⟩ (.int .i64 e')) vk vb p e' A n c lp :=
  ⟨h.bel.setCell (p := ⟨w0.heap.size + 2, 0, none⟩) (Nat.le_add_right _ _) _, (set_other (by omega)).trans h.ck, (set_other (by omega)).trans h.cb, heap_set h.ce 0 _, (set_other (by omega)).trans h.ca, (set_other (by omega)).trans h.cB, (set_other (by omega)).trans h.cE, (set_other (by omega)).trans h.dD, (set_other (by omega)).trans h.dL⟩
theorem ALo.setA (h : ALo w0 W vk vb p e A n c lp) (p' : Nat) : ALo w0 (W.setCell ⟨w0.heap.size + 3, 0, none⟩ (.int .i64 (p' : Int))) vk vb p' e A n c lp :=
  ⟨h.bel.setCell (p := ⟨w0.heap.size + 3, 0, none⟩) (Nat.le_add_right _ _) _, (set_other (by omega)).trans h.ck, (set_other (by omega)).trans h.cb, (set_other (by omega)).trans h.ce, heap_set h.ca 0 _, (set_other (by omega)).trans h.cB, (set_other (by omega)).trans h.cE, (set_other (by omega)).trans h.dD, (set_other (by omega)).trans h.dL⟩
theorem ALo.setB (h : ALo w0 W vk vb p e A n c lp) (B : Option Addr) (m d : Nat) : ALo w0 (W.setCell ⟨w0.heap.size + 4, 0, none⟩ (.slice B m d)) vk vb p e B m d lp :=
  ⟨h.bel.setCell (p := ⟨w0.heap.size + 4, 0, none⟩) (Nat.le_add_right _ _) _, (set_other (by omega)).trans h.ck, (set_other (by omega)).trans h.cb, (set_other (by omega)).trans h.ce, (set_other (by omega)).trans h.ca, heap_set h.cB 0 _, (set_other (by omega)).trans h.cE, (set_other (by omega)).trans h.dD, (set_other (by omega)).trans h.dL⟩
theorem ALo.putL (h : ALo w0 W vk vb p e A n c lp) (lp' : Loop) : ALo w0 (W.putObj (w0.heap.size + 7) (.loop lp')) vk vb p e A n c lp' := by
  have hk : ∀ q o, q ≠ w0.heap.size + 7 → W.heap[q]? = some o → (W.putObj (w0.heap.size + 7) (.loop lp')).heap[q]? = some o := fun q o hq ho => (World.putObj_heap_other hq).trans ho
  exact ⟨h.bel.grown (grownBy_putObj' W _ _) h.bel.size (fun k e => by cases e; omega), hk _ _ (by omega) h.ck, hk _ _ (by omega) h.cb, hk _ _ (by omega) h.ce, hk _ _ (by omega) h.ca, hk _ _ (by omega) h.cB, hk _ _ (by omega) h.cE, hk _ _ (by omega) h.dD, World.putObj_heap_same (Array.getElem?_eq_some_iff.1 h.dL).1⟩
end
/-- The whole: the frames so far. -/
structure AS (w0 W : World) (F : List (Nat × List Nat)) (p : Nat) (e : Int) (r : List Nat) (lp : Loop) (vk vb : Value) (A : Option Addr) (n c : Nat) : Prop where
  lo : ALo w0 W vk vb p e A n c lp
  ek : EOwn inO W (w0.heap.size + 8) vk (F.map fun f => (f.1 : Int))
  eb : EOwn blO W (w0.heap.size + 8) vb (F.map (·.2))
  bs : BS w0 A n c r
section
variable {w0 W W' : World} {F : List (Nat × List Nat)} {vk vb : Value} {p : Nat} {e : Int} {r : List Nat} {A : Option Addr} {n c : Nat} {lp : Loop}
theorem AS.below (h : AS w0 W F p e r lp vk vb A n c) (hb : Below W.heap.size W W') : AS w0 W' F p e r lp vk vb A n c := ⟨h.lo.below hb, h.ek.below hb, h.eb.below hb, h.bs⟩
theorem AS.sz (h : AS w0 W F p e r lp vk vb A n c) : w0.heap.size + 8 ≤ W.heap.size := (Array.getElem?_eq_some_iff.1 h.lo.dL).1
theorem AS.setK2 (h : AS w0 W F p e r lp vk vb A n c) : AS w0 (W.setCell ⟨w0.heap.size, 0, none⟩ vk) F p e r lp vk vb A n c :=
  ⟨h.lo.setK vk, h.ek.far (by omega) _ _, h.eb.far (by omega) _ _, h.bs⟩
theorem AS.setV2 (h : AS w0 W F p e r lp vk vb A n c) : AS w0 (W.setCell ⟨w0.heap.size + 1, 0, none⟩ vb) F p e r lp vk vb A n c :=
  ⟨h.lo.setV vb, h.ek.far (by omega) _ _, h.eb.far (by omega) _ _, h.bs⟩
theorem AS.setE (h : AS w0 W F p e r lp vk vb A n c) (e' : Int) : AS w0 (W.setCell ⟨w0.heap.size + 2, 0, none⟩ (.int .i64 e')) F p e' r lp vk vb A n c :=
  ⟨h.lo.setE e', h.ek.far (by omega) _ _, h.eb.far (by omega) _ _, h.bs⟩
theorem AS.setA (h : AS w0 W F p e r lp vk vb A n c) (p' : Nat) : AS w0 (W.setCell ⟨w0.heap.size + 3, 0, none⟩ (.int .i64 (p' : Int))) F p' e r lp vk vb A n c :=
  ⟨h.lo.setA p', h.ek.far (by omega) _ _, h.eb.far (by omega) _ _, h.bs⟩
theorem AS.setB (h : AS w0 W F p e r lp vk vb A n c) {B : Option Addr} {m d : Nat} {r' : List Nat} (hB : BS w0 B m d r') : AS w0 (W.setCell ⟨w0.heap.size + 4, 0, none⟩ (.slice B m d)) F p e r' lp vk vb B m d :=
  ⟨h.lo.setB B m d, h.ek.far (by omega) _ _, h.eb.far (by omega) _ _, hB⟩
theorem AS.putL (h : AS w0 W F p e r lp vk vb A n c) (lp' : Loop) : AS w0 (W.putObj (w0.heap.size + 7) (.loop lp')) F p e r lp' vk vb A n c := by
  have hk : ∀ q o, w0.heap.size + 8 ≤ q → W.heap[q]? = some o → (W.putObj (w0.heap.size + 7) (.loop lp')).heap[q]? = some o := fun q o hq ho => (World.putObj_heap_other (by omega)).trans ho
  exact ⟨h.lo.putL lp', ino_keep h.ek (fun k c mk hb _ hc => hk k _ hb hc), blo_keep h.eb (fun k c mk hb _ hc => hk k _ hb hc) (fun k c mk hb hc => hk k _ hb hc), h.bs⟩
end
end Go.Proofs.Ytmnabhennibddaa
