/- The document's Parse of an answer: its contract. No conditions. -/
import Derived.Test.YtfedgjahbmcpoaaGreatGB26
import Derived.Test.YtfedgjahbmcpoaaGreatGB39
import Derived.Test.YtfedgjahbmcpoaaGreatGB42
import Derived.Test.YtfedgjahbmcpoaaGreatGB45
import Derived.Deep.CutBlock
import Derived.Deep.DeepCutAuto
import Derived.Deep.RegionHeld3
set_option linter.unusedSimpArgs false
set_option linter.unusedVariables false
namespace Go.Proofs.YtfedgjahbmcpoaaGreat
open Go.RowKit

theorem sn_block {W : World} {q : Nat} {c0 c1 c2 c3 c4 c5 c6 c7 c8 c9 c10 : Value} {t : TypeId} {m : Nat × Nat} (h : W.heap[q]? = some (.cells #[c0, c1, c2, c3, c4, c5, c6, c7, c8, c9, c10] t m)) :
    W.cell? ⟨q, 0, none⟩ = some c0 ∧ W.cell? ⟨q, 1, none⟩ = some c1 ∧ W.cell? ⟨q, 2, none⟩ = some c2 ∧ W.cell? ⟨q, 3, none⟩ = some c3 ∧ W.cell? ⟨q, 4, none⟩ = some c4 ∧ W.cell? ⟨q, 5, none⟩ = some c5 ∧ W.cell? ⟨q, 6, none⟩ = some c6 ∧ W.cell? ⟨q, 7, none⟩ = some c7 ∧ W.cell? ⟨q, 8, none⟩ = some c8 ∧ W.cell? ⟨q, 9, none⟩ = some c9 ∧ W.cell? ⟨q, 10, none⟩ = some c10 :=
  ⟨cell_of h 0, cell_of h 1, cell_of h 2, cell_of h 3, cell_of h 4, cell_of h 5, cell_of h 6, cell_of h 7, cell_of h 8, cell_of h 9, cell_of h 10⟩
/-- Stops the walk: for arms that are to be typed behind it. -/
theorem hold2 {p : Prop} (h : Hid p) : p := h.out
theorem infoSpN : (Tryz.prog.info? 48).map (·.size) = some 9 := by kernel_rfl
theorem there_le {w : World} {q n : Nat} {c : Array Value} {t : TypeId} (h : w.heap[q]? = some (.cells c t (0, 0))) (hn : n ≤ c.size) : w.there q 0 n := by
  intro j hj
  refine ⟨?_, frozen_of h _⟩
  rw [cell_of h]
  simp
  omega
theorem rcell2 {w : World} {lo g : Nat} {e : Int} {l : List Nat} (h : Rfr w lo g e l) : w.cell? ⟨g, 1, none⟩ = some (.int .i64 e) := by
  obtain ⟨A, n, c, m, h1, _⟩ := h
  have := cell_of h1 1
  simpa using this
/-- What stands behind a box in one world stands so in another one. -/
structure KP (W w : World) (q : Nat) : Prop where
  k : ∀ k, q < k → k < W.heap.size → w.heap[k]? = W.heap[k]?
  sz : W.heap.size ≤ w.heap.size
theorem KP.refl (W : World) (q : Nat) : KP W W q := ⟨fun _ _ _ => rfl, Nat.le_refl _⟩
theorem KP.grown {W w w' : World} {q : Nat} {row : Option Nat} (h : KP W w q) (hg : w.grownBy w' row) (hr : ∀ k, row = some k → k ≤ q ∨ W.heap.size ≤ k) : KP W w' q :=
  ⟨fun k h1 h2 => (hg.block k (by have := h.sz; omega) (fun e => by have := hr k e.symm; omega)).trans (h.k k h1 h2), Nat.le_trans h.sz hg.size⟩
theorem KP.set {W w : World} {q : Nat} (h : KP W w q) {b : Nat} (hb : b ≤ q ∨ W.heap.size ≤ b) (j : Nat) (v : Value) : KP W (w.setCell ⟨b, j, none⟩ v) q :=
  ⟨fun k h1 h2 => (Below.heap_setCell w ⟨b, j, none⟩ v k (by show k ≠ b; omega)).trans (h.k k h1 h2), by rw [World.size_setCell]; exact h.sz⟩
theorem KP.below {W w w' : World} {q : Nat} (h : KP W w q) (hb : Below w.heap.size w w') : KP W w' q :=
  ⟨fun k h1 h2 => (hb.block k (by have := h.sz; omega)).trans (h.k k h1 h2), Nat.le_trans h.sz hb.size⟩
theorem EOwn.kp {α : Type} {R : RdE α} {O : RoE R} {W w : World} {q : Nat} {v : Value} {l : List α} (h : EOwn O W (q + 1) v l) (hk : KP W w q) : EOwn O w (q + 1) v l :=
  h.keep (fun k c mk hb _ hc => (hk.k k (by omega) (Array.getElem?_eq_some_iff.1 hc).1).trans hc) (fun k c t mk hb _ hc => (hk.k k (by omega) (Array.getElem?_eq_some_iff.1 hc).1).trans hc)
/-- Where the document's Parse stands. -/
structure RqA (w0 w : World) (lo g q2 q5 : Nat) (e : Int) (l : List Nat) (cs : Array Value) : Prop where
  bel : Below w0.heap.size w0 w
  rd : Rfr w lo g e l
  b2 : w.heap[q2]? = some (.cells #[.int .i64 0, .slice none 0 0, .int .i64 0, .slice none 0 0, .slice none 0 0, .int .i64 0] 29 (0, 0))
  b5 : w.heap[q5]? = some (.cells cs 29 (0, 0))
  lo2 : w0.heap.size ≤ q2
  n2 : q2 < lo
  g5 : g < q5
theorem RqA.grown {w0 w w' : World} {lo g q2 q5 : Nat} {e : Int} {l : List Nat} {cs : Array Value} {row : Option Nat} (h : RqA w0 w lo g q2 q5 e l cs) (hg : w.grownBy w' row) (hr : ∀ k, row = some k → q5 < k) : RqA w0 w' lo g q2 q5 e l cs := by
  have h1 := h.rd.lt; have h2 := h.n2; have h3 := h.g5; have h4 := h.lo2
  have hk : ∀ q o, w.heap[q]? = some o → q ≤ q5 → w'.heap[q]? = some o := fun q o hq hle => (hg.block q (Array.getElem?_eq_some_iff.1 hq).1 (fun e => by have := hr q e.symm; omega)).trans hq
  exact ⟨h.bel.grown hg h.bel.size (fun k hk => by have := hr k hk; omega), h.rd.grown hg (fun k hk => by have := hr k hk; omega), hk _ _ h.b2 (by omega), hk _ _ h.b5 (Nat.le_refl _), h4, h2, h3⟩
theorem RqA.read {w0 w w' : World} {lo g q2 q5 : Nat} {e e' : Int} {l l' : List Nat} {cs : Array Value} (h : RqA w0 w lo g q2 q5 e l cs) (hr : Rfr w' lo g e' l') (hg : w.grownBy w' (some g)) : RqA w0 w' lo g q2 q5 e' l' cs := by
  have h1 := hr.lt; have h2 := h.n2; have h3 := h.g5; have h4 := h.lo2
  exact ⟨grown_bel h.bel hg (by omega), hr, gblk h.b2 hg (by omega), gblk h.b5 hg (by omega), h4, h2, h3⟩
theorem RqA.below {w0 w w' : World} {lo g q2 q5 : Nat} {e : Int} {l : List Nat} {cs : Array Value} (h : RqA w0 w lo g q2 q5 e l cs) (hb : Below w.heap.size w w') : RqA w0 w' lo g q2 q5 e l cs :=
  ⟨nx h.bel hb, h.rd.below hb, blkB h.b2 hb, blkB h.b5 hb, h.lo2, h.n2, h.g5⟩
theorem rfset {w : World} {lo g : Nat} {e : Int} {l : List Nat} (h : Rfr w lo g e l) {b : Nat} (hb : g < b) (j : Nat) (x : Value) : Rfr (w.setCell ⟨b, j, none⟩ x) lo g e l := h.grown (grown_set w b j x) (fun k hk => by injection hk with hk; omega)
theorem RqA.far {w0 w : World} {lo g q2 q5 : Nat} {e : Int} {l : List Nat} {cs : Array Value} (h : RqA w0 w lo g q2 q5 e l cs) {b : Nat} (hb : q5 < b) (j : Nat) (v : Value) : RqA w0 (w.setCell ⟨b, j, none⟩ v) lo g q2 q5 e l cs := by
  have h1 := h.rd.lt; have h2 := h.n2; have h3 := h.g5; have h4 := h.lo2
  exact ⟨h.bel.setCell (p := ⟨b, j, none⟩) (by show w0.heap.size ≤ b; omega) _, rfset h.rd (by omega) j v, (Below.heap_setCell w ⟨b, j, none⟩ v q2 (by show q2 ≠ b; omega)).trans h.b2, (Below.heap_setCell w ⟨b, j, none⟩ v q5 (by show q5 ≠ b; omega)).trans h.b5, h4, h2, h3⟩
theorem RqA.set {w0 w : World} {lo g q2 q5 : Nat} {e : Int} {l : List Nat} {cs : Array Value} (h : RqA w0 w lo g q2 q5 e l cs) (j : Nat) (v : Value) : RqA w0 (w.setCell ⟨q5, j, none⟩ v) lo g q2 q5 e l (cs.setIfInBounds j v) := by
  have h1 := h.rd.lt; have h2 := h.n2; have h3 := h.g5; have h4 := h.lo2
  exact ⟨h.bel.setCell (p := ⟨q5, j, none⟩) (by show w0.heap.size ≤ q5; omega) _, rfset h.rd (by omega) j v, (Below.heap_setCell w ⟨q5, j, none⟩ v q2 (by show q2 ≠ q5; omega)).trans h.b2, heap_set h.b5 j v, h4, h2, h3⟩
/-- A list is read: the row so far in memory behind the loop's first world. -/
structure RqL {α : Type} {R : RdE α} (O : RoE R) (w0 W w : World) (lo g q2 q5 : Nat) (e : Int) (l : List Nat) (cs : Array Value) (v : Value) (Q : List α) : Prop where
  a : RqA w0 w lo g q2 q5 e l cs
  o : EOwn O w W.heap.size v Q
  k : KP W w q5
  q : q5 < W.heap.size
section
variable {α : Type} {R : RdE α} {O : RoE R} {w0 W w w' : World} {lo g q2 q5 : Nat} {e : Int} {l : List Nat} {cs : Array Value} {v : Value} {Q : List α}
theorem RqL.new (h : RqA w0 W lo g q2 q5 e l cs) : RqL O w0 W W lo g q2 q5 e l cs (.slice none 0 0) [] := ⟨h, EOwn.nil _ _, KP.refl _ _, (Array.getElem?_eq_some_iff.1 h.b5).1⟩
theorem RqL.read {e' : Int} {l' : List Nat} (h : RqL O w0 W w lo g q2 q5 e l cs v Q) (hr : Rfr w' lo g e' l') (hg : w.grownBy w' (some g)) : RqL O w0 W w' lo g q2 q5 e' l' cs v Q := by
  have h1 := h.a.g5; have h2 := h.q
  exact ⟨h.a.read hr hg, h.o.grown hg (fun k hk => by injection hk with hk; omega), h.k.grown hg (fun k hk => by injection hk with hk; omega), h2⟩
theorem RqL.below (h : RqL O w0 W w lo g q2 q5 e l cs v Q) (hb : Below w.heap.size w w') : RqL O w0 W w' lo g q2 q5 e l cs v Q := ⟨h.a.below hb, h.o.below hb, h.k.below hb, h.q⟩
theorem RqL.box (h : RqL O w0 W w lo g q2 q5 e l cs v Q) {b : Nat} {c0 : Array Value} {mk0 : Nat × Nat} (hq : w.heap[b]? = some (.cells c0 O.T mk0)) (hne : v.ownBlock ≠ some b) (hb : W.heap.size ≤ b) (j : Nat) (x : Value) : RqL O w0 W (w.setCell ⟨b, j, none⟩ x) lo g q2 q5 e l cs v Q := by
  have h2 := h.q
  exact ⟨h.a.far (by omega) j x, h.o.box hq hne j x, h.k.set (.inr hb) j x, h2⟩
theorem RqL.row {b : Nat} {mk0 : Nat × Nat} (hne : v.ownBlock ≠ some b) (hb : W.heap.size ≤ b) : ∀ (vs : List Value) (o : Nat) {w : World} {c0 : Array Value}, RqL O w0 W w lo g q2 q5 e l cs v Q → w.heap[b]? = some (.cells c0 O.T mk0) → RqL O w0 W (w.setCells b o vs) lo g q2 q5 e l cs v Q ∧ (w.setCells b o vs).heap[b]? = some (.cells (rowSet c0 o vs) O.T mk0)
  | [], _, _, _, h, hq => ⟨h, hq⟩
  | x :: r, o, _, _, h, hq => RqL.row hne hb r (o + 1) (h.box hq hne hb o x) (heap_set hq o x)
theorem RqL.push {v' : Value} {Q' : List α} (h : RqL O w0 W w lo g q2 q5 e l cs v Q) (ho : EOwn O w' W.heap.size v' Q') (hg : w.grownBy w' v.ownBlock) : RqL O w0 W w' lo g q2 q5 e l cs v' Q' := by
  have h1 := h.o.block; have h2 := h.q
  exact ⟨h.a.grown hg (fun k hk => by have := h1 k hk; omega), ho, h.k.grown hg (fun k hk => .inr (h1 k hk)), h2⟩
theorem RqL.set (h : RqL O w0 W w lo g q2 q5 e l cs v Q) (j : Nat) (x : Value) : RqL O w0 W (w.setCell ⟨q5, j, none⟩ x) lo g q2 q5 e l (cs.setIfInBounds j x) v Q := by
  have h2 := h.q
  exact ⟨h.a.set j x, h.o.far h2 j x, h.k.set (.inl (Nat.le_refl _)) j x, h2⟩
end
/-- append(v, x) of one element, as one operation. -/
theorem wp_append_el {α : Type} {R : RdE α} {O : RoE R} {w : World} {o : Oper} {a : Act} {K : Act → World → Prop} {Q : Exit → Act → World → Prop} (s x : Operand) (t : TypeId) (z : Value) (bytes : Nat)
    (ho : o.op = .call { callee := .builtin .append, args := #[s, x], argTypes := #[t, t] }) (ht : Tryz.prog.underlying t = some (.slice O.T)) (hi : (Tryz.prog.info? O.T).map (fun i => (i.zero, i.size, i.bytes)) = some (some z, R.k, bytes)) (hz : z.cells.size = R.k) (hby : bytes ≤ 4096)
    (base : Nat) (v : Value) (l : List α) (b : α) (cs : List Value) (hs : a.eval s = v) (hown : EOwn O w base v l) (hu : O.ro w base b cs)
    (g : Nat) (hx : a.eval x = .slice (some ⟨g, 0, none⟩) 1 1) (mk : Nat × Nat) (hm : w.heap[g]? = some (.cells cs.toArray O.T mk)) (hb : l.length + 1 ≤ 34359738368) (hbase : base ≤ w.heap.size)
    (h : ∀ v' w', EOwn O w' base v' (l ++ [b]) → w.grownBy w' v.ownBlock → K (a.put o.dst v') w') :
    o.wp Tryz.prog a w K Q := by
  obtain ⟨css, hv, h1, h2⟩ := hown
  have hbb : (l.length + 1) * bytes ≤ (l.length + 1) * 4096 := Nat.mul_le_mul_left _ hby
  refine wp_append_any s x _ ho base O.T _ R.k bytes ht hi hz R.kpos v l.length css.flatten hs h1 _ 1 1 cs hx (by simp) (by omega) (by rw [O.len _ _ _ _ hu, Nat.one_mul]) ?_ (O.one _ _ _ _ hu) (by unfold maxLen; omega) (by omega) hbase ?_
  · intro i hi
    refine ⟨_, rfl, ?_⟩
    rw [addr_add, Nat.zero_add, cell_of hm i, List.getElem?_toArray]
    exact List.getElem?_eq_getElem hi
  · intro v' w' h3 h4 h5
    have hk : ∀ k c t mk, base ≤ k → t ≠ O.T → w.heap[k]? = some (.cells c t mk) → w'.heap[k]? = some (.cells c t mk) := by
      intro k c t mk _ ht' hk
      refine (h4.block k (Array.getElem?_eq_some_iff.1 hk).1 (fun e => ?_)).trans hk
      obtain ⟨_, c2, mk2, h6⟩ := own_cells h1 e.symm
      rw [hk] at h6
      injection h6 with h6
      injection h6 with _ h7 _
      exact ht' h7
    refine h v' w' ⟨css ++ [cs], by simp [hv], ?_, fun i hi hi2 => ?_⟩ h4
    · rw [List.flatten_append]
      simpa using h3
    · by_cases hil : i < l.length
      · have e : (l ++ [b])[i] = l[i] := List.getElem_append_left hil
        have e2 : (css ++ [cs])[i] = css[i]'(by omega) := List.getElem_append_left (by omega)
        rw [e, e2]
        exact O.keep _ _ _ _ _ (h2 i hil (by omega)) hk
      · have hi3 : i = l.length := by rw [List.length_append, List.length_cons, List.length_nil] at hi; omega
        subst hi3
        have e : (l ++ [b])[l.length]'hi = b := by simp
        have e2 : (css ++ [cs])[l.length]'hi2 = cs := by simp [← hv]
        rw [e2, e]
        exact O.keep _ _ _ _ _ hu hk
set_option maxHeartbeats 64000000 in
set_option maxRecDepth 100000 in
theorem refAnParse_any {A : Option Addr} {n c : Nat} {l : List Nat} {w : World} (h : BS w A n c l) :
    Calls Tryz.prog 7 #[.slice A n c] w fun e w' => RpR w w' e (prAn l) := by
  have HA := Lib.hid h
  have HPR := Lib.hid (prAnR_eq l h.byt)
  clear h
  have hbq := bel1 w (.cells #[.int .i64 0, .slice none 0 0, .int .i64 0, .slice none 0 0, .slice none 0 0, .int .i64 0] 29)
  have BQ := heap_alloc_new w (.cells #[.int .i64 0, .slice none 0 0, .int .i64 0, .slice none 0 0, .slice none 0 0, .int .i64 0] 29)
  obtain ⟨x1, hx1⟩ : ∃ x, x = nb 9007199254740991 0 l := ⟨_, rfl⟩
  obtain ⟨x2, hx2⟩ : ∃ x, x = nb 9007199254740991 x1.2.1 x1.2.2 := ⟨_, rfl⟩
  obtain ⟨x3, hx3⟩ : ∃ x, x = nb 9007199254740991 x2.2.1 x2.2.2 := ⟨_, rfl⟩
  obtain ⟨n1, hn1⟩ : ∃ x, x = nb 9007199254740991 x3.2.1 x3.2.2 := ⟨_, rfl⟩
  obtain ⟨y1, hy1⟩ : ∃ x, x = tkM tkSnR (min n1.1 1001) n1.2.1 n1.2.2 := ⟨_, rfl⟩
  have hz1 : tkLr 1000 tkSnR x3.2.1 x3.2.2 = y1 := by unfold tkLr; rw [← hn1, hy1]
  obtain ⟨n2, hn2⟩ : ∃ x, x = nb 9007199254740991 y1.2.1 y1.2.2 := ⟨_, rfl⟩
  obtain ⟨y2, hy2⟩ : ∃ x, x = tkM tkCe (min n2.1 21) n2.2.1 n2.2.2 := ⟨_, rfl⟩
  have hz2 : tkLr 20 tkCe y1.2.1 y1.2.2 = y2 := by unfold tkLr; rw [← hn2, hy2]
  obtain ⟨n3, hn3⟩ : ∃ x, x = nb 9007199254740991 y2.2.1 y2.2.2 := ⟨_, rfl⟩
  obtain ⟨y3, hy3⟩ : ∃ x, x = tkM tkEd (min n3.1 10001) n3.2.1 n3.2.2 := ⟨_, rfl⟩
  have hz3 : tkLr 10000 tkEd y2.2.1 y2.2.2 = y3 := by unfold tkLr; rw [← hn3, hy3]
  have HT := Lib.hid (show tkAnR l = (⟨(x1.1 : Int), y1.1, (x2.1 : Int), y2.1, y3.1, (x3.1 : Int)⟩, y3.2) by
    have hu : tkU 3 0 l = ([x1.1, x2.1, x3.1], x3.2) := by simp only [tkU, ← hx1, ← hx2, ← hx3]
    unfold tkAnR
    simp only [hu, hz1, hz2, hz3]
    rfl)
  have HATS := Lib.hid (show ∀ s ∈ y1.1, (∀ a ∈ s.sp.ats, a.lab.p < 4294967296) ∧ s.sp.ats.length ≤ 8 by have := tkAnR_ats l; rw [HT.out] at this; exact this)
  have HLN1 := Lib.hid (show y1.1.length ≤ 1001 by rw [hy1]; exact Nat.le_trans (tkM_len _ _ _ _) (Nat.min_le_right _ _))
  have HLN2 := Lib.hid (show y2.1.length ≤ 21 by rw [hy2]; exact Nat.le_trans (tkM_len _ _ _ _) (Nat.min_le_right _ _))
  have HLN3 := Lib.hid (show y3.1.length ≤ 10001 by rw [hy3]; exact Nat.le_trans (tkM_len _ _ _ _) (Nat.min_le_right _ _))
  have Hx1 := Lib.hid hx1
  have Hx2 := Lib.hid hx2
  have Hx3 := Lib.hid hx3
  have Hn1 := Lib.hid hn1
  have Hn2 := Lib.hid hn2
  have Hn3 := Lib.hid hn3
  have Hy1 := Lib.hid hy1
  have Hy2 := Lib.hid hy2
  have Hy3 := Lib.hid hy3
  clear hx1 hx2 hx3 hn1 hn2 hn3 hy1 hy2 hy3 hz1 hz2 hz3
  go_enter Tryz.func7, Tryz.ntmps7
  (try simp only [List.append_eq, List.cons_append, List.nil_append])
  go_wp2_with fail
  refine (refNew_any A n c l _ (HA.out.below hbq)).mono ?_
  rintro e w2 ⟨g, rfl, hr, hb2⟩
  rw [World.size_alloc] at hr
  have hlg := hr.lt
  have B2 := Lib.hid (blkB BQ hb2)
  have BL := Lib.hid (nx hbq hb2)
  have RD := Lib.hid hr
  clear BQ hb2 hr hbq
  go_wp2_with fail
  refine (rfU_any RD.out).mono ?_
  rw [← Hx1.out]
  rintro e w3 ⟨rfl, hr, hg⟩
  have B2' := Lib.hid (gblk B2.out hg (by omega))
  have BL' := Lib.hid (grown_bel BL.out hg (by omega))
  have RD' := Lib.hid hr
  clear B2 BL RD hr hg
  have B2 := B2'; have BL := BL'; have RD := RD'
  clear B2' BL' RD'
  go_wp2_with fail
  refine (rfU_any RD.out).mono ?_
  rw [← Hx2.out]
  rintro e w4 ⟨rfl, hr, hg⟩
  have B2' := Lib.hid (gblk B2.out hg (by omega))
  have BL' := Lib.hid (grown_bel BL.out hg (by omega))
  have RD' := Lib.hid hr
  clear B2 BL RD hr hg
  have B2 := B2'; have BL := BL'; have RD := RD'
  clear B2' BL' RD'
  go_wp2_with fail
  refine (rfU_any RD.out).mono ?_
  rw [← Hx3.out]
  rintro e w5 ⟨rfl, hr, hg⟩
  have B2' := Lib.hid (gblk B2.out hg (by omega))
  have BL' := Lib.hid (grown_bel BL.out hg (by omega))
  have RD' := Lib.hid hr
  clear B2 BL RD hr hg
  have B2 := B2'; have BL := BL'; have RD := RD'
  clear B2' BL' RD'
  have hgs := RD.out.lt.2
  have HP := Lib.hid (show RqA w (w5.alloc (.cells #[.int .i64 (x1.1 : Int), .slice none 0 0, .int .i64 (x2.1 : Int), .slice none 0 0, .slice none 0 0, .int .i64 (x3.1 : Int)] 29)) (w.heap.size + 1) g w.heap.size w5.heap.size x3.2.1 x3.2.2 #[.int .i64 (x1.1 : Int), .slice none 0 0, .int .i64 (x2.1 : Int), .slice none 0 0, .slice none 0 0, .int .i64 (x3.1 : Int)] from ⟨nx BL.out (bel1 _ _), RD.out.below (bel1 _ _), blkB B2.out (bel1 _ _), heap_alloc_new w5 _, Nat.le_refl _, by omega, by omega⟩)
  clear B2 BL RD
  go_wp2_with fail
  obtain ⟨W5, hW⟩ : ∃ W, W = w5.alloc (.cells #[.int .i64 (x1.1 : Int), .slice none 0 0, .int .i64 (x2.1 : Int), .slice none 0 0, .slice none 0 0, .int .i64 (x3.1 : Int)] 29) := ⟨_, rfl⟩
  rw [← hW] at HP ⊢
  obtain ⟨q5, hq⟩ : ∃ q, q = w5.heap.size := ⟨_, rfl⟩
  rw [← hq] at HP ⊢
  clear hW hq hgs hlg
  obtain ⟨q2, hq2⟩ : ∃ q, q = w.heap.size := ⟨_, rfl⟩
  obtain ⟨lo, hlo⟩ : ∃ q, q = w.heap.size + 1 := ⟨_, rfl⟩
  have HP' := Lib.hid (show RqA w W5 lo g q2 q5 x3.2.1 x3.2.2 #[.int .i64 (x1.1 : Int), .slice none 0 0, .int .i64 (x2.1 : Int), .slice none 0 0, .slice none 0 0, .int .i64 (x3.1 : Int)] by rw [hlo, hq2]; exact HP.out)
  have HQ2 := Lib.hid hq2
  rw [← hq2]
  clear HP hlo hq2
  have HP := HP'
  clear HP'
  refine (rfU_any HP.out.rd).mono ?_
  rw [← Hn1.out]
  rintro e t10 ⟨rfl, hr, hg⟩
  have HP' := Lib.hid (HP.out.read hr hg)
  clear HP hr hg
  have HP := HP'
  clear HP'
  obtain ⟨M, hM⟩ : ∃ M, M = min n1.1 1001 := ⟨_, rfl⟩
  have HM := Lib.hid hM
  have HY := Lib.hid (show y1 = tkM tkSnR M n1.2.1 n1.2.2 by rw [hM]; exact Hy1.out)
  clear hM
  go_upto_block 0 with (fail)
  go_cut [7] (fun _ wx => ∃ vo : Value, Hid (RqL snO w t10 wx lo g q2 q5 y1.2.1 y1.2.2 #[.int .i64 (x1.1 : Int), vo, .int .i64 (x2.1 : Int), .slice none 0 0, .slice none 0 0, .int .i64 (x3.1 : Int)] vo y1.1))
  case first =>
    have HL0 := Lib.hid (RqL.new (O := snO) HP.out)
    clear HP
    go_wp2_with fail
    go_loopw [7] (fun i wr => ∃ (k : Nat) (Q : List _) (e : Int) (l2 : List Nat) (vo : Value), k ≤ M ∧ i = .int .i64 k ∧ Hid (RqL snO w t10 wr lo g q2 q5 e l2 #[.int .i64 (x1.1 : Int), vo, .int .i64 (x2.1 : Int), .slice none 0 0, .slice none 0 0, .int .i64 (x3.1 : Int)] vo Q) ∧ Hid (y1 = (Q ++ (tkM tkSnR (M - k) e l2).1, (tkM tkSnR (M - k) e l2).2)) ∧ Hid (Q.length ≤ k)) (fun i _ => M - (intOf i).toNat)
    case atStart => exact ⟨0, [], _, _, _, Nat.zero_le _, rfl, HL0, Lib.hid (by rw [HY.out]; simp), Lib.hid (Nat.le_refl _)⟩
    case round =>
      clear HL0 HY
      obtain ⟨k, Q, e, l2, vo, hk, rfl, HP, HT9, HQL⟩ := hrel
      have rc := rcell2 HP.out.a.rd
      obtain ⟨Ao, co, eo⟩ := HP.out.o.len
      subst eo
      obtain ⟨y0, y1', y2', y3', y4', y5'⟩ := an_block HP.out.a.b5
      by_cases hgo : k < M ∧ e = 0
      · obtain ⟨hlt, rfl⟩ := hgo
        have hkn : (k : Int) < (n1.1 : Int) := by have := HM.out; omega
        have hkm : (k : Int) ≤ 1000 := by have := HM.out; omega
        have hql : Q.length ≤ 1001 := by have := HM.out; have := HQL.out; omega
        have hT := HT9.out
        rw [show M - k = (M - (k + 1)) + 1 by omega] at hT
        simp only [tkM, if_true] at hT
        clear HT9
        obtain ⟨u1, hu1⟩ : ∃ x, x = nb 9007199254740991 (0 : Int) l2 := ⟨_, rfl⟩
        obtain ⟨u2, hu2⟩ : ∃ x, x = nb 9007199254740991 u1.2.1 u1.2.2 := ⟨_, rfl⟩
        obtain ⟨u3, hu3⟩ : ∃ x, x = nb 9007199254740991 u2.2.1 u2.2.2 := ⟨_, rfl⟩
        obtain ⟨u4, hu4⟩ : ∃ x, x = nb 9007199254740991 u3.2.1 u3.2.2 := ⟨_, rfl⟩
        obtain ⟨u5, hu5⟩ : ∃ x, x = nb 9007199254740991 u4.2.1 u4.2.2 := ⟨_, rfl⟩
        obtain ⟨u6, hu6⟩ : ∃ x, x = nb 9007199254740991 u5.2.1 u5.2.2 := ⟨_, rfl⟩
        obtain ⟨u7, hu7⟩ : ∃ x, x = nb 9007199254740991 u6.2.1 u6.2.2 := ⟨_, rfl⟩
        obtain ⟨v, hv⟩ : ∃ x, x = txt 24 u7.2.1 u7.2.2 := ⟨_, rfl⟩
        obtain ⟨o, ho⟩ : ∃ x, x = txt 24 v.2.1 v.2.2 := ⟨_, rfl⟩
        obtain ⟨a, ha⟩ : ∃ x, x = tkAs o.2.1 o.2.2 := ⟨_, rfl⟩
        have HS := show tkSnR 0 l2 = (⟨⟨(u3.1 : Int), (u4.1 : Int), (u5.1 : Int), bs v.1, bs o.1, (u6.1 : Int), (u7.1 : Int), ⟨#[]⟩, a.1⟩, (u1.1 : Int), decide ((u2.1 : Int) = 1)⟩, a.2) by
          have hu : tkU 7 0 l2 = ([u1.1, u2.1, u3.1, u4.1, u5.1, u6.1, u7.1], u7.2) := by simp only [tkU, ← hu1, ← hu2, ← hu3, ← hu4, ← hu5, ← hu6, ← hu7]
          unfold tkSnR
          simp only [hu, ← hv, ← ho, ← ha]
          rfl
        rw [HS] at hT
        have HT8 := Lib.hid hT
        clear hT HS
        have c1 : u1.1 ≤ 9007199254740991 := by rw [hu1]; exact nb_le _ _ _
        have c2 : u2.1 ≤ 9007199254740991 := by rw [hu2]; exact nb_le _ _ _
        have c3 : u3.1 ≤ 9007199254740991 := by rw [hu3]; exact nb_le _ _ _
        have c4 : u4.1 ≤ 9007199254740991 := by rw [hu4]; exact nb_le _ _ _
        have c5 : u5.1 ≤ 9007199254740991 := by rw [hu5]; exact nb_le _ _ _
        have c6 : u6.1 ≤ 9007199254740991 := by rw [hu6]; exact nb_le _ _ _
        have c7 : u7.1 ≤ 9007199254740991 := by rw [hu7]; exact nb_le _ _ _
        have Hu1 := Lib.hid hu1
        have Hu2 := Lib.hid hu2
        have Hu3 := Lib.hid hu3
        have Hu4 := Lib.hid hu4
        have Hu5 := Lib.hid hu5
        have Hu6 := Lib.hid hu6
        have Hu7 := Lib.hid hu7
        have Hv := Lib.hid hv
        have Ho := Lib.hid ho
        have Ha := Lib.hid ha
        clear hu1 hu2 hu3 hu4 hu5 hu6 hu7 hv ho ha
        go_wp2_with fail
        refine (rfU_any HP.out.a.rd).mono ?_
        rw [← Hu1.out]
        rintro e t1 ⟨rfl, hr, hg⟩
        have HP' := Lib.hid (HP.out.read hr hg)
        clear hr hg HP rc y0 y1' y2' y3' y4' y5'
        have HP := HP'
        clear HP'
        go_wp2_with fail
        refine (rfU_any HP.out.a.rd).mono ?_
        rw [← Hu2.out]
        rintro e t2 ⟨rfl, hr, hg⟩
        have HP' := Lib.hid (HP.out.read hr hg)
        clear hr hg HP
        have HP := HP'
        clear HP'
        obtain ⟨bb, hbb⟩ : ∃ b, b = decide ((u2.1 : Int) = 1) := ⟨_, rfl⟩
        have hbq : ((u2.1 : Int) == 1) = bb := by rw [hbb]; rfl
        have HBB := Lib.hid hbb
        clear hbb
        have hb := bel1 t2 (.cells #[.int .i64 0, .int .i64 0, .int .i64 0, .string ⟨#[]⟩, .string ⟨#[]⟩, .int .i64 0, .int .i64 0, .string ⟨#[]⟩, .slice none 0 0, .int .i64 (u1.1 : Int), .bool bb] 50)
        have HB := Lib.hid (heap_alloc_new t2 (.cells #[.int .i64 0, .int .i64 0, .int .i64 0, .string ⟨#[]⟩, .string ⟨#[]⟩, .int .i64 0, .int .i64 0, .string ⟨#[]⟩, .slice none 0 0, .int .i64 (u1.1 : Int), .bool bb] 50))
        have HP' := Lib.hid (HP.out.below hb)
        have hle8 : t10.heap.size ≤ t2.heap.size := HP.out.k.sz
        have hg8 := HP.out.a.rd.lt.2
        have hne8 := HP.out.o.ne (Nat.le_refl _)
        clear HP hb
        have HP := HP'
        clear HP'
        go_wp2_with fail
        obtain ⟨W8, hW⟩ : ∃ W, W = t2.alloc (.cells #[.int .i64 0, .int .i64 0, .int .i64 0, .string ⟨#[]⟩, .string ⟨#[]⟩, .int .i64 0, .int .i64 0, .string ⟨#[]⟩, .slice none 0 0, .int .i64 (u1.1 : Int), .bool bb] 50) := ⟨_, rfl⟩
        rw [← hW] at HB HP ⊢
        obtain ⟨q8, hq⟩ : ∃ q, q = t2.heap.size := ⟨_, rfl⟩
        rw [← hq] at HB hle8 hg8 hne8 ⊢
        clear hW hq
        refine (rfU_any HP.out.a.rd).mono ?_
        rw [← Hu3.out]
        rintro e t3 ⟨rfl, hr, hg⟩
        have HP' := Lib.hid (HP.out.read hr hg)
        have HB' := Lib.hid (gblk HB.out hg (by omega))
        clear hr hg HP HB
        have HP := HP'; have HB := HB'
        clear HP' HB'
        go_wp2_with fail
        refine (rfU_any HP.out.a.rd).mono ?_
        rw [← Hu4.out]
        rintro e t4 ⟨rfl, hr, hg⟩
        have HP' := Lib.hid (HP.out.read hr hg)
        have HB' := Lib.hid (gblk HB.out hg (by omega))
        clear hr hg HP HB
        have HP := HP'; have HB := HB'
        clear HP' HB'
        go_wp2_with fail
        refine (rfU_any HP.out.a.rd).mono ?_
        rw [← Hu5.out]
        rintro e t5 ⟨rfl, hr, hg⟩
        have HP' := Lib.hid (HP.out.read hr hg)
        have HB' := Lib.hid (gblk HB.out hg (by omega))
        clear hr hg HP HB
        have HP := HP'; have HB := HB'
        clear HP' HB'
        go_wp2_with fail
        refine (rfU_any HP.out.a.rd).mono ?_
        rw [← Hu6.out]
        rintro e t6 ⟨rfl, hr, hg⟩
        have HP' := Lib.hid (HP.out.read hr hg)
        have HB' := Lib.hid (gblk HB.out hg (by omega))
        clear hr hg HP HB
        have HP := HP'; have HB := HB'
        clear HP' HB'
        go_wp2_with fail
        refine (rfU_any HP.out.a.rd).mono ?_
        rw [← Hu7.out]
        rintro e t7 ⟨rfl, hr, hg⟩
        have HP' := Lib.hid (HP.out.read hr hg)
        have HB' := Lib.hid (gblk HB.out hg (by omega))
        clear hr hg HP HB
        have HP := HP'; have HB := HB'
        clear HP' HB'
        go_wp2_with fail
        refine (rfText_any 24 HP.out.a.rd).mono ?_
        rw [← Hv.out]
        rintro e t8 ⟨rfl, hB1, hB2, hr, hg⟩
        have HP' := Lib.hid (HP.out.read hr hg)
        have HB' := Lib.hid (gblk HB.out hg (by omega))
        clear hr hg HP HB hB1 hB2
        have HP := HP'; have HB := HB'
        clear HP' HB'
        go_wp2_with fail
        refine (rfText_any 24 HP.out.a.rd).mono ?_
        rw [← Ho.out]
        rintro e t9 ⟨rfl, hB1, hB2, hr, hg⟩
        have HP' := Lib.hid (HP.out.read hr hg)
        have HB' := Lib.hid (gblk HB.out hg (by omega))
        clear hr hg HP HB hB1 hB2
        have HP := HP'; have HB := HB'
        clear HP' HB'
        obtain ⟨spl, hspl⟩ : ∃ z : List Value, z = [.int .i64 (u3.1 : Int), .int .i64 (u4.1 : Int), .int .i64 (u5.1 : Int), .string (bs v.1), .string (bs o.1), .int .i64 (u6.1 : Int), .int .i64 (u7.1 : Int), .string ⟨#[]⟩, .slice none 0 0] := ⟨_, rfl⟩
        have hrow := RqL.row hne8 hle8 spl 0 HP.out HB.out
        have HTH := Lib.hid (show t9.there q8 0 spl.toArray.size from there_le HB.out (by rw [hspl]; show 9 ≤ 11; omega))
        have HIL := Lib.hid (show (Tryz.prog.info? 48).map (·.size) = some spl.toArray.size by rw [hspl]; exact infoSpN)
        have H1C := Lib.hid (show spl.toArray.all (·.oneCell') = true from all_oneCell_toArray (by
          rw [hspl]
          intro x hx
          simp only [List.mem_cons, List.not_mem_nil, or_false] at hx
          rcases hx with rfl | rfl | rfl | rfl | rfl | rfl | rfl | rfl | rfl <;> rfl))
        obtain ⟨W9, hW9⟩ : ∃ W, W = t9.setCells q8 0 spl := ⟨_, rfl⟩
        rw [← hW9] at hrow
        have HX9 := Lib.hid hrow.1
        have HB9 := Lib.hid (show W9.heap[q8]? = some (.cells #[.int .i64 (u3.1 : Int), .int .i64 (u4.1 : Int), .int .i64 (u5.1 : Int), .string (bs v.1), .string (bs o.1), .int .i64 (u6.1 : Int), .int .i64 (u7.1 : Int), .string ⟨#[]⟩, .slice none 0 0, .int .i64 (u1.1 : Int), .bool bb] 50 (0, 0)) by
          have h := hrow.2
          rw [hspl] at h
          simp only [rowSet, List.setIfInBounds_toArray, List.set_cons_zero, List.set_cons_succ] at h
          exact h)
        have HW9 := Lib.hid hW9
        have HSP := Lib.hid hspl
        clear hrow hW9 hspl HP HB
        have c8 := cell_of HB9.out 8
        have f8 := frozen_of HB9.out 8
        simp at c8
        go_wp2_with (refine wpList_store_mid rfl 48 (.tmp 61) (.tmp 60) rfl q8 0 spl.toArray rfl (by rw [HSP.out]; rfl) HTH.out HIL.out H1C.out ?_; rw [show spl.toArray.toList = spl from rfl, ← HW9.out])
        have f8' := f8
        clear f8'
        refine (refTakeAs_any HX9.out.a.rd).mono ?_
        rw [← Ha.out]
        rintro e W10 ⟨va, rfl, hoa, hr, hg⟩
        have HX10 := Lib.hid (HX9.out.read hr hg)
        have HB10 := Lib.hid (gblk HB9.out hg (by omega))
        have hsz9 := HX9.out.k.sz
        have HOA := Lib.hid (ownsRow_base hoa hsz9)
        obtain ⟨A9, n9, c9, rfl, _⟩ : ∃ A4 n4 c4, va = .slice A4 n4 c4 ∧ True := (by rcases hoa.2 with ⟨h, _⟩ | ⟨g2, cap, cur, h, _⟩ <;> exact ⟨_, _, _, h, trivial⟩)
        clear hr hg hoa HX9 HB9 c8 f8 hsz9 HW9 HTH HIL H1C HSP
        have f8 := frozen_of HB10.out 8
        have c8 := cell_of HB10.out 8
        simp at c8
        have b0 := an_block HX10.out.a.b5
        obtain ⟨z0, z1, z2, z3, z4, z5⟩ := b0
        have HX11 := Lib.hid (HX10.out.box HB10.out hne8 hle8 8 (.slice A9 n9 c9))
        have HB11 := Lib.hid (show (W10.setCell ⟨q8, 8, none⟩ (.slice A9 n9 c9)).heap[q8]? = some (.cells #[.int .i64 (u3.1 : Int), .int .i64 (u4.1 : Int), .int .i64 (u5.1 : Int), .string (bs v.1), .string (bs o.1), .int .i64 (u6.1 : Int), .int .i64 (u7.1 : Int), .string ⟨#[]⟩, .slice A9 n9 c9, .int .i64 (u1.1 : Int), .bool bb] 50 (0, 0)) by
          have h := heap_set HB10.out 8 (.slice A9 n9 c9)
          simp only [List.setIfInBounds_toArray, List.set_cons_zero, List.set_cons_succ] at h
          exact h)
        have HOA11 := Lib.hid (ownsRow_setCell_other HOA.out (a := ⟨q8, 8, none⟩) (own_ne2 HOA.out HB10.out (by decide)) (.slice A9 n9 c9))
        obtain ⟨W11, hW⟩ : ∃ W, W = W10.setCell ⟨q8, 8, none⟩ (.slice A9 n9 c9) := ⟨_, rfl⟩
        have HW := Lib.hid hW
        rw [← hW] at HX11 HB11 HOA11
        clear hW z0 z1 z2 z3 z4 z5
        go_upto_region 10 with (fail)
        rw [← HW.out]
        clear HW f8 c8 HX10 HB10 HOA
        obtain ⟨z0, z1, z2, z3, z4, z5⟩ := an_block HX11.out.a.b5
        obtain ⟨d0, d1, d2, d3, d4, d5, d6, d7, d8, d9, d10⟩ := sn_block HB11.out
        have f1 := frozen_of HX11.out.a.b5 1
        have hx := bel1 W11 (.cells #[.int .i64 (u3.1 : Int), .int .i64 (u4.1 : Int), .int .i64 (u5.1 : Int), .string (bs v.1), .string (bs o.1), .int .i64 (u6.1 : Int), .int .i64 (u7.1 : Int), .string ⟨#[]⟩, .slice A9 n9 c9, .int .i64 (u1.1 : Int), .bool bb] 50)
        have HXa := Lib.hid (HX11.out.below hx)
        have HOAa := Lib.hid (ownsRow_below HOA11.out hx)
        have HBa := Lib.hid (heap_alloc_new W11 (.cells #[.int .i64 (u3.1 : Int), .int .i64 (u4.1 : Int), .int .i64 (u5.1 : Int), .string (bs v.1), .string (bs o.1), .int .i64 (u6.1 : Int), .int .i64 (u7.1 : Int), .string ⟨#[]⟩, .slice A9 n9 c9, .int .i64 (u1.1 : Int), .bool bb] 50))
        have HBB2 := Lib.hid (show (⟨⟨(u3.1 : Int), (u4.1 : Int), (u5.1 : Int), bs v.1, bs o.1, (u6.1 : Int), (u7.1 : Int), ⟨#[]⟩, a.1⟩, (u1.1 : Int), decide ((u2.1 : Int) = 1)⟩ : Sen) = ⟨⟨(u3.1 : Int), (u4.1 : Int), (u5.1 : Int), bs v.1, bs o.1, (u6.1 : Int), (u7.1 : Int), ⟨#[]⟩, a.1⟩, (u1.1 : Int), bb⟩ by rw [HBB.out])
        rw [HBB2.out] at HT8
        clear hx HX11 HB11 HOA11 hbq HBB HBB2
        obtain ⟨SX, hSX⟩ : ∃ z : Sen, z = ⟨⟨(u3.1 : Int), (u4.1 : Int), (u5.1 : Int), bs v.1, bs o.1, (u6.1 : Int), (u7.1 : Int), ⟨#[]⟩, a.1⟩, (u1.1 : Int), bb⟩ := ⟨_, rfl⟩
        have HRO := Lib.hid (show snO.ro (W11.alloc (.cells #[.int .i64 (u3.1 : Int), .int .i64 (u4.1 : Int), .int .i64 (u5.1 : Int), .string (bs v.1), .string (bs o.1), .int .i64 (u6.1 : Int), .int .i64 (u7.1 : Int), .string ⟨#[]⟩, .slice A9 n9 c9, .int .i64 (u1.1 : Int), .bool bb] 50)) t10.heap.size SX [.int .i64 (u3.1 : Int), .int .i64 (u4.1 : Int), .int .i64 (u5.1 : Int), .string (bs v.1), .string (bs o.1), .int .i64 (u6.1 : Int), .int .i64 (u7.1 : Int), .string ⟨#[]⟩, .slice A9 n9 c9, .int .i64 (u1.1 : Int), .bool bb] from ⟨_, by rw [hSX]; rfl, by rw [hSX]; exact HOAa.out⟩)
        rw [← hSX] at HT8
        clear hSX HOAa
        go_wp2_with (at_builtin; refine append_el (O := snO) rfl _ _ 25 _ _ rfl Tryz.underlying25 infoSn rfl (by decide) t10.heap.size _ Q SX _ rfl HXa.out.o HRO.out _ rfl _ HBa.out (by omega) HXa.out.k.sz ?_; intro v5 W12 ho5 hg5; refine hold2 ?_)
        obtain ⟨Av, cv, ev⟩ := ho5.len
        have e12 : v5 = .slice Av (Q.length + 1) cv := by rw [ev, List.length_append]; rfl
        subst e12
        clear ev
        have HXb := Lib.hid (HXa.out.push ho5 hg5)
        clear ho5 hg5 f1 z0 z1 z2 z3 z4 z5 d0 d1 d2 d3 d4 d5 d6 d7 d8 d9 d10
        have f1 := frozen_of HXb.out.a.b5 1
        have g1 := cell_of HXb.out.a.b5 1
        simp at g1
        refine Lib.hid ?_
        go_wp2_with fail
        have HXc := Lib.hid (show RqL snO w t10 (W12.setCell ⟨q5, 1, none⟩ (.slice Av (Q.length + 1) cv)) lo g q2 q5 a.2.1 a.2.2 #[.int .i64 (x1.1 : Int), (.slice Av (Q.length + 1) cv), .int .i64 (x2.1 : Int), .slice none 0 0, .slice none 0 0, .int .i64 (x3.1 : Int)] (.slice Av (Q.length + 1) cv) (Q ++ [SX]) by
          have h := HXb.out.set 1 (.slice Av (Q.length + 1) cv)
          simp only [List.setIfInBounds_toArray, List.set_cons_zero, List.set_cons_succ] at h
          exact h)
        exact ⟨⟨k + 1, Q ++ [SX], _, _, _, by omega, by go_num, HXc, Lib.hid (by rw [HT8.out]; simp), Lib.hid (by rw [List.length_append]; have := HQL.out; simp; omega)⟩, by simp [intOf]; omega⟩
      · have hend : tkM tkSnR (M - k) e l2 = ([], e, l2) := by
          by_cases he : e = 0
          · rw [show M - k = 0 by omega]; rfl
          · exact tkM_stop _ _ he l2
        have hY := HT9.out
        rw [hend] at hY
        simp only [List.append_nil] at hY
        have HF := Lib.hid (show RqL snO w t10 wr lo g q2 q5 y1.2.1 y1.2.2 #[.int .i64 (x1.1 : Int), (.slice Ao Q.length co), .int .i64 (x2.1 : Int), .slice none 0 0, .slice none 0 0, .int .i64 (x3.1 : Int)] (.slice Ao Q.length co) y1.1 by rw [hY]; exact HP.out)
        clear HP hY hend HT9 HQL
        by_cases h1 : k < n1.1
        · have h1' : (k : Int) < (n1.1 : Int) := by omega
          by_cases h2 : k ≤ 1000
          · have h2' : (k : Int) ≤ 1000 := by omega
            have he : (e == 0) = false := by simp; intro h; exact hgo ⟨by have := HM.out; omega, h⟩
            clear hgo h1 h2 hk
            go_wp2_with fail
            go_meet
            exact ⟨_, HF⟩
          · have h2' : ¬ (k : Int) ≤ 1000 := by omega
            clear hgo h1 h2 hk
            go_wp2_with fail
            go_meet
            exact ⟨_, HF⟩
        · have h1' : ¬ (k : Int) < (n1.1 : Int) := by omega
          clear hgo h1 hk
          go_wp2_with fail
          go_meet
          exact ⟨_, HF⟩
  obtain ⟨vo, HL⟩ := hcut
  have hkp := HL.out.k
  have h5lt := HL.out.q
  have HP2 := Lib.hid HL.out.a
  have HO1' := Lib.hid (HL.out.o.base (show q5 + 1 ≤ t10.heap.size from h5lt))
  clear HL hkp h5lt HM HY HP
  have HP := HP2
  have HO1 := HO1'
  clear HP2 HO1'
  obtain ⟨A1, c1, eo⟩ := HO1.out.len
  subst eo
  go_wp2_with fail
  refine (rfU_any HP.out.rd).mono ?_
  rw [← Hn2.out]
  rintro e t20 ⟨rfl, hr, hg⟩
  have HP' := Lib.hid (HP.out.read hr hg)
  have HO1' := Lib.hid (HO1.out.grown hg (fun k hk => by injection hk with hk; have := HP.out.g5; omega))
  clear HP hr hg HO1
  have HP := HP'
  have HO1 := HO1'
  clear HP' HO1'
  obtain ⟨M, hM⟩ : ∃ M, M = min n2.1 21 := ⟨_, rfl⟩
  have HM := Lib.hid hM
  have HY := Lib.hid (show y2 = tkM tkCe M n2.2.1 n2.2.2 by rw [hM]; exact Hy2.out)
  clear hM
  go_upto_block 2 with (fail)
  go_cut [9] (fun _ wx => ∃ vo : Value, Hid (RqL ceO w t20 wx lo g q2 q5 y2.2.1 y2.2.2 #[.int .i64 (x1.1 : Int), (.slice A1 y1.1.length c1), .int .i64 (x2.1 : Int), vo, .slice none 0 0, .int .i64 (x3.1 : Int)] vo y2.1))
  case first =>
    have HL0 := Lib.hid (RqL.new (O := ceO) HP.out)
    clear HP HO1
    go_wp2_with fail
    go_loopw [9] (fun i wr => ∃ (k : Nat) (Q : List _) (e : Int) (l2 : List Nat) (vo : Value), k ≤ M ∧ i = .int .i64 k ∧ Hid (RqL ceO w t20 wr lo g q2 q5 e l2 #[.int .i64 (x1.1 : Int), (.slice A1 y1.1.length c1), .int .i64 (x2.1 : Int), vo, .slice none 0 0, .int .i64 (x3.1 : Int)] vo Q) ∧ Hid (y2 = (Q ++ (tkM tkCe (M - k) e l2).1, (tkM tkCe (M - k) e l2).2)) ∧ Hid (Q.length ≤ k)) (fun i _ => M - (intOf i).toNat)
    case atStart => exact ⟨0, [], _, _, _, Nat.zero_le _, rfl, HL0, Lib.hid (by rw [HY.out]; simp), Lib.hid (Nat.le_refl _)⟩
    case round =>
      clear HL0 HY
      obtain ⟨k, Q, e, l2, vo, hk, rfl, HP, HT9, HQL⟩ := hrel
      have rc := rcell2 HP.out.a.rd
      obtain ⟨Ao, co, eo⟩ := HP.out.o.len
      subst eo
      obtain ⟨y0, y1', y2', y3', y4', y5'⟩ := an_block HP.out.a.b5
      by_cases hgo : k < M ∧ e = 0
      · obtain ⟨hlt, rfl⟩ := hgo
        have hkn : (k : Int) < (n2.1 : Int) := by have := HM.out; omega
        have hkm : (k : Int) ≤ 20 := by have := HM.out; omega
        have hql : Q.length ≤ 21 := by have := HM.out; have := HQL.out; omega
        have hT := HT9.out
        rw [show M - k = (M - (k + 1)) + 1 by omega] at hT
        simp only [tkM, if_true] at hT
        clear HT9
        obtain ⟨s1, hs1⟩ : ∃ x, x = nb 18014398509481982 0 l2 := ⟨_, rfl⟩
        obtain ⟨u2, hu2⟩ : ∃ x, x = nb 9007199254740991 s1.2.1 s1.2.2 := ⟨_, rfl⟩
        have HS := show tkCe 0 l2 = (⟨zag s1.1, (u2.1 : Int)⟩, u2.2) by
          unfold tkCe nbS
          simp only [← hs1, ← hu2]
        rw [HS] at hT
        have HT8 := Lib.hid hT
        have Hs1 := Lib.hid hs1
        have Hu2 := Lib.hid hu2
        clear hT HS hs1 hu2
        go_upto_region 15 with (fail)
        have HPd := Lib.hid (HP.out.below (bel0 wr).drew)
        obtain ⟨wd, hwd⟩ : ∃ W, W = wr.drew := ⟨_, rfl⟩
        have HWD := Lib.hid hwd
        rw [← hwd] at HPd
        clear hwd rc y0 y1' y2' y3' y4' y5'
        refine wp_region_held_drew (S := fun _ => True) (by kernel_rfl) trivial (fun hHeld => ?_)
        refine' take_val (i := 0) (d := 90) (v := _) rfl rfl (by kernel_rfl) (by kernel_rfl) (by kernel_rfl) (fun _ _ _ h => h) (by rfl) ?_ (by assumption) ?_
        rotate_left
        · (intro w hSw; (try dsimp only at hSw); go_simp; (try with_reducible rfl))
        (try simp only [Act.put, List.setIfInBounds_toArray, List.set_cons_zero, List.set_cons_succ])
        refine' take_val (i := 2) (d := 92) (v := _) rfl rfl (by kernel_rfl) (by kernel_rfl) (by kernel_rfl) (fun _ _ _ h => h) (by rfl) ?_ (by assumption) ?_
        rotate_left
        · (intro w hSw; (try dsimp only at hSw); go_simp; (try with_reducible rfl))
        (try simp only [Act.put, List.setIfInBounds_toArray, List.set_cons_zero, List.set_cons_succ])
        refine' take_val (i := 4) (d := 94) (v := _) rfl rfl (by kernel_rfl) (by kernel_rfl) (by kernel_rfl) (fun _ _ _ h => h) (by rfl) ?_ (by assumption) ?_
        rotate_left
        · (intro w hSw; (try dsimp only at hSw); go_simp; (try with_reducible rfl))
        (try simp only [Act.put, List.setIfInBounds_toArray, List.set_cons_zero, List.set_cons_succ])
        rw [← HWD.out]
        clear HP HWD
        have HP := HPd
        clear HPd
        refine wpAnyH_ready (rs := [1, 3]) (by kernel_rfl) (by simp) ?_
        refine (AllReadyH.cons rfl (fun K hK => ?_) (AllReadyH.cons rfl (fun K hK => ?_) AllReadyH.nil))
        · skip
          obtain ⟨y0, y1', y2', y3', y4', y5'⟩ := an_block HP.out.a.b5
          go_simp
          go_wp2_with fail
          refine hK.out _ _ trivial (fun hHeld => ?_)
          clear hK K
          (try simp only [Act.put, List.getElem_toArray, List.getElem_cons_succ, List.getElem_cons_zero, List.setIfInBounds_toArray, List.set_cons_zero, List.set_cons_succ])
          clear y0 y1' y2' y3' y4' y5'
          refine wpAnyH_ready (rs := [3]) (by kernel_rfl) (by simp) ?_
          refine (AllReadyH.cons rfl (fun K hK => ?_) AllReadyH.nil)
          go_simp
          go_at_call 32
          refine (rfS_any HP.out.a.rd).mono ?_
          rw [← Hs1.out]
          rintro r wq1 ⟨rfl, hr, hg⟩
          have HPa := Lib.hid (HP.out.read hr hg)
          clear hr hg HP
          have HP := HPa
          clear HPa
          go_wp2_with fail
          refine hK.out _ _ trivial (fun hHeld => ?_)
          clear hK K
          (try simp only [Act.put, List.getElem_toArray, List.getElem_cons_succ, List.getElem_cons_zero, List.setIfInBounds_toArray, List.set_cons_zero, List.set_cons_succ])
          refine wpAnyH_ready (rs := [5]) (by kernel_rfl) (by simp) ?_
          refine (AllReadyH.cons rfl (fun K hK => ?_) AllReadyH.nil)
          go_simp
          go_at_call 29
          refine (rfU_any HP.out.a.rd).mono ?_
          rw [← Hu2.out]
          rintro r wq2 ⟨rfl, hr, hg⟩
          have HPa := Lib.hid (HP.out.read hr hg)
          clear hr hg HP
          have HP := HPa
          clear HPa
          go_wp2_with fail
          refine hK.out _ _ trivial (fun hHeld => ?_)
          clear hK K
          (try simp only [Act.put, List.getElem_toArray, List.getElem_cons_succ, List.getElem_cons_zero, List.setIfInBounds_toArray, List.set_cons_zero, List.set_cons_succ])
          refine' take_val (i := 6) (d := 96) (v := _) rfl rfl (by kernel_rfl) (by kernel_rfl) (by kernel_rfl) (fun _ _ _ h => h) (by rfl) ?_ (by assumption) ?_
          rotate_left
          · (intro w hSw; (try dsimp only at hSw); go_simp; (try with_reducible rfl))
          (try simp only [Act.put, List.setIfInBounds_toArray, List.set_cons_zero, List.set_cons_succ])
          refine wpAnyH_ready (rs := [7]) (by kernel_rfl) (by simp) ?_
          refine (AllReadyH.cons rfl (fun K hK => ?_) AllReadyH.nil)
          go_simp
          go_wp2_with fail
          have hx := bel1 wq2 (.cells #[.int .i64 (zag s1.1), .int .i64 (u2.1 : Int)] 54)
          have HPa := Lib.hid (HP.out.below hx)
          have HB := Lib.hid (heap_alloc_new wq2 (.cells #[.int .i64 (zag s1.1), .int .i64 (u2.1 : Int)] 54))
          refine hK.out _ _ trivial (fun hHeld => ?_)
          clear hK K
          (try simp only [Act.put, List.getElem_toArray, List.getElem_cons_succ, List.getElem_cons_zero, List.setIfInBounds_toArray, List.set_cons_zero, List.set_cons_succ])
          obtain ⟨wb3, hW⟩ : ∃ W, W = wq2.alloc (.cells #[.int .i64 (zag s1.1), .int .i64 (u2.1 : Int)] 54) := ⟨_, rfl⟩
          obtain ⟨qb, hqb⟩ : ∃ q, q = wq2.heap.size := ⟨_, rfl⟩
          change wpAnyH _ _ _ _ _ _ _ _ (wq2.alloc (.cells #[.int .i64 (zag s1.1), .int .i64 (u2.1 : Int)] 54))
          rw [← hW] at HPa HB ⊢
          rw [← hqb] at HB ⊢
          clear hW hqb hx HP
          have HP := HPa
          clear HPa
          refine wpAnyH_ready (rs := [8]) (by kernel_rfl) (by simp) ?_
          refine (AllReadyH.cons rfl (fun K hK => ?_) AllReadyH.nil)
          rw [if_pos (by kernel_rfl)]
          refine wp_append_el (O := ceO) (.tmp 91) (.tmp 97) 26 _ _ rfl Tryz.underlying26 infoCe rfl (by decide) t20.heap.size _ Q ⟨zag s1.1, (u2.1 : Int)⟩ _ rfl HP.out.o rfl _ rfl _ HB.out (by omega) HP.out.k.sz ?_
          intro v5 wx ho5 hg5
          obtain ⟨Av, cv, ev⟩ := ho5.len
          have e12 : v5 = .slice Av (Q.length + 1) cv := by rw [ev, List.length_append]; rfl
          subst e12
          clear ev
          have HXb := Lib.hid (HP.out.push ho5 hg5)
          clear ho5 hg5 HB HP
          refine hK.out _ _ trivial (fun hHeld => ?_)
          clear hK K
          (try simp only [Act.put, List.getElem_toArray, List.getElem_cons_succ, List.getElem_cons_zero, List.setIfInBounds_toArray, List.set_cons_zero, List.set_cons_succ])
          refine' take_val (i := 9) (d := 99) (v := _) rfl rfl (by kernel_rfl) (by kernel_rfl) (by kernel_rfl) (fun _ _ _ h => h) (by rfl) ?_ (by assumption) ?_
          rotate_left
          · (intro w hSw; (try dsimp only at hSw); go_simp; (try with_reducible rfl))
          (try simp only [Act.put, List.setIfInBounds_toArray, List.set_cons_zero, List.set_cons_succ])
          refine wpAnyH_ready (rs := [10]) (by kernel_rfl) (by simp) ?_
          refine (AllReadyH.cons rfl (fun K hK => ?_) AllReadyH.nil)
          have f1 := frozen_of HXb.out.a.b5 3
          have g1 := cell_of HXb.out.a.b5 3
          simp at g1
          go_simp
          go_wp2_with fail
          refine hK.out _ _ trivial (fun hHeld => ?_)
          clear hK K
          (try simp only [Act.put, List.getElem_toArray, List.getElem_cons_succ, List.getElem_cons_zero, List.setIfInBounds_toArray, List.set_cons_zero, List.set_cons_succ])
          have HXc := Lib.hid (show RqL ceO w t20 (wx.setCell ⟨q5, 3, none⟩ (.slice Av (Q.length + 1) cv)) lo g q2 q5 u2.2.1 u2.2.2 #[.int .i64 (x1.1 : Int), (.slice A1 y1.1.length c1), .int .i64 (x2.1 : Int), (.slice Av (Q.length + 1) cv), .slice none 0 0, .int .i64 (x3.1 : Int)] (.slice Av (Q.length + 1) cv) (Q ++ [⟨zag s1.1, (u2.1 : Int)⟩]) by
            have h := HXb.out.set 3 (.slice Av (Q.length + 1) cv)
            simp only [List.setIfInBounds_toArray, List.set_cons_zero, List.set_cons_succ] at h
            exact h)
          clear HXb f1 g1
          refine wpAnyH_done (by kernel_rfl) ?_ _
          go_wp2_with fail
          exact ⟨⟨k + 1, Q ++ [⟨zag s1.1, (u2.1 : Int)⟩], _, _, _, by omega, by go_num, HXc, Lib.hid (by rw [HT8.out]; simp), Lib.hid (by rw [List.length_append]; have := HQL.out; simp; omega)⟩, by simp [intOf]; omega⟩
        · skip
          go_simp
          go_at_call 32
          refine (rfS_any HP.out.a.rd).mono ?_
          rw [← Hs1.out]
          rintro r wq4 ⟨rfl, hr, hg⟩
          have HPa := Lib.hid (HP.out.read hr hg)
          clear hr hg HP
          have HP := HPa
          clear HPa
          go_wp2_with fail
          refine hK.out _ _ trivial (fun hHeld => ?_)
          clear hK K
          (try simp only [Act.put, List.getElem_toArray, List.getElem_cons_succ, List.getElem_cons_zero, List.setIfInBounds_toArray, List.set_cons_zero, List.set_cons_succ])
          refine wpAnyH_ready (rs := [1, 5]) (by kernel_rfl) (by simp) ?_
          refine (AllReadyH.cons rfl (fun K hK => ?_) (AllReadyH.cons rfl (fun K hK => ?_) AllReadyH.nil))
          · skip
            obtain ⟨y0, y1', y2', y3', y4', y5'⟩ := an_block HP.out.a.b5
            go_simp
            go_wp2_with fail
            refine hK.out _ _ trivial (fun hHeld => ?_)
            clear hK K
            (try simp only [Act.put, List.getElem_toArray, List.getElem_cons_succ, List.getElem_cons_zero, List.setIfInBounds_toArray, List.set_cons_zero, List.set_cons_succ])
            clear y0 y1' y2' y3' y4' y5'
            refine wpAnyH_ready (rs := [5]) (by kernel_rfl) (by simp) ?_
            refine (AllReadyH.cons rfl (fun K hK => ?_) AllReadyH.nil)
            go_simp
            go_at_call 29
            refine (rfU_any HP.out.a.rd).mono ?_
            rw [← Hu2.out]
            rintro r wq5 ⟨rfl, hr, hg⟩
            have HPa := Lib.hid (HP.out.read hr hg)
            clear hr hg HP
            have HP := HPa
            clear HPa
            go_wp2_with fail
            refine hK.out _ _ trivial (fun hHeld => ?_)
            clear hK K
            (try simp only [Act.put, List.getElem_toArray, List.getElem_cons_succ, List.getElem_cons_zero, List.setIfInBounds_toArray, List.set_cons_zero, List.set_cons_succ])
            refine' take_val (i := 6) (d := 96) (v := _) rfl rfl (by kernel_rfl) (by kernel_rfl) (by kernel_rfl) (fun _ _ _ h => h) (by rfl) ?_ (by assumption) ?_
            rotate_left
            · (intro w hSw; (try dsimp only at hSw); go_simp; (try with_reducible rfl))
            (try simp only [Act.put, List.setIfInBounds_toArray, List.set_cons_zero, List.set_cons_succ])
            refine wpAnyH_ready (rs := [7]) (by kernel_rfl) (by simp) ?_
            refine (AllReadyH.cons rfl (fun K hK => ?_) AllReadyH.nil)
            go_simp
            go_wp2_with fail
            have hx := bel1 wq5 (.cells #[.int .i64 (zag s1.1), .int .i64 (u2.1 : Int)] 54)
            have HPa := Lib.hid (HP.out.below hx)
            have HB := Lib.hid (heap_alloc_new wq5 (.cells #[.int .i64 (zag s1.1), .int .i64 (u2.1 : Int)] 54))
            refine hK.out _ _ trivial (fun hHeld => ?_)
            clear hK K
            (try simp only [Act.put, List.getElem_toArray, List.getElem_cons_succ, List.getElem_cons_zero, List.setIfInBounds_toArray, List.set_cons_zero, List.set_cons_succ])
            obtain ⟨wb6, hW⟩ : ∃ W, W = wq5.alloc (.cells #[.int .i64 (zag s1.1), .int .i64 (u2.1 : Int)] 54) := ⟨_, rfl⟩
            obtain ⟨qb, hqb⟩ : ∃ q, q = wq5.heap.size := ⟨_, rfl⟩
            change wpAnyH _ _ _ _ _ _ _ _ (wq5.alloc (.cells #[.int .i64 (zag s1.1), .int .i64 (u2.1 : Int)] 54))
            rw [← hW] at HPa HB ⊢
            rw [← hqb] at HB ⊢
            clear hW hqb hx HP
            have HP := HPa
            clear HPa
            refine wpAnyH_ready (rs := [8]) (by kernel_rfl) (by simp) ?_
            refine (AllReadyH.cons rfl (fun K hK => ?_) AllReadyH.nil)
            rw [if_pos (by kernel_rfl)]
            refine wp_append_el (O := ceO) (.tmp 91) (.tmp 97) 26 _ _ rfl Tryz.underlying26 infoCe rfl (by decide) t20.heap.size _ Q ⟨zag s1.1, (u2.1 : Int)⟩ _ rfl HP.out.o rfl _ rfl _ HB.out (by omega) HP.out.k.sz ?_
            intro v5 wx ho5 hg5
            obtain ⟨Av, cv, ev⟩ := ho5.len
            have e12 : v5 = .slice Av (Q.length + 1) cv := by rw [ev, List.length_append]; rfl
            subst e12
            clear ev
            have HXb := Lib.hid (HP.out.push ho5 hg5)
            clear ho5 hg5 HB HP
            refine hK.out _ _ trivial (fun hHeld => ?_)
            clear hK K
            (try simp only [Act.put, List.getElem_toArray, List.getElem_cons_succ, List.getElem_cons_zero, List.setIfInBounds_toArray, List.set_cons_zero, List.set_cons_succ])
            refine' take_val (i := 9) (d := 99) (v := _) rfl rfl (by kernel_rfl) (by kernel_rfl) (by kernel_rfl) (fun _ _ _ h => h) (by rfl) ?_ (by assumption) ?_
            rotate_left
            · (intro w hSw; (try dsimp only at hSw); go_simp; (try with_reducible rfl))
            (try simp only [Act.put, List.setIfInBounds_toArray, List.set_cons_zero, List.set_cons_succ])
            refine wpAnyH_ready (rs := [10]) (by kernel_rfl) (by simp) ?_
            refine (AllReadyH.cons rfl (fun K hK => ?_) AllReadyH.nil)
            have f1 := frozen_of HXb.out.a.b5 3
            have g1 := cell_of HXb.out.a.b5 3
            simp at g1
            go_simp
            go_wp2_with fail
            refine hK.out _ _ trivial (fun hHeld => ?_)
            clear hK K
            (try simp only [Act.put, List.getElem_toArray, List.getElem_cons_succ, List.getElem_cons_zero, List.setIfInBounds_toArray, List.set_cons_zero, List.set_cons_succ])
            have HXc := Lib.hid (show RqL ceO w t20 (wx.setCell ⟨q5, 3, none⟩ (.slice Av (Q.length + 1) cv)) lo g q2 q5 u2.2.1 u2.2.2 #[.int .i64 (x1.1 : Int), (.slice A1 y1.1.length c1), .int .i64 (x2.1 : Int), (.slice Av (Q.length + 1) cv), .slice none 0 0, .int .i64 (x3.1 : Int)] (.slice Av (Q.length + 1) cv) (Q ++ [⟨zag s1.1, (u2.1 : Int)⟩]) by
              have h := HXb.out.set 3 (.slice Av (Q.length + 1) cv)
              simp only [List.setIfInBounds_toArray, List.set_cons_zero, List.set_cons_succ] at h
              exact h)
            clear HXb f1 g1
            refine wpAnyH_done (by kernel_rfl) ?_ _
            go_wp2_with fail
            exact ⟨⟨k + 1, Q ++ [⟨zag s1.1, (u2.1 : Int)⟩], _, _, _, by omega, by go_num, HXc, Lib.hid (by rw [HT8.out]; simp), Lib.hid (by rw [List.length_append]; have := HQL.out; simp; omega)⟩, by simp [intOf]; omega⟩
          · skip
            go_simp
            go_at_call 29
            refine (rfU_any HP.out.a.rd).mono ?_
            rw [← Hu2.out]
            rintro r wq7 ⟨rfl, hr, hg⟩
            have HPa := Lib.hid (HP.out.read hr hg)
            clear hr hg HP
            have HP := HPa
            clear HPa
            go_wp2_with fail
            refine hK.out _ _ trivial (fun hHeld => ?_)
            clear hK K
            (try simp only [Act.put, List.getElem_toArray, List.getElem_cons_succ, List.getElem_cons_zero, List.setIfInBounds_toArray, List.set_cons_zero, List.set_cons_succ])
            refine' take_val (i := 6) (d := 96) (v := _) rfl rfl (by kernel_rfl) (by kernel_rfl) (by kernel_rfl) (fun _ _ _ h => h) (by rfl) ?_ (by assumption) ?_
            rotate_left
            · (intro w hSw; (try dsimp only at hSw); go_simp; (try with_reducible rfl))
            (try simp only [Act.put, List.setIfInBounds_toArray, List.set_cons_zero, List.set_cons_succ])
            refine wpAnyH_ready (rs := [1, 7]) (by kernel_rfl) (by simp) ?_
            refine (AllReadyH.cons rfl (fun K hK => ?_) (AllReadyH.cons rfl (fun K hK => ?_) AllReadyH.nil))
            · skip
              obtain ⟨y0, y1', y2', y3', y4', y5'⟩ := an_block HP.out.a.b5
              go_simp
              go_wp2_with fail
              refine hK.out _ _ trivial (fun hHeld => ?_)
              clear hK K
              (try simp only [Act.put, List.getElem_toArray, List.getElem_cons_succ, List.getElem_cons_zero, List.setIfInBounds_toArray, List.set_cons_zero, List.set_cons_succ])
              clear y0 y1' y2' y3' y4' y5'
              refine wpAnyH_ready (rs := [7]) (by kernel_rfl) (by simp) ?_
              refine (AllReadyH.cons rfl (fun K hK => ?_) AllReadyH.nil)
              go_simp
              go_wp2_with fail
              have hx := bel1 wq7 (.cells #[.int .i64 (zag s1.1), .int .i64 (u2.1 : Int)] 54)
              have HPa := Lib.hid (HP.out.below hx)
              have HB := Lib.hid (heap_alloc_new wq7 (.cells #[.int .i64 (zag s1.1), .int .i64 (u2.1 : Int)] 54))
              refine hK.out _ _ trivial (fun hHeld => ?_)
              clear hK K
              (try simp only [Act.put, List.getElem_toArray, List.getElem_cons_succ, List.getElem_cons_zero, List.setIfInBounds_toArray, List.set_cons_zero, List.set_cons_succ])
              obtain ⟨wb8, hW⟩ : ∃ W, W = wq7.alloc (.cells #[.int .i64 (zag s1.1), .int .i64 (u2.1 : Int)] 54) := ⟨_, rfl⟩
              obtain ⟨qb, hqb⟩ : ∃ q, q = wq7.heap.size := ⟨_, rfl⟩
              change wpAnyH _ _ _ _ _ _ _ _ (wq7.alloc (.cells #[.int .i64 (zag s1.1), .int .i64 (u2.1 : Int)] 54))
              rw [← hW] at HPa HB ⊢
              rw [← hqb] at HB ⊢
              clear hW hqb hx HP
              have HP := HPa
              clear HPa
              refine wpAnyH_ready (rs := [8]) (by kernel_rfl) (by simp) ?_
              refine (AllReadyH.cons rfl (fun K hK => ?_) AllReadyH.nil)
              rw [if_pos (by kernel_rfl)]
              refine wp_append_el (O := ceO) (.tmp 91) (.tmp 97) 26 _ _ rfl Tryz.underlying26 infoCe rfl (by decide) t20.heap.size _ Q ⟨zag s1.1, (u2.1 : Int)⟩ _ rfl HP.out.o rfl _ rfl _ HB.out (by omega) HP.out.k.sz ?_
              intro v5 wx ho5 hg5
              obtain ⟨Av, cv, ev⟩ := ho5.len
              have e12 : v5 = .slice Av (Q.length + 1) cv := by rw [ev, List.length_append]; rfl
              subst e12
              clear ev
              have HXb := Lib.hid (HP.out.push ho5 hg5)
              clear ho5 hg5 HB HP
              refine hK.out _ _ trivial (fun hHeld => ?_)
              clear hK K
              (try simp only [Act.put, List.getElem_toArray, List.getElem_cons_succ, List.getElem_cons_zero, List.setIfInBounds_toArray, List.set_cons_zero, List.set_cons_succ])
              refine' take_val (i := 9) (d := 99) (v := _) rfl rfl (by kernel_rfl) (by kernel_rfl) (by kernel_rfl) (fun _ _ _ h => h) (by rfl) ?_ (by assumption) ?_
              rotate_left
              · (intro w hSw; (try dsimp only at hSw); go_simp; (try with_reducible rfl))
              (try simp only [Act.put, List.setIfInBounds_toArray, List.set_cons_zero, List.set_cons_succ])
              refine wpAnyH_ready (rs := [10]) (by kernel_rfl) (by simp) ?_
              refine (AllReadyH.cons rfl (fun K hK => ?_) AllReadyH.nil)
              have f1 := frozen_of HXb.out.a.b5 3
              have g1 := cell_of HXb.out.a.b5 3
              simp at g1
              go_simp
              go_wp2_with fail
              refine hK.out _ _ trivial (fun hHeld => ?_)
              clear hK K
              (try simp only [Act.put, List.getElem_toArray, List.getElem_cons_succ, List.getElem_cons_zero, List.setIfInBounds_toArray, List.set_cons_zero, List.set_cons_succ])
              have HXc := Lib.hid (show RqL ceO w t20 (wx.setCell ⟨q5, 3, none⟩ (.slice Av (Q.length + 1) cv)) lo g q2 q5 u2.2.1 u2.2.2 #[.int .i64 (x1.1 : Int), (.slice A1 y1.1.length c1), .int .i64 (x2.1 : Int), (.slice Av (Q.length + 1) cv), .slice none 0 0, .int .i64 (x3.1 : Int)] (.slice Av (Q.length + 1) cv) (Q ++ [⟨zag s1.1, (u2.1 : Int)⟩]) by
                have h := HXb.out.set 3 (.slice Av (Q.length + 1) cv)
                simp only [List.setIfInBounds_toArray, List.set_cons_zero, List.set_cons_succ] at h
                exact h)
              clear HXb f1 g1
              refine wpAnyH_done (by kernel_rfl) ?_ _
              go_wp2_with fail
              exact ⟨⟨k + 1, Q ++ [⟨zag s1.1, (u2.1 : Int)⟩], _, _, _, by omega, by go_num, HXc, Lib.hid (by rw [HT8.out]; simp), Lib.hid (by rw [List.length_append]; have := HQL.out; simp; omega)⟩, by simp [intOf]; omega⟩
            · skip
              go_simp
              go_wp2_with fail
              have hx := bel1 wq7 (.cells #[.int .i64 (zag s1.1), .int .i64 (u2.1 : Int)] 54)
              have HPa := Lib.hid (HP.out.below hx)
              have HB := Lib.hid (heap_alloc_new wq7 (.cells #[.int .i64 (zag s1.1), .int .i64 (u2.1 : Int)] 54))
              refine hK.out _ _ trivial (fun hHeld => ?_)
              clear hK K
              (try simp only [Act.put, List.getElem_toArray, List.getElem_cons_succ, List.getElem_cons_zero, List.setIfInBounds_toArray, List.set_cons_zero, List.set_cons_succ])
              obtain ⟨wb9, hW⟩ : ∃ W, W = wq7.alloc (.cells #[.int .i64 (zag s1.1), .int .i64 (u2.1 : Int)] 54) := ⟨_, rfl⟩
              obtain ⟨qb, hqb⟩ : ∃ q, q = wq7.heap.size := ⟨_, rfl⟩
              change wpAnyH _ _ _ _ _ _ _ _ (wq7.alloc (.cells #[.int .i64 (zag s1.1), .int .i64 (u2.1 : Int)] 54))
              rw [← hW] at HPa HB ⊢
              rw [← hqb] at HB ⊢
              clear hW hqb hx HP
              have HP := HPa
              clear HPa
              refine wpAnyH_ready (rs := [1]) (by kernel_rfl) (by simp) ?_
              refine (AllReadyH.cons rfl (fun K hK => ?_) AllReadyH.nil)
              obtain ⟨y0, y1', y2', y3', y4', y5'⟩ := an_block HP.out.a.b5
              go_simp
              go_wp2_with fail
              refine hK.out _ _ trivial (fun hHeld => ?_)
              clear hK K
              (try simp only [Act.put, List.getElem_toArray, List.getElem_cons_succ, List.getElem_cons_zero, List.setIfInBounds_toArray, List.set_cons_zero, List.set_cons_succ])
              clear y0 y1' y2' y3' y4' y5'
              refine wpAnyH_ready (rs := [8]) (by kernel_rfl) (by simp) ?_
              refine (AllReadyH.cons rfl (fun K hK => ?_) AllReadyH.nil)
              rw [if_pos (by kernel_rfl)]
              refine wp_append_el (O := ceO) (.tmp 91) (.tmp 97) 26 _ _ rfl Tryz.underlying26 infoCe rfl (by decide) t20.heap.size _ Q ⟨zag s1.1, (u2.1 : Int)⟩ _ rfl HP.out.o rfl _ rfl _ HB.out (by omega) HP.out.k.sz ?_
              intro v5 wx ho5 hg5
              obtain ⟨Av, cv, ev⟩ := ho5.len
              have e12 : v5 = .slice Av (Q.length + 1) cv := by rw [ev, List.length_append]; rfl
              subst e12
              clear ev
              have HXb := Lib.hid (HP.out.push ho5 hg5)
              clear ho5 hg5 HB HP
              refine hK.out _ _ trivial (fun hHeld => ?_)
              clear hK K
              (try simp only [Act.put, List.getElem_toArray, List.getElem_cons_succ, List.getElem_cons_zero, List.setIfInBounds_toArray, List.set_cons_zero, List.set_cons_succ])
              refine' take_val (i := 9) (d := 99) (v := _) rfl rfl (by kernel_rfl) (by kernel_rfl) (by kernel_rfl) (fun _ _ _ h => h) (by rfl) ?_ (by assumption) ?_
              rotate_left
              · (intro w hSw; (try dsimp only at hSw); go_simp; (try with_reducible rfl))
              (try simp only [Act.put, List.setIfInBounds_toArray, List.set_cons_zero, List.set_cons_succ])
              refine wpAnyH_ready (rs := [10]) (by kernel_rfl) (by simp) ?_
              refine (AllReadyH.cons rfl (fun K hK => ?_) AllReadyH.nil)
              have f1 := frozen_of HXb.out.a.b5 3
              have g1 := cell_of HXb.out.a.b5 3
              simp at g1
              go_simp
              go_wp2_with fail
              refine hK.out _ _ trivial (fun hHeld => ?_)
              clear hK K
              (try simp only [Act.put, List.getElem_toArray, List.getElem_cons_succ, List.getElem_cons_zero, List.setIfInBounds_toArray, List.set_cons_zero, List.set_cons_succ])
              have HXc := Lib.hid (show RqL ceO w t20 (wx.setCell ⟨q5, 3, none⟩ (.slice Av (Q.length + 1) cv)) lo g q2 q5 u2.2.1 u2.2.2 #[.int .i64 (x1.1 : Int), (.slice A1 y1.1.length c1), .int .i64 (x2.1 : Int), (.slice Av (Q.length + 1) cv), .slice none 0 0, .int .i64 (x3.1 : Int)] (.slice Av (Q.length + 1) cv) (Q ++ [⟨zag s1.1, (u2.1 : Int)⟩]) by
                have h := HXb.out.set 3 (.slice Av (Q.length + 1) cv)
                simp only [List.setIfInBounds_toArray, List.set_cons_zero, List.set_cons_succ] at h
                exact h)
              clear HXb f1 g1
              refine wpAnyH_done (by kernel_rfl) ?_ _
              go_wp2_with fail
              exact ⟨⟨k + 1, Q ++ [⟨zag s1.1, (u2.1 : Int)⟩], _, _, _, by omega, by go_num, HXc, Lib.hid (by rw [HT8.out]; simp), Lib.hid (by rw [List.length_append]; have := HQL.out; simp; omega)⟩, by simp [intOf]; omega⟩
      · have hend : tkM tkCe (M - k) e l2 = ([], e, l2) := by
          by_cases he : e = 0
          · rw [show M - k = 0 by omega]; rfl
          · exact tkM_stop _ _ he l2
        have hY := HT9.out
        rw [hend] at hY
        simp only [List.append_nil] at hY
        have HF := Lib.hid (show RqL ceO w t20 wr lo g q2 q5 y2.2.1 y2.2.2 #[.int .i64 (x1.1 : Int), (.slice A1 y1.1.length c1), .int .i64 (x2.1 : Int), (.slice Ao Q.length co), .slice none 0 0, .int .i64 (x3.1 : Int)] (.slice Ao Q.length co) y2.1 by rw [hY]; exact HP.out)
        clear HP hY hend HT9 HQL
        by_cases h1 : k < n2.1
        · have h1' : (k : Int) < (n2.1 : Int) := by omega
          by_cases h2 : k ≤ 20
          · have h2' : (k : Int) ≤ 20 := by omega
            have he : (e == 0) = false := by simp; intro h; exact hgo ⟨by have := HM.out; omega, h⟩
            clear hgo h1 h2 hk
            go_wp2_with fail
            go_meet
            exact ⟨_, HF⟩
          · have h2' : ¬ (k : Int) ≤ 20 := by omega
            clear hgo h1 h2 hk
            go_wp2_with fail
            go_meet
            exact ⟨_, HF⟩
        · have h1' : ¬ (k : Int) < (n2.1 : Int) := by omega
          clear hgo h1 hk
          go_wp2_with fail
          go_meet
          exact ⟨_, HF⟩
  obtain ⟨vo, HL⟩ := hcut
  have hkp := HL.out.k
  have h5lt := HL.out.q
  have HP2 := Lib.hid HL.out.a
  have HO1' := Lib.hid (HO1.out.kp hkp)
  have HO2' := Lib.hid (HL.out.o.base (show q5 + 1 ≤ t20.heap.size from h5lt))
  clear HL hkp h5lt HM HY HP HO1
  have HP := HP2
  have HO1 := HO1'
  have HO2 := HO2'
  clear HP2 HO1' HO2'
  obtain ⟨A2, c2, eo⟩ := HO2.out.len
  subst eo
  go_wp2_with fail
  refine (rfU_any HP.out.rd).mono ?_
  rw [← Hn3.out]
  rintro e t30 ⟨rfl, hr, hg⟩
  have HP' := Lib.hid (HP.out.read hr hg)
  have HO1' := Lib.hid (HO1.out.grown hg (fun k hk => by injection hk with hk; have := HP.out.g5; omega))
  have HO2' := Lib.hid (HO2.out.grown hg (fun k hk => by injection hk with hk; have := HP.out.g5; omega))
  clear HP hr hg HO1 HO2
  have HP := HP'
  have HO1 := HO1'
  have HO2 := HO2'
  clear HP' HO1' HO2'
  obtain ⟨M, hM⟩ : ∃ M, M = min n3.1 10001 := ⟨_, rfl⟩
  have HM := Lib.hid hM
  have HY := Lib.hid (show y3 = tkM tkEd M n3.2.1 n3.2.2 by rw [hM]; exact Hy3.out)
  clear hM
  go_upto_block 4 with (fail)
  go_cut [10] (fun _ wx => ∃ vo : Value, Hid (RqL edO w t30 wx lo g q2 q5 y3.2.1 y3.2.2 #[.int .i64 (x1.1 : Int), (.slice A1 y1.1.length c1), .int .i64 (x2.1 : Int), (.slice A2 y2.1.length c2), vo, .int .i64 (x3.1 : Int)] vo y3.1))
  case first =>
    have HL0 := Lib.hid (RqL.new (O := edO) HP.out)
    clear HP HO1 HO2
    go_wp2_with fail
    go_loopw [10] (fun i wr => ∃ (k : Nat) (Q : List _) (e : Int) (l2 : List Nat) (vo : Value), k ≤ M ∧ i = .int .i64 k ∧ Hid (RqL edO w t30 wr lo g q2 q5 e l2 #[.int .i64 (x1.1 : Int), (.slice A1 y1.1.length c1), .int .i64 (x2.1 : Int), (.slice A2 y2.1.length c2), vo, .int .i64 (x3.1 : Int)] vo Q) ∧ Hid (y3 = (Q ++ (tkM tkEd (M - k) e l2).1, (tkM tkEd (M - k) e l2).2)) ∧ Hid (Q.length ≤ k)) (fun i _ => M - (intOf i).toNat)
    case atStart => exact ⟨0, [], _, _, _, Nat.zero_le _, rfl, HL0, Lib.hid (by rw [HY.out]; simp), Lib.hid (Nat.le_refl _)⟩
    case round =>
      clear HL0 HY
      obtain ⟨k, Q, e, l2, vo, hk, rfl, HP, HT9, HQL⟩ := hrel
      have rc := rcell2 HP.out.a.rd
      obtain ⟨Ao, co, eo⟩ := HP.out.o.len
      subst eo
      obtain ⟨y0, y1', y2', y3', y4', y5'⟩ := an_block HP.out.a.b5
      by_cases hgo : k < M ∧ e = 0
      · obtain ⟨hlt, rfl⟩ := hgo
        have hkn : (k : Int) < (n3.1 : Int) := by have := HM.out; omega
        have hkm : (k : Int) ≤ 10000 := by have := HM.out; omega
        have hql : Q.length ≤ 10001 := by have := HM.out; have := HQL.out; omega
        have hT := HT9.out
        rw [show M - k = (M - (k + 1)) + 1 by omega] at hT
        simp only [tkM, if_true] at hT
        clear HT9
        obtain ⟨p1, hp1⟩ : ∃ x, x = txt 24 0 l2 := ⟨_, rfl⟩
        obtain ⟨p2, hp2⟩ : ∃ x, x = txt 24 p1.2.1 p1.2.2 := ⟨_, rfl⟩
        obtain ⟨u3, hu3⟩ : ∃ x, x = nb 9007199254740991 p2.2.1 p2.2.2 := ⟨_, rfl⟩
        have HS := show tkEd 0 l2 = (⟨bs p1.1, bs p2.1, (u3.1 : Int)⟩, u3.2) by
          unfold tkEd
          simp only [← hp1, ← hp2, ← hu3]
        rw [HS] at hT
        have HT8 := Lib.hid hT
        have Hp1 := Lib.hid hp1
        have Hp2 := Lib.hid hp2
        have Hu3 := Lib.hid hu3
        clear hT HS hp1 hp2 hu3
        go_upto_region 20 with (fail)
        have HPd := Lib.hid (HP.out.below (bel0 wr).drew)
        obtain ⟨wd, hwd⟩ : ∃ W, W = wr.drew := ⟨_, rfl⟩
        have HWD := Lib.hid hwd
        rw [← hwd] at HPd
        clear hwd rc y0 y1' y2' y3' y4' y5'
        refine wp_region_held_drew (S := fun _ => True) (by kernel_rfl) trivial (fun hHeld => ?_)
        refine' take_val (i := 0) (d := 118) (v := _) rfl rfl (by kernel_rfl) (by kernel_rfl) (by kernel_rfl) (fun _ _ _ h => h) (by rfl) ?_ (by assumption) ?_
        rotate_left
        · (intro w hSw; (try dsimp only at hSw); go_simp; (try with_reducible rfl))
        (try simp only [Act.put, List.setIfInBounds_toArray, List.set_cons_zero, List.set_cons_succ])
        refine' take_val (i := 2) (d := 120) (v := _) rfl rfl (by kernel_rfl) (by kernel_rfl) (by kernel_rfl) (fun _ _ _ h => h) (by rfl) ?_ (by assumption) ?_
        rotate_left
        · (intro w hSw; (try dsimp only at hSw); go_simp; (try with_reducible rfl))
        (try simp only [Act.put, List.setIfInBounds_toArray, List.set_cons_zero, List.set_cons_succ])
        refine' take_val (i := 4) (d := 122) (v := _) rfl rfl (by kernel_rfl) (by kernel_rfl) (by kernel_rfl) (fun _ _ _ h => h) (by rfl) ?_ (by assumption) ?_
        rotate_left
        · (intro w hSw; (try dsimp only at hSw); go_simp; (try with_reducible rfl))
        (try simp only [Act.put, List.setIfInBounds_toArray, List.set_cons_zero, List.set_cons_succ])
        refine' take_val (i := 6) (d := 124) (v := _) rfl rfl (by kernel_rfl) (by kernel_rfl) (by kernel_rfl) (fun _ _ _ h => h) (by rfl) ?_ (by assumption) ?_
        rotate_left
        · (intro w hSw; (try dsimp only at hSw); go_simp; (try with_reducible rfl))
        (try simp only [Act.put, List.setIfInBounds_toArray, List.set_cons_zero, List.set_cons_succ])
        rw [← HWD.out]
        clear HP HWD
        have HP := HPd
        clear HPd
        refine wpAnyH_ready (rs := [1, 3]) (by kernel_rfl) (by simp) ?_
        refine (AllReadyH.cons rfl (fun K hK => ?_) (AllReadyH.cons rfl (fun K hK => ?_) AllReadyH.nil))
        · skip
          obtain ⟨y0, y1', y2', y3', y4', y5'⟩ := an_block HP.out.a.b5
          go_simp
          go_wp2_with fail
          refine hK.out _ _ trivial (fun hHeld => ?_)
          clear hK K
          (try simp only [Act.put, List.getElem_toArray, List.getElem_cons_succ, List.getElem_cons_zero, List.setIfInBounds_toArray, List.set_cons_zero, List.set_cons_succ])
          clear y0 y1' y2' y3' y4' y5'
          refine wpAnyH_ready (rs := [3]) (by kernel_rfl) (by simp) ?_
          refine (AllReadyH.cons rfl (fun K hK => ?_) AllReadyH.nil)
          go_simp
          go_at_call 30
          refine (rfText_any 24 HP.out.a.rd).mono ?_
          rw [← Hp1.out]
          rintro r wq1 ⟨rfl, hB1, hB2, hr, hg⟩
          have HPa := Lib.hid (HP.out.read hr hg)
          clear hr hg HP
          have HP := HPa
          clear HPa
          go_wp2_with fail
          refine hK.out _ _ trivial (fun hHeld => ?_)
          clear hK K
          (try simp only [Act.put, List.getElem_toArray, List.getElem_cons_succ, List.getElem_cons_zero, List.setIfInBounds_toArray, List.set_cons_zero, List.set_cons_succ])
          refine wpAnyH_ready (rs := [5]) (by kernel_rfl) (by simp) ?_
          refine (AllReadyH.cons rfl (fun K hK => ?_) AllReadyH.nil)
          go_simp
          go_at_call 30
          refine (rfText_any 24 HP.out.a.rd).mono ?_
          rw [← Hp2.out]
          rintro r wq2 ⟨rfl, hB3, hB4, hr, hg⟩
          have HPa := Lib.hid (HP.out.read hr hg)
          clear hr hg HP
          have HP := HPa
          clear HPa
          go_wp2_with fail
          refine hK.out _ _ trivial (fun hHeld => ?_)
          clear hK K
          (try simp only [Act.put, List.getElem_toArray, List.getElem_cons_succ, List.getElem_cons_zero, List.setIfInBounds_toArray, List.set_cons_zero, List.set_cons_succ])
          refine wpAnyH_ready (rs := [7]) (by kernel_rfl) (by simp) ?_
          refine (AllReadyH.cons rfl (fun K hK => ?_) AllReadyH.nil)
          go_simp
          go_at_call 29
          refine (rfU_any HP.out.a.rd).mono ?_
          rw [← Hu3.out]
          rintro r wq3 ⟨rfl, hr, hg⟩
          have HPa := Lib.hid (HP.out.read hr hg)
          clear hr hg HP
          have HP := HPa
          clear HPa
          go_wp2_with fail
          refine hK.out _ _ trivial (fun hHeld => ?_)
          clear hK K
          (try simp only [Act.put, List.getElem_toArray, List.getElem_cons_succ, List.getElem_cons_zero, List.setIfInBounds_toArray, List.set_cons_zero, List.set_cons_succ])
          refine' take_val (i := 8) (d := 126) (v := _) rfl rfl (by kernel_rfl) (by kernel_rfl) (by kernel_rfl) (fun _ _ _ h => h) (by rfl) ?_ (by assumption) ?_
          rotate_left
          · (intro w hSw; (try dsimp only at hSw); go_simp; (try with_reducible rfl))
          (try simp only [Act.put, List.setIfInBounds_toArray, List.set_cons_zero, List.set_cons_succ])
          refine wpAnyH_ready (rs := [9]) (by kernel_rfl) (by simp) ?_
          refine (AllReadyH.cons rfl (fun K hK => ?_) AllReadyH.nil)
          go_simp
          go_wp2_with fail
          have hx := bel1 wq3 (.cells #[.string (bs p1.1), .string (bs p2.1), .int .i64 (u3.1 : Int)] 58)
          have HPa := Lib.hid (HP.out.below hx)
          have HB := Lib.hid (heap_alloc_new wq3 (.cells #[.string (bs p1.1), .string (bs p2.1), .int .i64 (u3.1 : Int)] 58))
          refine hK.out _ _ trivial (fun hHeld => ?_)
          clear hK K
          (try simp only [Act.put, List.getElem_toArray, List.getElem_cons_succ, List.getElem_cons_zero, List.setIfInBounds_toArray, List.set_cons_zero, List.set_cons_succ])
          obtain ⟨wb4, hW⟩ : ∃ W, W = wq3.alloc (.cells #[.string (bs p1.1), .string (bs p2.1), .int .i64 (u3.1 : Int)] 58) := ⟨_, rfl⟩
          obtain ⟨qb, hqb⟩ : ∃ q, q = wq3.heap.size := ⟨_, rfl⟩
          change wpAnyH _ _ _ _ _ _ _ _ (wq3.alloc (.cells #[.string (bs p1.1), .string (bs p2.1), .int .i64 (u3.1 : Int)] 58))
          rw [← hW] at HPa HB ⊢
          rw [← hqb] at HB ⊢
          clear hW hqb hx HP
          have HP := HPa
          clear HPa
          refine wpAnyH_ready (rs := [10]) (by kernel_rfl) (by simp) ?_
          refine (AllReadyH.cons rfl (fun K hK => ?_) AllReadyH.nil)
          rw [if_pos (by kernel_rfl)]
          refine wp_append_el (O := edO) (.tmp 119) (.tmp 127) 27 _ _ rfl Tryz.underlying27 infoEd rfl (by decide) t30.heap.size _ Q ⟨bs p1.1, bs p2.1, (u3.1 : Int)⟩ _ rfl HP.out.o rfl _ rfl _ HB.out (by omega) HP.out.k.sz ?_
          intro v5 wx ho5 hg5
          obtain ⟨Av, cv, ev⟩ := ho5.len
          have e12 : v5 = .slice Av (Q.length + 1) cv := by rw [ev, List.length_append]; rfl
          subst e12
          clear ev
          have HXb := Lib.hid (HP.out.push ho5 hg5)
          clear ho5 hg5 HB HP
          refine hK.out _ _ trivial (fun hHeld => ?_)
          clear hK K
          (try simp only [Act.put, List.getElem_toArray, List.getElem_cons_succ, List.getElem_cons_zero, List.setIfInBounds_toArray, List.set_cons_zero, List.set_cons_succ])
          refine' take_val (i := 11) (d := 129) (v := _) rfl rfl (by kernel_rfl) (by kernel_rfl) (by kernel_rfl) (fun _ _ _ h => h) (by rfl) ?_ (by assumption) ?_
          rotate_left
          · (intro w hSw; (try dsimp only at hSw); go_simp; (try with_reducible rfl))
          (try simp only [Act.put, List.setIfInBounds_toArray, List.set_cons_zero, List.set_cons_succ])
          refine wpAnyH_ready (rs := [12]) (by kernel_rfl) (by simp) ?_
          refine (AllReadyH.cons rfl (fun K hK => ?_) AllReadyH.nil)
          have f1 := frozen_of HXb.out.a.b5 4
          have g1 := cell_of HXb.out.a.b5 4
          simp at g1
          go_simp
          go_wp2_with fail
          refine hK.out _ _ trivial (fun hHeld => ?_)
          clear hK K
          (try simp only [Act.put, List.getElem_toArray, List.getElem_cons_succ, List.getElem_cons_zero, List.setIfInBounds_toArray, List.set_cons_zero, List.set_cons_succ])
          have HXc := Lib.hid (show RqL edO w t30 (wx.setCell ⟨q5, 4, none⟩ (.slice Av (Q.length + 1) cv)) lo g q2 q5 u3.2.1 u3.2.2 #[.int .i64 (x1.1 : Int), (.slice A1 y1.1.length c1), .int .i64 (x2.1 : Int), (.slice A2 y2.1.length c2), (.slice Av (Q.length + 1) cv), .int .i64 (x3.1 : Int)] (.slice Av (Q.length + 1) cv) (Q ++ [⟨bs p1.1, bs p2.1, (u3.1 : Int)⟩]) by
            have h := HXb.out.set 4 (.slice Av (Q.length + 1) cv)
            simp only [List.setIfInBounds_toArray, List.set_cons_zero, List.set_cons_succ] at h
            exact h)
          clear HXb f1 g1
          refine wpAnyH_done (by kernel_rfl) ?_ _
          go_wp2_with fail
          exact ⟨⟨k + 1, Q ++ [⟨bs p1.1, bs p2.1, (u3.1 : Int)⟩], _, _, _, by omega, by go_num, HXc, Lib.hid (by rw [HT8.out]; simp), Lib.hid (by rw [List.length_append]; have := HQL.out; simp; omega)⟩, by simp [intOf]; omega⟩
        · skip
          go_simp
          go_at_call 30
          refine (rfText_any 24 HP.out.a.rd).mono ?_
          rw [← Hp1.out]
          rintro r wq5 ⟨rfl, hB1, hB2, hr, hg⟩
          have HPa := Lib.hid (HP.out.read hr hg)
          clear hr hg HP
          have HP := HPa
          clear HPa
          go_wp2_with fail
          refine hK.out _ _ trivial (fun hHeld => ?_)
          clear hK K
          (try simp only [Act.put, List.getElem_toArray, List.getElem_cons_succ, List.getElem_cons_zero, List.setIfInBounds_toArray, List.set_cons_zero, List.set_cons_succ])
          refine wpAnyH_ready (rs := [1, 5]) (by kernel_rfl) (by simp) ?_
          refine (AllReadyH.cons rfl (fun K hK => ?_) (AllReadyH.cons rfl (fun K hK => ?_) AllReadyH.nil))
          · skip
            obtain ⟨y0, y1', y2', y3', y4', y5'⟩ := an_block HP.out.a.b5
            go_simp
            go_wp2_with fail
            refine hK.out _ _ trivial (fun hHeld => ?_)
            clear hK K
            (try simp only [Act.put, List.getElem_toArray, List.getElem_cons_succ, List.getElem_cons_zero, List.setIfInBounds_toArray, List.set_cons_zero, List.set_cons_succ])
            clear y0 y1' y2' y3' y4' y5'
            refine wpAnyH_ready (rs := [5]) (by kernel_rfl) (by simp) ?_
            refine (AllReadyH.cons rfl (fun K hK => ?_) AllReadyH.nil)
            go_simp
            go_at_call 30
            refine (rfText_any 24 HP.out.a.rd).mono ?_
            rw [← Hp2.out]
            rintro r wq6 ⟨rfl, hB3, hB4, hr, hg⟩
            have HPa := Lib.hid (HP.out.read hr hg)
            clear hr hg HP
            have HP := HPa
            clear HPa
            go_wp2_with fail
            refine hK.out _ _ trivial (fun hHeld => ?_)
            clear hK K
            (try simp only [Act.put, List.getElem_toArray, List.getElem_cons_succ, List.getElem_cons_zero, List.setIfInBounds_toArray, List.set_cons_zero, List.set_cons_succ])
            refine wpAnyH_ready (rs := [7]) (by kernel_rfl) (by simp) ?_
            refine (AllReadyH.cons rfl (fun K hK => ?_) AllReadyH.nil)
            go_simp
            go_at_call 29
            refine (rfU_any HP.out.a.rd).mono ?_
            rw [← Hu3.out]
            rintro r wq7 ⟨rfl, hr, hg⟩
            have HPa := Lib.hid (HP.out.read hr hg)
            clear hr hg HP
            have HP := HPa
            clear HPa
            go_wp2_with fail
            refine hK.out _ _ trivial (fun hHeld => ?_)
            clear hK K
            (try simp only [Act.put, List.getElem_toArray, List.getElem_cons_succ, List.getElem_cons_zero, List.setIfInBounds_toArray, List.set_cons_zero, List.set_cons_succ])
            refine' take_val (i := 8) (d := 126) (v := _) rfl rfl (by kernel_rfl) (by kernel_rfl) (by kernel_rfl) (fun _ _ _ h => h) (by rfl) ?_ (by assumption) ?_
            rotate_left
            · (intro w hSw; (try dsimp only at hSw); go_simp; (try with_reducible rfl))
            (try simp only [Act.put, List.setIfInBounds_toArray, List.set_cons_zero, List.set_cons_succ])
            refine wpAnyH_ready (rs := [9]) (by kernel_rfl) (by simp) ?_
            refine (AllReadyH.cons rfl (fun K hK => ?_) AllReadyH.nil)
            go_simp
            go_wp2_with fail
            have hx := bel1 wq7 (.cells #[.string (bs p1.1), .string (bs p2.1), .int .i64 (u3.1 : Int)] 58)
            have HPa := Lib.hid (HP.out.below hx)
            have HB := Lib.hid (heap_alloc_new wq7 (.cells #[.string (bs p1.1), .string (bs p2.1), .int .i64 (u3.1 : Int)] 58))
            refine hK.out _ _ trivial (fun hHeld => ?_)
            clear hK K
            (try simp only [Act.put, List.getElem_toArray, List.getElem_cons_succ, List.getElem_cons_zero, List.setIfInBounds_toArray, List.set_cons_zero, List.set_cons_succ])
            obtain ⟨wb8, hW⟩ : ∃ W, W = wq7.alloc (.cells #[.string (bs p1.1), .string (bs p2.1), .int .i64 (u3.1 : Int)] 58) := ⟨_, rfl⟩
            obtain ⟨qb, hqb⟩ : ∃ q, q = wq7.heap.size := ⟨_, rfl⟩
            change wpAnyH _ _ _ _ _ _ _ _ (wq7.alloc (.cells #[.string (bs p1.1), .string (bs p2.1), .int .i64 (u3.1 : Int)] 58))
            rw [← hW] at HPa HB ⊢
            rw [← hqb] at HB ⊢
            clear hW hqb hx HP
            have HP := HPa
            clear HPa
            refine wpAnyH_ready (rs := [10]) (by kernel_rfl) (by simp) ?_
            refine (AllReadyH.cons rfl (fun K hK => ?_) AllReadyH.nil)
            rw [if_pos (by kernel_rfl)]
            refine wp_append_el (O := edO) (.tmp 119) (.tmp 127) 27 _ _ rfl Tryz.underlying27 infoEd rfl (by decide) t30.heap.size _ Q ⟨bs p1.1, bs p2.1, (u3.1 : Int)⟩ _ rfl HP.out.o rfl _ rfl _ HB.out (by omega) HP.out.k.sz ?_
            intro v5 wx ho5 hg5
            obtain ⟨Av, cv, ev⟩ := ho5.len
            have e12 : v5 = .slice Av (Q.length + 1) cv := by rw [ev, List.length_append]; rfl
            subst e12
            clear ev
            have HXb := Lib.hid (HP.out.push ho5 hg5)
            clear ho5 hg5 HB HP
            refine hK.out _ _ trivial (fun hHeld => ?_)
            clear hK K
            (try simp only [Act.put, List.getElem_toArray, List.getElem_cons_succ, List.getElem_cons_zero, List.setIfInBounds_toArray, List.set_cons_zero, List.set_cons_succ])
            refine' take_val (i := 11) (d := 129) (v := _) rfl rfl (by kernel_rfl) (by kernel_rfl) (by kernel_rfl) (fun _ _ _ h => h) (by rfl) ?_ (by assumption) ?_
            rotate_left
            · (intro w hSw; (try dsimp only at hSw); go_simp; (try with_reducible rfl))
            (try simp only [Act.put, List.setIfInBounds_toArray, List.set_cons_zero, List.set_cons_succ])
            refine wpAnyH_ready (rs := [12]) (by kernel_rfl) (by simp) ?_
            refine (AllReadyH.cons rfl (fun K hK => ?_) AllReadyH.nil)
            have f1 := frozen_of HXb.out.a.b5 4
            have g1 := cell_of HXb.out.a.b5 4
            simp at g1
            go_simp
            go_wp2_with fail
            refine hK.out _ _ trivial (fun hHeld => ?_)
            clear hK K
            (try simp only [Act.put, List.getElem_toArray, List.getElem_cons_succ, List.getElem_cons_zero, List.setIfInBounds_toArray, List.set_cons_zero, List.set_cons_succ])
            have HXc := Lib.hid (show RqL edO w t30 (wx.setCell ⟨q5, 4, none⟩ (.slice Av (Q.length + 1) cv)) lo g q2 q5 u3.2.1 u3.2.2 #[.int .i64 (x1.1 : Int), (.slice A1 y1.1.length c1), .int .i64 (x2.1 : Int), (.slice A2 y2.1.length c2), (.slice Av (Q.length + 1) cv), .int .i64 (x3.1 : Int)] (.slice Av (Q.length + 1) cv) (Q ++ [⟨bs p1.1, bs p2.1, (u3.1 : Int)⟩]) by
              have h := HXb.out.set 4 (.slice Av (Q.length + 1) cv)
              simp only [List.setIfInBounds_toArray, List.set_cons_zero, List.set_cons_succ] at h
              exact h)
            clear HXb f1 g1
            refine wpAnyH_done (by kernel_rfl) ?_ _
            go_wp2_with fail
            exact ⟨⟨k + 1, Q ++ [⟨bs p1.1, bs p2.1, (u3.1 : Int)⟩], _, _, _, by omega, by go_num, HXc, Lib.hid (by rw [HT8.out]; simp), Lib.hid (by rw [List.length_append]; have := HQL.out; simp; omega)⟩, by simp [intOf]; omega⟩
          · skip
            go_simp
            go_at_call 30
            refine (rfText_any 24 HP.out.a.rd).mono ?_
            rw [← Hp2.out]
            rintro r wq9 ⟨rfl, hB3, hB4, hr, hg⟩
            have HPa := Lib.hid (HP.out.read hr hg)
            clear hr hg HP
            have HP := HPa
            clear HPa
            go_wp2_with fail
            refine hK.out _ _ trivial (fun hHeld => ?_)
            clear hK K
            (try simp only [Act.put, List.getElem_toArray, List.getElem_cons_succ, List.getElem_cons_zero, List.setIfInBounds_toArray, List.set_cons_zero, List.set_cons_succ])
            refine wpAnyH_ready (rs := [1, 7]) (by kernel_rfl) (by simp) ?_
            refine (AllReadyH.cons rfl (fun K hK => ?_) (AllReadyH.cons rfl (fun K hK => ?_) AllReadyH.nil))
            · skip
              obtain ⟨y0, y1', y2', y3', y4', y5'⟩ := an_block HP.out.a.b5
              go_simp
              go_wp2_with fail
              refine hK.out _ _ trivial (fun hHeld => ?_)
              clear hK K
              (try simp only [Act.put, List.getElem_toArray, List.getElem_cons_succ, List.getElem_cons_zero, List.setIfInBounds_toArray, List.set_cons_zero, List.set_cons_succ])
              clear y0 y1' y2' y3' y4' y5'
              refine wpAnyH_ready (rs := [7]) (by kernel_rfl) (by simp) ?_
              refine (AllReadyH.cons rfl (fun K hK => ?_) AllReadyH.nil)
              go_simp
              go_at_call 29
              refine (rfU_any HP.out.a.rd).mono ?_
              rw [← Hu3.out]
              rintro r wq10 ⟨rfl, hr, hg⟩
              have HPa := Lib.hid (HP.out.read hr hg)
              clear hr hg HP
              have HP := HPa
              clear HPa
              go_wp2_with fail
              refine hK.out _ _ trivial (fun hHeld => ?_)
              clear hK K
              (try simp only [Act.put, List.getElem_toArray, List.getElem_cons_succ, List.getElem_cons_zero, List.setIfInBounds_toArray, List.set_cons_zero, List.set_cons_succ])
              refine' take_val (i := 8) (d := 126) (v := _) rfl rfl (by kernel_rfl) (by kernel_rfl) (by kernel_rfl) (fun _ _ _ h => h) (by rfl) ?_ (by assumption) ?_
              rotate_left
              · (intro w hSw; (try dsimp only at hSw); go_simp; (try with_reducible rfl))
              (try simp only [Act.put, List.setIfInBounds_toArray, List.set_cons_zero, List.set_cons_succ])
              refine wpAnyH_ready (rs := [9]) (by kernel_rfl) (by simp) ?_
              refine (AllReadyH.cons rfl (fun K hK => ?_) AllReadyH.nil)
              go_simp
              go_wp2_with fail
              have hx := bel1 wq10 (.cells #[.string (bs p1.1), .string (bs p2.1), .int .i64 (u3.1 : Int)] 58)
              have HPa := Lib.hid (HP.out.below hx)
              have HB := Lib.hid (heap_alloc_new wq10 (.cells #[.string (bs p1.1), .string (bs p2.1), .int .i64 (u3.1 : Int)] 58))
              refine hK.out _ _ trivial (fun hHeld => ?_)
              clear hK K
              (try simp only [Act.put, List.getElem_toArray, List.getElem_cons_succ, List.getElem_cons_zero, List.setIfInBounds_toArray, List.set_cons_zero, List.set_cons_succ])
              obtain ⟨wb11, hW⟩ : ∃ W, W = wq10.alloc (.cells #[.string (bs p1.1), .string (bs p2.1), .int .i64 (u3.1 : Int)] 58) := ⟨_, rfl⟩
              obtain ⟨qb, hqb⟩ : ∃ q, q = wq10.heap.size := ⟨_, rfl⟩
              change wpAnyH _ _ _ _ _ _ _ _ (wq10.alloc (.cells #[.string (bs p1.1), .string (bs p2.1), .int .i64 (u3.1 : Int)] 58))
              rw [← hW] at HPa HB ⊢
              rw [← hqb] at HB ⊢
              clear hW hqb hx HP
              have HP := HPa
              clear HPa
              refine wpAnyH_ready (rs := [10]) (by kernel_rfl) (by simp) ?_
              refine (AllReadyH.cons rfl (fun K hK => ?_) AllReadyH.nil)
              rw [if_pos (by kernel_rfl)]
              refine wp_append_el (O := edO) (.tmp 119) (.tmp 127) 27 _ _ rfl Tryz.underlying27 infoEd rfl (by decide) t30.heap.size _ Q ⟨bs p1.1, bs p2.1, (u3.1 : Int)⟩ _ rfl HP.out.o rfl _ rfl _ HB.out (by omega) HP.out.k.sz ?_
              intro v5 wx ho5 hg5
              obtain ⟨Av, cv, ev⟩ := ho5.len
              have e12 : v5 = .slice Av (Q.length + 1) cv := by rw [ev, List.length_append]; rfl
              subst e12
              clear ev
              have HXb := Lib.hid (HP.out.push ho5 hg5)
              clear ho5 hg5 HB HP
              refine hK.out _ _ trivial (fun hHeld => ?_)
              clear hK K
              (try simp only [Act.put, List.getElem_toArray, List.getElem_cons_succ, List.getElem_cons_zero, List.setIfInBounds_toArray, List.set_cons_zero, List.set_cons_succ])
              refine' take_val (i := 11) (d := 129) (v := _) rfl rfl (by kernel_rfl) (by kernel_rfl) (by kernel_rfl) (fun _ _ _ h => h) (by rfl) ?_ (by assumption) ?_
              rotate_left
              · (intro w hSw; (try dsimp only at hSw); go_simp; (try with_reducible rfl))
              (try simp only [Act.put, List.setIfInBounds_toArray, List.set_cons_zero, List.set_cons_succ])
              refine wpAnyH_ready (rs := [12]) (by kernel_rfl) (by simp) ?_
              refine (AllReadyH.cons rfl (fun K hK => ?_) AllReadyH.nil)
              have f1 := frozen_of HXb.out.a.b5 4
              have g1 := cell_of HXb.out.a.b5 4
              simp at g1
              go_simp
              go_wp2_with fail
              refine hK.out _ _ trivial (fun hHeld => ?_)
              clear hK K
              (try simp only [Act.put, List.getElem_toArray, List.getElem_cons_succ, List.getElem_cons_zero, List.setIfInBounds_toArray, List.set_cons_zero, List.set_cons_succ])
              have HXc := Lib.hid (show RqL edO w t30 (wx.setCell ⟨q5, 4, none⟩ (.slice Av (Q.length + 1) cv)) lo g q2 q5 u3.2.1 u3.2.2 #[.int .i64 (x1.1 : Int), (.slice A1 y1.1.length c1), .int .i64 (x2.1 : Int), (.slice A2 y2.1.length c2), (.slice Av (Q.length + 1) cv), .int .i64 (x3.1 : Int)] (.slice Av (Q.length + 1) cv) (Q ++ [⟨bs p1.1, bs p2.1, (u3.1 : Int)⟩]) by
                have h := HXb.out.set 4 (.slice Av (Q.length + 1) cv)
                simp only [List.setIfInBounds_toArray, List.set_cons_zero, List.set_cons_succ] at h
                exact h)
              clear HXb f1 g1
              refine wpAnyH_done (by kernel_rfl) ?_ _
              go_wp2_with fail
              exact ⟨⟨k + 1, Q ++ [⟨bs p1.1, bs p2.1, (u3.1 : Int)⟩], _, _, _, by omega, by go_num, HXc, Lib.hid (by rw [HT8.out]; simp), Lib.hid (by rw [List.length_append]; have := HQL.out; simp; omega)⟩, by simp [intOf]; omega⟩
            · skip
              go_simp
              go_at_call 29
              refine (rfU_any HP.out.a.rd).mono ?_
              rw [← Hu3.out]
              rintro r wq12 ⟨rfl, hr, hg⟩
              have HPa := Lib.hid (HP.out.read hr hg)
              clear hr hg HP
              have HP := HPa
              clear HPa
              go_wp2_with fail
              refine hK.out _ _ trivial (fun hHeld => ?_)
              clear hK K
              (try simp only [Act.put, List.getElem_toArray, List.getElem_cons_succ, List.getElem_cons_zero, List.setIfInBounds_toArray, List.set_cons_zero, List.set_cons_succ])
              refine' take_val (i := 8) (d := 126) (v := _) rfl rfl (by kernel_rfl) (by kernel_rfl) (by kernel_rfl) (fun _ _ _ h => h) (by rfl) ?_ (by assumption) ?_
              rotate_left
              · (intro w hSw; (try dsimp only at hSw); go_simp; (try with_reducible rfl))
              (try simp only [Act.put, List.setIfInBounds_toArray, List.set_cons_zero, List.set_cons_succ])
              refine wpAnyH_ready (rs := [1, 9]) (by kernel_rfl) (by simp) ?_
              refine (AllReadyH.cons rfl (fun K hK => ?_) (AllReadyH.cons rfl (fun K hK => ?_) AllReadyH.nil))
              · skip
                obtain ⟨y0, y1', y2', y3', y4', y5'⟩ := an_block HP.out.a.b5
                go_simp
                go_wp2_with fail
                refine hK.out _ _ trivial (fun hHeld => ?_)
                clear hK K
                (try simp only [Act.put, List.getElem_toArray, List.getElem_cons_succ, List.getElem_cons_zero, List.setIfInBounds_toArray, List.set_cons_zero, List.set_cons_succ])
                clear y0 y1' y2' y3' y4' y5'
                refine wpAnyH_ready (rs := [9]) (by kernel_rfl) (by simp) ?_
                refine (AllReadyH.cons rfl (fun K hK => ?_) AllReadyH.nil)
                go_simp
                go_wp2_with fail
                have hx := bel1 wq12 (.cells #[.string (bs p1.1), .string (bs p2.1), .int .i64 (u3.1 : Int)] 58)
                have HPa := Lib.hid (HP.out.below hx)
                have HB := Lib.hid (heap_alloc_new wq12 (.cells #[.string (bs p1.1), .string (bs p2.1), .int .i64 (u3.1 : Int)] 58))
                refine hK.out _ _ trivial (fun hHeld => ?_)
                clear hK K
                (try simp only [Act.put, List.getElem_toArray, List.getElem_cons_succ, List.getElem_cons_zero, List.setIfInBounds_toArray, List.set_cons_zero, List.set_cons_succ])
                obtain ⟨wb13, hW⟩ : ∃ W, W = wq12.alloc (.cells #[.string (bs p1.1), .string (bs p2.1), .int .i64 (u3.1 : Int)] 58) := ⟨_, rfl⟩
                obtain ⟨qb, hqb⟩ : ∃ q, q = wq12.heap.size := ⟨_, rfl⟩
                change wpAnyH _ _ _ _ _ _ _ _ (wq12.alloc (.cells #[.string (bs p1.1), .string (bs p2.1), .int .i64 (u3.1 : Int)] 58))
                rw [← hW] at HPa HB ⊢
                rw [← hqb] at HB ⊢
                clear hW hqb hx HP
                have HP := HPa
                clear HPa
                refine wpAnyH_ready (rs := [10]) (by kernel_rfl) (by simp) ?_
                refine (AllReadyH.cons rfl (fun K hK => ?_) AllReadyH.nil)
                rw [if_pos (by kernel_rfl)]
                refine wp_append_el (O := edO) (.tmp 119) (.tmp 127) 27 _ _ rfl Tryz.underlying27 infoEd rfl (by decide) t30.heap.size _ Q ⟨bs p1.1, bs p2.1, (u3.1 : Int)⟩ _ rfl HP.out.o rfl _ rfl _ HB.out (by omega) HP.out.k.sz ?_
                intro v5 wx ho5 hg5
                obtain ⟨Av, cv, ev⟩ := ho5.len
                have e12 : v5 = .slice Av (Q.length + 1) cv := by rw [ev, List.length_append]; rfl
                subst e12
                clear ev
                have HXb := Lib.hid (HP.out.push ho5 hg5)
                clear ho5 hg5 HB HP
                refine hK.out _ _ trivial (fun hHeld => ?_)
                clear hK K
                (try simp only [Act.put, List.getElem_toArray, List.getElem_cons_succ, List.getElem_cons_zero, List.setIfInBounds_toArray, List.set_cons_zero, List.set_cons_succ])
                refine' take_val (i := 11) (d := 129) (v := _) rfl rfl (by kernel_rfl) (by kernel_rfl) (by kernel_rfl) (fun _ _ _ h => h) (by rfl) ?_ (by assumption) ?_
                rotate_left
                · (intro w hSw; (try dsimp only at hSw); go_simp; (try with_reducible rfl))
                (try simp only [Act.put, List.setIfInBounds_toArray, List.set_cons_zero, List.set_cons_succ])
                refine wpAnyH_ready (rs := [12]) (by kernel_rfl) (by simp) ?_
                refine (AllReadyH.cons rfl (fun K hK => ?_) AllReadyH.nil)
                have f1 := frozen_of HXb.out.a.b5 4
                have g1 := cell_of HXb.out.a.b5 4
                simp at g1
                go_simp
                go_wp2_with fail
                refine hK.out _ _ trivial (fun hHeld => ?_)
                clear hK K
                (try simp only [Act.put, List.getElem_toArray, List.getElem_cons_succ, List.getElem_cons_zero, List.setIfInBounds_toArray, List.set_cons_zero, List.set_cons_succ])
                have HXc := Lib.hid (show RqL edO w t30 (wx.setCell ⟨q5, 4, none⟩ (.slice Av (Q.length + 1) cv)) lo g q2 q5 u3.2.1 u3.2.2 #[.int .i64 (x1.1 : Int), (.slice A1 y1.1.length c1), .int .i64 (x2.1 : Int), (.slice A2 y2.1.length c2), (.slice Av (Q.length + 1) cv), .int .i64 (x3.1 : Int)] (.slice Av (Q.length + 1) cv) (Q ++ [⟨bs p1.1, bs p2.1, (u3.1 : Int)⟩]) by
                  have h := HXb.out.set 4 (.slice Av (Q.length + 1) cv)
                  simp only [List.setIfInBounds_toArray, List.set_cons_zero, List.set_cons_succ] at h
                  exact h)
                clear HXb f1 g1
                refine wpAnyH_done (by kernel_rfl) ?_ _
                go_wp2_with fail
                exact ⟨⟨k + 1, Q ++ [⟨bs p1.1, bs p2.1, (u3.1 : Int)⟩], _, _, _, by omega, by go_num, HXc, Lib.hid (by rw [HT8.out]; simp), Lib.hid (by rw [List.length_append]; have := HQL.out; simp; omega)⟩, by simp [intOf]; omega⟩
              · skip
                go_simp
                go_wp2_with fail
                have hx := bel1 wq12 (.cells #[.string (bs p1.1), .string (bs p2.1), .int .i64 (u3.1 : Int)] 58)
                have HPa := Lib.hid (HP.out.below hx)
                have HB := Lib.hid (heap_alloc_new wq12 (.cells #[.string (bs p1.1), .string (bs p2.1), .int .i64 (u3.1 : Int)] 58))
                refine hK.out _ _ trivial (fun hHeld => ?_)
                clear hK K
                (try simp only [Act.put, List.getElem_toArray, List.getElem_cons_succ, List.getElem_cons_zero, List.setIfInBounds_toArray, List.set_cons_zero, List.set_cons_succ])
                obtain ⟨wb14, hW⟩ : ∃ W, W = wq12.alloc (.cells #[.string (bs p1.1), .string (bs p2.1), .int .i64 (u3.1 : Int)] 58) := ⟨_, rfl⟩
                obtain ⟨qb, hqb⟩ : ∃ q, q = wq12.heap.size := ⟨_, rfl⟩
                change wpAnyH _ _ _ _ _ _ _ _ (wq12.alloc (.cells #[.string (bs p1.1), .string (bs p2.1), .int .i64 (u3.1 : Int)] 58))
                rw [← hW] at HPa HB ⊢
                rw [← hqb] at HB ⊢
                clear hW hqb hx HP
                have HP := HPa
                clear HPa
                refine wpAnyH_ready (rs := [1]) (by kernel_rfl) (by simp) ?_
                refine (AllReadyH.cons rfl (fun K hK => ?_) AllReadyH.nil)
                obtain ⟨y0, y1', y2', y3', y4', y5'⟩ := an_block HP.out.a.b5
                go_simp
                go_wp2_with fail
                refine hK.out _ _ trivial (fun hHeld => ?_)
                clear hK K
                (try simp only [Act.put, List.getElem_toArray, List.getElem_cons_succ, List.getElem_cons_zero, List.setIfInBounds_toArray, List.set_cons_zero, List.set_cons_succ])
                clear y0 y1' y2' y3' y4' y5'
                refine wpAnyH_ready (rs := [10]) (by kernel_rfl) (by simp) ?_
                refine (AllReadyH.cons rfl (fun K hK => ?_) AllReadyH.nil)
                rw [if_pos (by kernel_rfl)]
                refine wp_append_el (O := edO) (.tmp 119) (.tmp 127) 27 _ _ rfl Tryz.underlying27 infoEd rfl (by decide) t30.heap.size _ Q ⟨bs p1.1, bs p2.1, (u3.1 : Int)⟩ _ rfl HP.out.o rfl _ rfl _ HB.out (by omega) HP.out.k.sz ?_
                intro v5 wx ho5 hg5
                obtain ⟨Av, cv, ev⟩ := ho5.len
                have e12 : v5 = .slice Av (Q.length + 1) cv := by rw [ev, List.length_append]; rfl
                subst e12
                clear ev
                have HXb := Lib.hid (HP.out.push ho5 hg5)
                clear ho5 hg5 HB HP
                refine hK.out _ _ trivial (fun hHeld => ?_)
                clear hK K
                (try simp only [Act.put, List.getElem_toArray, List.getElem_cons_succ, List.getElem_cons_zero, List.setIfInBounds_toArray, List.set_cons_zero, List.set_cons_succ])
                refine' take_val (i := 11) (d := 129) (v := _) rfl rfl (by kernel_rfl) (by kernel_rfl) (by kernel_rfl) (fun _ _ _ h => h) (by rfl) ?_ (by assumption) ?_
                rotate_left
                · (intro w hSw; (try dsimp only at hSw); go_simp; (try with_reducible rfl))
                (try simp only [Act.put, List.setIfInBounds_toArray, List.set_cons_zero, List.set_cons_succ])
                refine wpAnyH_ready (rs := [12]) (by kernel_rfl) (by simp) ?_
                refine (AllReadyH.cons rfl (fun K hK => ?_) AllReadyH.nil)
                have f1 := frozen_of HXb.out.a.b5 4
                have g1 := cell_of HXb.out.a.b5 4
                simp at g1
                go_simp
                go_wp2_with fail
                refine hK.out _ _ trivial (fun hHeld => ?_)
                clear hK K
                (try simp only [Act.put, List.getElem_toArray, List.getElem_cons_succ, List.getElem_cons_zero, List.setIfInBounds_toArray, List.set_cons_zero, List.set_cons_succ])
                have HXc := Lib.hid (show RqL edO w t30 (wx.setCell ⟨q5, 4, none⟩ (.slice Av (Q.length + 1) cv)) lo g q2 q5 u3.2.1 u3.2.2 #[.int .i64 (x1.1 : Int), (.slice A1 y1.1.length c1), .int .i64 (x2.1 : Int), (.slice A2 y2.1.length c2), (.slice Av (Q.length + 1) cv), .int .i64 (x3.1 : Int)] (.slice Av (Q.length + 1) cv) (Q ++ [⟨bs p1.1, bs p2.1, (u3.1 : Int)⟩]) by
                  have h := HXb.out.set 4 (.slice Av (Q.length + 1) cv)
                  simp only [List.setIfInBounds_toArray, List.set_cons_zero, List.set_cons_succ] at h
                  exact h)
                clear HXb f1 g1
                refine wpAnyH_done (by kernel_rfl) ?_ _
                go_wp2_with fail
                exact ⟨⟨k + 1, Q ++ [⟨bs p1.1, bs p2.1, (u3.1 : Int)⟩], _, _, _, by omega, by go_num, HXc, Lib.hid (by rw [HT8.out]; simp), Lib.hid (by rw [List.length_append]; have := HQL.out; simp; omega)⟩, by simp [intOf]; omega⟩
      · have hend : tkM tkEd (M - k) e l2 = ([], e, l2) := by
          by_cases he : e = 0
          · rw [show M - k = 0 by omega]; rfl
          · exact tkM_stop _ _ he l2
        have hY := HT9.out
        rw [hend] at hY
        simp only [List.append_nil] at hY
        have HF := Lib.hid (show RqL edO w t30 wr lo g q2 q5 y3.2.1 y3.2.2 #[.int .i64 (x1.1 : Int), (.slice A1 y1.1.length c1), .int .i64 (x2.1 : Int), (.slice A2 y2.1.length c2), (.slice Ao Q.length co), .int .i64 (x3.1 : Int)] (.slice Ao Q.length co) y3.1 by rw [hY]; exact HP.out)
        clear HP hY hend HT9 HQL
        by_cases h1 : k < n3.1
        · have h1' : (k : Int) < (n3.1 : Int) := by omega
          by_cases h2 : k ≤ 10000
          · have h2' : (k : Int) ≤ 10000 := by omega
            have he : (e == 0) = false := by simp; intro h; exact hgo ⟨by have := HM.out; omega, h⟩
            clear hgo h1 h2 hk
            go_wp2_with fail
            go_meet
            exact ⟨_, HF⟩
          · have h2' : ¬ (k : Int) ≤ 10000 := by omega
            clear hgo h1 h2 hk
            go_wp2_with fail
            go_meet
            exact ⟨_, HF⟩
        · have h1' : ¬ (k : Int) < (n3.1 : Int) := by omega
          clear hgo h1 hk
          go_wp2_with fail
          go_meet
          exact ⟨_, HF⟩
  obtain ⟨vo, HL⟩ := hcut
  have hkp := HL.out.k
  have h5lt := HL.out.q
  have HP2 := Lib.hid HL.out.a
  have HO1' := Lib.hid (HO1.out.kp hkp)
  have HO2' := Lib.hid (HO2.out.kp hkp)
  have HO3' := Lib.hid (HL.out.o.base (show q5 + 1 ≤ t30.heap.size from h5lt))
  clear HL hkp h5lt HM HY HP HO1 HO2
  have HP := HP2
  have HO1 := HO1'
  have HO2 := HO2'
  have HO3 := HO3'
  clear HP2 HO1' HO2' HO3'
  obtain ⟨A3, c3, eo⟩ := HO3.out.len
  subst eo
  have hgq := HP.out.g5
  clear hgq
  have hlo2 := HP.out.lo2
  have hn25 : q2 < q5 + 1 := by have := HP.out.n2; have := HP.out.g5; have := HP.out.rd.lt; omega
  have HAO := Lib.hid (show AnO wc (q5 + 1) ⟨(x1.1 : Int), y1.1, (x2.1 : Int), y2.1, y3.1, (x3.1 : Int)⟩ (.slice A1 y1.1.length c1) (.slice A2 y2.1.length c2) (.slice A3 y3.1.length c3) from ⟨HO1.out, HO2.out, HO3.out⟩)
  have LL := Lib.hid (fun (W : World) (h : AnO W (q5 + 1) ⟨(x1.1 : Int), y1.1, (x2.1 : Int), y2.1, y3.1, (x3.1 : Int)⟩ (.slice A1 y1.1.length c1) (.slice A2 y2.1.length c2) (.slice A3 y3.1.length c3)) => h.l (fun x hx => ⟨(HATS.out x hx).1, by have := (HATS.out x hx).2; omega⟩) (by show y1.1.length ≤ _; have := HLN1.out; omega) (by show y2.1.length ≤ _; have := HLN2.out; omega) (by show y3.1.length ≤ _; have := HLN3.out; omega))
  have HPT := Lib.hid (show PtS (⟨(x1.1 : Int), y1.1, (x2.1 : Int), y2.1, y3.1, (x3.1 : Int)⟩ : Ans).sn from fun s hs => (HATS.out s hs).1)
  have NO := Lib.hid (fun (W W' : World) (hW : W' = (((((W.setCell ⟨q2, 0, none⟩ (.int .i64 0)).setCell ⟨q2, 1, none⟩ (.slice none 0 0)).setCell ⟨q2, 2, none⟩ (.int .i64 0)).setCell ⟨q2, 3, none⟩ (.slice none 0 0)).setCell ⟨q2, 4, none⟩ (.slice none 0 0)).setCell ⟨q2, 5, none⟩ (.int .i64 0)) (hb : Below w.heap.size w W) (hq : W.heap[q2]? = some (.cells #[.int .i64 0, .slice none 0 0, .int .i64 0, .slice none 0 0, .slice none 0 0, .int .i64 0] 29 (0, 0))) => show W'.heap[q2]? = some (.cells #[.int .i64 0, .slice none 0 0, .int .i64 0, .slice none 0 0, .slice none 0 0, .int .i64 0] 29 (0, 0)) ∧ Below w.heap.size w W' by
    rw [hW]
    have hle : w.heap.size ≤ q2 := by rw [HQ2.out]; exact Nat.le_refl _
    exact ⟨heap_set (heap_set (heap_set (heap_set (heap_set (heap_set hq 0 _) 1 _) 2 _) 3 _) 4 _) 5 _, (((((hb.setCell (p := ⟨q2, 0, none⟩) hle _).setCell (p := ⟨q2, 1, none⟩) hle _).setCell (p := ⟨q2, 2, none⟩) hle _).setCell (p := ⟨q2, 3, none⟩) hle _).setCell (p := ⟨q2, 4, none⟩) hle _).setCell (p := ⟨q2, 5, none⟩) hle _⟩)
  clear HO1 HO2 HO3 HATS HLN1 HLN2 HLN3
  obtain ⟨z0, z1, z2, z3, z4, z5⟩ := an_block HP.out.b5
  have HBY := Lib.hid (refAnBytes_any (LL.out _ HAO.out) HPT.out)
  unfold anV at HBY
  have HANB := Lib.hid (show Byt (anP ⟨(x1.1 : Int), y1.1, (x2.1 : Int), y2.1, y3.1, (x3.1 : Int)⟩).1 ∧ (anP ⟨(x1.1 : Int), y1.1, (x2.1 : Int), y2.1, y3.1, (x3.1 : Int)⟩).1.length ≤ 140737488354304 by
    by_cases hok : OkAn ⟨(x1.1 : Int), y1.1, (x2.1 : Int), y2.1, y3.1, (x3.1 : Int)⟩
    · rw [anP_yes hok]
      have := anB_ok hok HPT.out
      exact ⟨this.1, by have := this.2; show (anB _).length ≤ _; omega⟩
    · rw [anP_no hok]
      exact ⟨(by intro x hx; cases hx), by simp⟩)
  go_wp2_with fail
  refine HBY.out.mono ?_
  intro r t9 hh
  obtain ⟨A9, n9, c9, rfl, hB9, hb9⟩ := hh.open HANB.out.1 HANB.out.2
  have HP' := Lib.hid (HP.out.below hb9)
  have HAO' := Lib.hid (HAO.out.below hb9)
  have HB9 := Lib.hid hB9
  clear hh hB9 hb9 HP HAO HBY z0 z1 z2 z3 z4 z5
  have HP := HP'; have HAO := HAO'
  clear HP' HAO'
  have rc := rcell2 HP.out.rd
  by_cases he : y3.2.1 = 0
  case neg =>
    have HX := Lib.hid (show prAn l = (noAns, 270) by
      rw [← HPR.out]
      unfold prAnR
      rw [HT.out, if_neg (fun h => he h.1)])
    have he' : (y3.2.1 == 0) = false := by simp; exact he
    have he'' : (y3.2.1 != 0) = true := by simp; exact he
    have hb2 := HP.out.b2
    obtain ⟨d0, d1, d2, d3, d4, d5⟩ := an_block hb2
    have f0 := frozen_of hb2 0
    have f1 := frozen_of hb2 1
    have f2 := frozen_of hb2 2
    have f3 := frozen_of hb2 3
    have f4 := frozen_of hb2 4
    have f5 := frozen_of hb2 5
    clear hb2
    go_wp2_with fail
    obtain ⟨W, hW⟩ : ∃ W, W = (((((t9.setCell ⟨q2, 0, none⟩ (.int .i64 0)).setCell ⟨q2, 1, none⟩ (.slice none 0 0)).setCell ⟨q2, 2, none⟩ (.int .i64 0)).setCell ⟨q2, 3, none⟩ (.slice none 0 0)).setCell ⟨q2, 4, none⟩ (.slice none 0 0)).setCell ⟨q2, 5, none⟩ (.int .i64 0) := ⟨_, rfl⟩
    obtain ⟨B4, hBW⟩ := NO.out _ _ hW HP.out.bel HP.out.b2
    rw [← hW]
    clear hW d0 d1 d2 d3 d4 d5 f0 f1 f2 f3 f4 f5
    obtain ⟨d0, d1, d2, d3, d4, d5⟩ := an_block B4
    refine bodyPost_ret (by simp [results, Tryz.results7, go_sem, d0, d1, d2, d3, d4, d5]; try rfl) rfl ?_
    rw [HX.out]
    exact ⟨_, _, _, rfl, ⟨⟨_, _, rfl, EL.zero _ _⟩, ⟨_, _, rfl, EL.zero _ _⟩, ⟨_, _, rfl, EL.zero _ _⟩⟩, hBW⟩
  rw [he] at rc
  go_wp2_with fail
  refine (refLeft_any HP.out.rd).mono ?_
  rintro e tz ⟨rfl, rfl⟩
  rw [if_pos he]
  by_cases hr0 : y3.2.2 = []
  case neg =>
    have HX := Lib.hid (show prAn l = (noAns, 270) by
      rw [← HPR.out]
      unfold prAnR
      rw [HT.out, if_neg (fun h => hr0 h.2.1)])
    have hrl : 0 < y3.2.2.length := List.length_pos_iff.2 hr0
    have hrl2 : (0 : Int) < (y3.2.2.length : Int) := by omega
    have hb2 := HP.out.b2
    obtain ⟨d0, d1, d2, d3, d4, d5⟩ := an_block hb2
    have f0 := frozen_of hb2 0
    have f1 := frozen_of hb2 1
    have f2 := frozen_of hb2 2
    have f3 := frozen_of hb2 3
    have f4 := frozen_of hb2 4
    have f5 := frozen_of hb2 5
    clear hb2
    go_wp2_with fail
    obtain ⟨W, hW⟩ : ∃ W, W = (((((t9.setCell ⟨q2, 0, none⟩ (.int .i64 0)).setCell ⟨q2, 1, none⟩ (.slice none 0 0)).setCell ⟨q2, 2, none⟩ (.int .i64 0)).setCell ⟨q2, 3, none⟩ (.slice none 0 0)).setCell ⟨q2, 4, none⟩ (.slice none 0 0)).setCell ⟨q2, 5, none⟩ (.int .i64 0) := ⟨_, rfl⟩
    obtain ⟨B4, hBW⟩ := NO.out _ _ hW HP.out.bel HP.out.b2
    rw [← hW]
    clear hW d0 d1 d2 d3 d4 d5 f0 f1 f2 f3 f4 f5
    obtain ⟨d0, d1, d2, d3, d4, d5⟩ := an_block B4
    refine bodyPost_ret (by simp [results, Tryz.results7, go_sem, d0, d1, d2, d3, d4, d5]; try rfl) rfl ?_
    rw [HX.out]
    exact ⟨_, _, _, rfl, ⟨⟨_, _, rfl, EL.zero _ _⟩, ⟨_, _, rfl, EL.zero _ _⟩, ⟨_, _, rfl, EL.zero _ _⟩⟩, hBW⟩
  have hrl2 : ¬ (0 : Int) < (y3.2.2.length : Int) := by rw [hr0]; simp
  by_cases hok : OkAn ⟨(x1.1 : Int), y1.1, (x2.1 : Int), y2.1, y3.1, (x3.1 : Int)⟩
  case neg =>
    have HX := Lib.hid (show prAn l = (noAns, 270) by
      rw [← HPR.out]
      unfold prAnR
      rw [HT.out, if_neg (fun h => hok (h.2.2.1))])
    have hk2 : (anP ⟨(x1.1 : Int), y1.1, (x2.1 : Int), y2.1, y3.1, (x3.1 : Int)⟩).2 = 270 := by rw [anP_no hok]
    rw [hk2]
    have hb2 := HP.out.b2
    obtain ⟨d0, d1, d2, d3, d4, d5⟩ := an_block hb2
    have f0 := frozen_of hb2 0
    have f1 := frozen_of hb2 1
    have f2 := frozen_of hb2 2
    have f3 := frozen_of hb2 3
    have f4 := frozen_of hb2 4
    have f5 := frozen_of hb2 5
    clear hb2
    go_wp2_with fail
    obtain ⟨W, hW⟩ : ∃ W, W = (((((t9.setCell ⟨q2, 0, none⟩ (.int .i64 0)).setCell ⟨q2, 1, none⟩ (.slice none 0 0)).setCell ⟨q2, 2, none⟩ (.int .i64 0)).setCell ⟨q2, 3, none⟩ (.slice none 0 0)).setCell ⟨q2, 4, none⟩ (.slice none 0 0)).setCell ⟨q2, 5, none⟩ (.int .i64 0) := ⟨_, rfl⟩
    obtain ⟨B4, hBW⟩ := NO.out _ _ hW HP.out.bel HP.out.b2
    rw [← hW]
    clear hW d0 d1 d2 d3 d4 d5 f0 f1 f2 f3 f4 f5
    obtain ⟨d0, d1, d2, d3, d4, d5⟩ := an_block B4
    refine bodyPost_ret (by simp [results, Tryz.results7, go_sem, d0, d1, d2, d3, d4, d5]; try rfl) rfl ?_
    rw [HX.out]
    exact ⟨_, _, _, rfl, ⟨⟨_, _, rfl, EL.zero _ _⟩, ⟨_, _, rfl, EL.zero _ _⟩, ⟨_, _, rfl, EL.zero _ _⟩⟩, hBW⟩
  have hk1 : (anP ⟨(x1.1 : Int), y1.1, (x2.1 : Int), y2.1, y3.1, (x3.1 : Int)⟩).1 = anB ⟨(x1.1 : Int), y1.1, (x2.1 : Int), y2.1, y3.1, (x3.1 : Int)⟩ := by rw [anP_yes hok]
  have hk2 : (anP ⟨(x1.1 : Int), y1.1, (x2.1 : Int), y2.1, y3.1, (x3.1 : Int)⟩).2 = 0 := by rw [anP_yes hok]
  rw [hk1] at HB9
  rw [hk2]
  have HHE := Lib.hid he
  have HHR := Lib.hid hr0
  have HOK := Lib.hid hok
  clear hk1 hk2 HANB he hr0 hok
  go_wp2_with fail
  refine (eqBytes_any A9 A n9 c9 n c _ l _ HB9.out (HA.out.below HP.out.bel)).mono ?_
  rintro e t10 ⟨rfl, hb⟩
  have HP' := Lib.hid (HP.out.below hb)
  have HAO' := Lib.hid (HAO.out.below hb)
  clear hb HP HAO HB9 rc
  have HP := HP'; have HAO := HAO'
  clear HP' HAO'
  by_cases hanb : anB ⟨(x1.1 : Int), y1.1, (x2.1 : Int), y2.1, y3.1, (x3.1 : Int)⟩ = l
  case neg =>
    rw [decide_eq_false hanb]
    have HX := Lib.hid (show prAn l = (noAns, 270) by
      rw [← HPR.out]
      unfold prAnR
      rw [HT.out, if_neg (fun h => hanb h.2.2.2)])
    clear hanb
    have hb2 := HP.out.b2
    obtain ⟨d0, d1, d2, d3, d4, d5⟩ := an_block hb2
    have f0 := frozen_of hb2 0
    have f1 := frozen_of hb2 1
    have f2 := frozen_of hb2 2
    have f3 := frozen_of hb2 3
    have f4 := frozen_of hb2 4
    have f5 := frozen_of hb2 5
    clear hb2
    go_wp2_with fail
    obtain ⟨W, hW⟩ : ∃ W, W = (((((t10.setCell ⟨q2, 0, none⟩ (.int .i64 0)).setCell ⟨q2, 1, none⟩ (.slice none 0 0)).setCell ⟨q2, 2, none⟩ (.int .i64 0)).setCell ⟨q2, 3, none⟩ (.slice none 0 0)).setCell ⟨q2, 4, none⟩ (.slice none 0 0)).setCell ⟨q2, 5, none⟩ (.int .i64 0) := ⟨_, rfl⟩
    obtain ⟨B4, hBW⟩ := NO.out _ _ hW HP.out.bel HP.out.b2
    rw [← hW]
    clear hW d0 d1 d2 d3 d4 d5 f0 f1 f2 f3 f4 f5
    obtain ⟨d0, d1, d2, d3, d4, d5⟩ := an_block B4
    refine bodyPost_ret (by simp [results, Tryz.results7, go_sem, d0, d1, d2, d3, d4, d5]; try rfl) rfl ?_
    rw [HX.out]
    exact ⟨_, _, _, rfl, ⟨⟨_, _, rfl, EL.zero _ _⟩, ⟨_, _, rfl, EL.zero _ _⟩, ⟨_, _, rfl, EL.zero _ _⟩⟩, hBW⟩
  rw [decide_eq_true hanb]
  have HX := Lib.hid (show prAn l = (⟨(x1.1 : Int), y1.1, (x2.1 : Int), y2.1, y3.1, (x3.1 : Int)⟩, 0) by
    rw [← HPR.out]
    unfold prAnR
    rw [HT.out, if_pos ⟨HHE.out, HHR.out, HOK.out, hanb⟩])
  clear hanb
  obtain ⟨z0, z1, z2, z3, z4, z5⟩ := an_block HP.out.b5
  have hb2 := HP.out.b2
  obtain ⟨d0, d1, d2, d3, d4, d5⟩ := an_block hb2
  have f0 := frozen_of hb2 0
  have f1 := frozen_of hb2 1
  have f2 := frozen_of hb2 2
  have f3 := frozen_of hb2 3
  have f4 := frozen_of hb2 4
  have f5 := frozen_of hb2 5
  clear hb2
  go_wp2_with fail
  obtain ⟨W, hW⟩ : ∃ W, W = (((((t10.setCell ⟨q2, 0, none⟩ (.int .i64 (x1.1 : Int))).setCell ⟨q2, 1, none⟩ (.slice A1 y1.1.length c1)).setCell ⟨q2, 2, none⟩ (.int .i64 (x2.1 : Int))).setCell ⟨q2, 3, none⟩ (.slice A2 y2.1.length c2)).setCell ⟨q2, 4, none⟩ (.slice A3 y3.1.length c3)).setCell ⟨q2, 5, none⟩ (.int .i64 (x3.1 : Int)) := ⟨_, rfl⟩
  have B4 : W.heap[q2]? = some (.cells #[.int .i64 (x1.1 : Int), .slice A1 y1.1.length c1, .int .i64 (x2.1 : Int), .slice A2 y2.1.length c2, .slice A3 y3.1.length c3, .int .i64 (x3.1 : Int)] 29 (0, 0)) := by
    rw [hW]
    exact heap_set (heap_set (heap_set (heap_set (heap_set (heap_set HP.out.b2 0 _) 1 _) 2 _) 3 _) 4 _) 5 _
  have hBW : Below w.heap.size w W := by
    rw [hW]
    have hle : w.heap.size ≤ q2 := by rw [HQ2.out]; exact Nat.le_refl _
    have hb := HP.out.bel
    exact (((((hb.setCell (p := ⟨q2, 0, none⟩) hle _).setCell (p := ⟨q2, 1, none⟩) hle _).setCell (p := ⟨q2, 2, none⟩) hle _).setCell (p := ⟨q2, 3, none⟩) hle _).setCell (p := ⟨q2, 4, none⟩) hle _).setCell (p := ⟨q2, 5, none⟩) hle _
  have hAW : AnL W ⟨(x1.1 : Int), y1.1, (x2.1 : Int), y2.1, y3.1, (x3.1 : Int)⟩ (.slice A1 y1.1.length c1) (.slice A2 y2.1.length c2) (.slice A3 y3.1.length c3) := by
    rw [hW]
    exact LL.out _ ((((((HAO.out.far hn25 0 _).far hn25 1 _).far hn25 2 _).far hn25 3 _).far hn25 4 _).far hn25 5 _)
  rw [← hW]
  clear hW d0 d1 d2 d3 d4 d5 f0 f1 f2 f3 f4 f5 z0 z1 z2 z3 z4 z5
  obtain ⟨d0, d1, d2, d3, d4, d5⟩ := an_block B4
  refine bodyPost_ret (by simp [results, Tryz.results7, go_sem, d0, d1, d2, d3, d4, d5]; try rfl) rfl ?_
  rw [HX.out]
  exact ⟨_, _, _, rfl, hAW, hBW⟩
end Go.Proofs.YtfedgjahbmcpoaaGreat
