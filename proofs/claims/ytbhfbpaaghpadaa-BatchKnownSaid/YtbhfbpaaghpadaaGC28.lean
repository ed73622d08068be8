/- The document's CopySpans, Copy. No conditions. -/
import Derived.Test.YtbhfbpaaghpadaaGC26
import Derived.Test.YtbhfbpaaghpadaaGC27
import Derived.Test.YtbhfbpaaghpadaaGC25
import Derived.Test.YtbhfbpaaghpadaaGC23
import Derived.Test.YtbhfbpaaghpadaaGC19
set_option linter.unusedSimpArgs false
set_option linter.unusedVariables false
namespace Go.Proofs.Ytbhfbpaaghpadaa
open Go.RowKit

theorem BSp.put8 {w : World} {q : Nat} {s : Spn} {v : Value} (h : BSp w q s v) (u : Value) : BSp (w.setCell ⟨q, 8, none⟩ u) q s u := heap_set h 8 u
theorem own_ne2 {w : World} {base : Nat} {t0 : TypeId} {sz : Nat} {v : Value} {n : Nat} {xs : List Value} {q : Nat} {c : Array Value} {t : TypeId} {mk : Nat × Nat} (h : w.ownsRow base t0 sz v n xs) (hq : w.heap[q]? = some (.cells c t mk)) (ht : t ≠ t0) : v.ownBlock ≠ some q := by
  rcases h.2 with ⟨hv, _⟩ | ⟨g, cap, cur, hv, _, hg, _⟩
  · rw [hv]; intro e; cases e
  · rw [hv]
    intro e
    have : g = q := by injection e
    subst this
    rw [hq] at hg
    injection hg with h1
    injection h1 with _ h2 _
    exact ht h2
theorem SpOwn.setCell {w : World} {base : Nat} {v : Value} {l : List Spn} (h : SpOwn w base v l) {q : Nat} {s : Spn} {u : Value} (hq : BSp w q s u) (hne : v.ownBlock ≠ some q) (j : Nat) (x : Value) : SpOwn (w.setCell ⟨q, j, none⟩ x) base v l := by
  obtain ⟨vs, hv, h1, h2⟩ := h
  exact ⟨vs, hv, ownsRow_setCell_other h1 (a := ⟨q, j, none⟩) hne _, fun i hi => ownsRow_setCell_other (h2 i hi) (a := ⟨q, j, none⟩) (own_ne2 (h2 i hi) hq (by decide)) _⟩
theorem SpOwn.ne {w : World} {base : Nat} {v : Value} {l : List Spn} (h : SpOwn w base v l) {q : Nat} (hq : w.heap.size ≤ q) : v.ownBlock ≠ some q := by
  obtain ⟨vs, hv, h1, h2⟩ := h
  intro e
  have := (h1.lt _ e).2
  omega
theorem SpOwn.len {w : World} {base : Nat} {v : Value} {l : List Spn} (h : SpOwn w base v l) : ∃ A c, v = .slice A l.length c := by
  obtain ⟨vs, hv, h1, h2⟩ := h
  obtain ⟨A, c, e, _⟩ := ownsRow_lies h1
  exact ⟨A, c, e⟩
set_option maxHeartbeats 32000000 in
set_option maxRecDepth 100000 in
theorem refCopySpans_any {A : Option Addr} {n c : Nat} {l : List Spn} {w : World} (h : LS w A n c l) :
    Calls Try.prog 17 #[.slice A n c] w fun e w' => ∃ v, e = .returned v ∧ SpOwn w' w.heap.size v l ∧ Below w.heap.size w w' := by
  have HN := Lib.hid h.len
  have HL := Lib.hid h
  have hlim : n ≤ 1256584717421 := by rw [h.len]; exact h.lim
  have hb0 := bel0 w
  clear h
  go_enter Try.func17, Try.ntmps17
  go_wp2_with fail
  go_loopw [3, 4] (fun v i wr => ∃ (vo : Value) (k : Nat), vo = v ∧ k ≤ n ∧ i = .int .i64 k ∧ Hid (SpOwn wr w.heap.size vo (l.take k)) ∧ Below w.heap.size w wr) (fun _ i _ => n - (intOf i).toNat)
  case atStart => exact ⟨_, 0, rfl, Nat.zero_le _, rfl, Lib.hid (SpOwn.nil _ _), hb0⟩
  case round =>
    clear hb0
    obtain ⟨vo, k, rfl, hk, rfl, HO, hb⟩ := hrel
    by_cases hlt : k < n
    · have hl1 : k < l.length := by rw [← HN.out]; exact hlt
      obtain ⟨g, o, P, m1, d1, hA, hAS, y0, y1, y2, y3, y4, y5, y6, y7, y8⟩ := HL.out.cellsAt hb hl1
      subst hA
      have haa : (⟨g, o, none⟩ : Addr).add (k * 9) = ⟨g, o + k * 9, none⟩ := addr_add _ _ _
      have HTL := Lib.hid (show l.take (k + 1) = l.take k ++ [l[k]] from List.take_succ_eq_append_getElem hl1)
      have htl : (l.take k).length = k := by rw [List.length_take]; omega
      have HTK := Lib.hid htl
      clear htl
      have hbx := bel1 wr (.cells #[.int .i64 l[k].tr, .int .i64 l[k].id, .int .i64 l[k].pa, .string l[k].sv, .string l[k].op, .int .i64 l[k].st, .int .i64 l[k].ln, .string l[k].sj, .slice P m1 d1] 32)
      have X := Lib.hid (BSp.new wr l[k] (.slice P m1 d1))
      have hb1 := nx hb hbx
      have HAS := Lib.hid (hAS.below hb1)
      have HO1 := Lib.hid (HO.out.below hbx)
      have HNE := Lib.hid (HO.out.ne (Nat.le_refl _))
      have hwr : w.heap.size ≤ wr.heap.size := hb.size
      obtain ⟨qs, hqs⟩ : ∃ q, q = wr.heap.size := ⟨_, rfl⟩
      obtain ⟨W1, hW⟩ : ∃ W, W = wr.alloc (.cells #[.int .i64 l[k].tr, .int .i64 l[k].id, .int .i64 l[k].pa, .string l[k].sv, .string l[k].op, .int .i64 l[k].st, .int .i64 l[k].ln, .string l[k].sj, .slice P m1 d1] 32) := ⟨_, rfl⟩
      rw [← hW] at X hb1 HAS HO1
      rw [← hqs] at X HNE
      have HW := Lib.hid hW
      have HQ := Lib.hid hqs
      generalize l[k] = s at *
      have hql : w.heap.size ≤ qs := by rw [hqs]; exact hwr
      clear hAS hbx HO hqs hW
      go_wp2_with (first | (at_builtin; rw [← HW.out, ← HQ.out]; refine append_atts rfl (.const (.slice none 0 0)) (.tmp 17) rfl W1.heap.size rfl P m1 d1 s.ats rfl HAS.out (Nat.le_refl _) ?_; intro v3 w3 ho3 hg3; have hb3 := nx hb1 (bel_none hg3); have X3 := Lib.hid (X.out.below (bel_none hg3)); have HO3 := Lib.hid (HO1.out.below (bel_none hg3)); have HV := Lib.hid (ownsRow_base ho3 (Nat.le_trans hwr (by have := hb1.size; have := HW.out; rw [this, World.size_alloc]; omega))); obtain ⟨x0, x1, x2, x3, x4, x5, x6, x7, x8⟩ := X3.out.cells; have hf8 := frozen_of X3.out 8; obtain ⟨A3, n3, c3, rfl, _⟩ : ∃ A4 n4 c4, v3 = .slice A4 n4 c4 ∧ True := (by rcases ho3.2 with ⟨h, _⟩ | ⟨g', cap, cur, h, _⟩ <;> exact ⟨_, _, _, h, trivial⟩); clear ho3 hg3 X HO1 y0 y1 y2 y3 y4 y5 y6 y7 y8 hb1; have X4 := Lib.hid (X3.out.put8 (.slice A3 n3 c3)); have HO4 := Lib.hid (HO3.out.setCell X3.out HNE.out 8 (.slice A3 n3 c3)); have HV4 := Lib.hid (ownsRow_setCell_other HV.out (a := ⟨qs, 8, none⟩) (own_ne2 HV.out X3.out (by decide)) (.slice A3 n3 c3)); have hb4 := hb3.setCell (p := ⟨qs, 8, none⟩) hql (.slice A3 n3 c3); have hz4 : (w3.setCell ⟨qs, 8, none⟩ (.slice A3 n3 c3)).heap.size = w3.heap.size := World.size_setCell _ _ _; clear HV HO3) | (at_builtin; refine append_sp rfl (.tmp 20) (.tmp 22) rfl w.heap.size vo (l.take k) s (.slice A3 n3 c3) rfl (HO4.out.below (bel1 _ _)) (ownsRow_below HV4.out (bel1 _ _)) w3.heap.size rfl (by have := BSp.new (w3.setCell ⟨qs, 8, none⟩ (.slice A3 n3 c3)) s (.slice A3 n3 c3); rw [hz4] at this; exact this) (by rw [HTK.out]; omega) (by rw [World.size_alloc, hz4]; exact Nat.le_succ_of_le hb3.size) ?_; intro v5 w5 ho5 hg5 hv5; have hb5 := grown_below (hb4.alloc (by rw [hz4]; exact hb3.size) _) hg5 hv5; have HO5 := Lib.hid ho5; clear ho5 hg5 hv5))
      exact ⟨⟨_, k + 1, rfl, by omega, by go_num, by rw [HTL.out]; exact HO5, hb5⟩, by simp [intOf]; omega⟩
    · obtain rfl : k = n := by omega
      have h := HO.out
      rw [show l.take k = l from List.take_of_length_le (by rw [HN.out]; exact Nat.le_refl _)] at h
      have HO2 := Lib.hid h
      clear h
      go_wp2_with fail
      go_ret
      exact ⟨_, rfl, HO2.out, hb⟩

/-- A cell far below is overwritten. -/
theorem SpOwn.far {w : World} {base : Nat} {v : Value} {l : List Spn} (h : SpOwn w base v l) {q : Nat} (hq : q < base) (j : Nat) (x : Value) : SpOwn (w.setCell ⟨q, j, none⟩ x) base v l := by
  obtain ⟨vs, hv, h1, h2⟩ := h
  exact ⟨vs, hv, ownsRow_setCell_other h1 (a := ⟨q, j, none⟩) (fun e => by have := (h1.lt _ e).1; simp only at this; omega) _, fun i hi => ownsRow_setCell_other (h2 i hi) (a := ⟨q, j, none⟩) (fun e => by have := ((h2 i hi).lt _ e).1; simp only at this; omega) _⟩
theorem SpOwn.base {w : World} {base base' : Nat} {v : Value} {l : List Spn} (h : SpOwn w base v l) (hb : base' ≤ base) (_ : base' ≤ w.heap.size) : SpOwn w base' v l := by
  obtain ⟨vs, hv, h1, h2⟩ := h
  exact ⟨vs, hv, ownsRow_base h1 hb, fun i hi => ownsRow_base (h2 i hi) hb⟩
set_option maxHeartbeats 16000000 in
set_option maxRecDepth 100000 in
theorem refCopy_any {A : Option Addr} {n c : Nat} {b : Bat} {w : World} (h : LS w A n c b.sp) :
    Calls Try.prog 8 #[.agg #[.int .i64 b.ag, .int .i64 b.sq, .slice A n c]] w fun e w' => ∃ v, e = .returned (.agg #[.int .i64 b.ag, .int .i64 b.sq, v]) ∧ SpOwn w' w.heap.size v b.sp ∧ Below w.heap.size w w' := by
  have hb2 := nx (bel1 w (.cells #[.int .i64 b.ag, .int .i64 b.sq, .slice A n c] 24)) (bel1 (w.alloc (.cells #[.int .i64 b.ag, .int .i64 b.sq, .slice A n c] 24)) (.cells #[.int .i64 0, .int .i64 0, .slice none 0 0] 24))
  have BT := alloc_block (o := .cells #[.int .i64 0, .int .i64 0, .slice none 0 0] 24) (heap_alloc_new w (.cells #[.int .i64 b.ag, .int .i64 b.sq, .slice A n c] 24))
  have BR := heap_alloc_new (w.alloc (.cells #[.int .i64 b.ag, .int .i64 b.sq, .slice A n c] 24)) (.cells #[.int .i64 0, .int .i64 0, .slice none 0 0] 24)
  rw [World.size_alloc] at BR
  have C := Lib.hid (refCopySpans_any (h.below hb2))
  clear h
  go_enter Try.func8, Try.ntmps8
  go_wp2_with fail
  refine C.out.mono ?_
  rintro e w3 ⟨v, rfl, ho, hb3⟩
  have BT3 := (hb3.block _ (Array.getElem?_eq_some_iff.1 BT).1).trans BT
  have BR3 := (hb3.block _ (Array.getElem?_eq_some_iff.1 BR).1).trans BR
  have hb13 := nx hb2 hb3
  have HB := Lib.hid hb13
  have HO := Lib.hid ho
  have hz2 : w.heap.size + 1 + 1 ≤ w3.heap.size := by have := hb3.size; rw [World.size_alloc, World.size_alloc] at this; exact this
  obtain ⟨A3, c3, e3⟩ := ho.len
  subst e3
  have x0 := cell_of BT3 0
  have x1 := cell_of BT3 1
  have x2 := cell_of BT3 2
  have f2 := frozen_of BT3 2
  have y0 := cell_of BR3 0
  have y1 := cell_of BR3 1
  have y2 := cell_of BR3 2
  have g0 := frozen_of BR3 0
  have g1 := frozen_of BR3 1
  have g2 := frozen_of BR3 2
  simp at x0 x1 x2 y0 y1 y2
  clear BT BR hb2 hb3 hb13 ho C
  go_wp2_with fail
  obtain ⟨W, hW⟩ : ∃ W, W = (((w3.setCell ⟨w.heap.size, 2, none⟩ (.slice A3 b.sp.length c3)).setCell ⟨w.heap.size + 1, 0, none⟩ (.int .i64 b.ag)).setCell ⟨w.heap.size + 1, 1, none⟩ (.int .i64 b.sq)).setCell ⟨w.heap.size + 1, 2, none⟩ (.slice A3 b.sp.length c3) := ⟨_, rfl⟩
  have B1 : (w3.setCell ⟨w.heap.size, 2, none⟩ (.slice A3 b.sp.length c3)).heap[w.heap.size + 1]? = some (.cells #[.int .i64 0, .int .i64 0, .slice none 0 0] 24 (0, 0)) := (Below.heap_setCell w3 ⟨w.heap.size, 2, none⟩ _ (w.heap.size + 1) (by simp)).trans BR3
  have B4 : W.heap[w.heap.size + 1]? = some (.cells #[.int .i64 b.ag, .int .i64 b.sq, .slice A3 b.sp.length c3] 24 (0, 0)) := by
    rw [hW]
    exact heap_set (heap_set (heap_set B1 0 _) 1 _) 2 _
  have hBW : Below w.heap.size w W := by
    rw [hW]
    exact (((HB.out.setCell (p := ⟨w.heap.size, 2, none⟩) (Nat.le_refl _) _).setCell (p := ⟨w.heap.size + 1, 0, none⟩) (Nat.le_succ _) _).setCell (p := ⟨w.heap.size + 1, 1, none⟩) (Nat.le_succ _) _).setCell (p := ⟨w.heap.size + 1, 2, none⟩) (Nat.le_succ _) _
  have hOW : SpOwn W w.heap.size (.slice A3 b.sp.length c3) b.sp := by
    rw [hW]
    have hk := HO.out
    rw [World.size_alloc, World.size_alloc] at hk
    exact (((hk.far (by omega) 2 _).far (by omega) 0 _).far (by omega) 1 _).far (by omega) 2 _ |>.base (by omega) (by
      rw [World.size_setCell, World.size_setCell, World.size_setCell, World.size_setCell]; omega)
  rw [← hW]
  have d0 := cell_of B4 0
  have d1 := cell_of B4 1
  have d2 := cell_of B4 2
  simp at d0 d1 d2
  clear hW B1 B4 x0 x1 x2 y0 y1 y2 f2 g0 g1 g2 BT3 BR3
  refine bodyPost_ret (by simp [results, Try.results8, go_sem, d0, d1, d2]; try rfl) rfl ?_
  exact ⟨_, rfl, hOW, hBW⟩
end Go.Proofs.Ytbhfbpaaghpadaa
/- The memory in the middle of the document's Parse of a batch. No conditions. -/
set_option linter.unusedSimpArgs false
set_option linter.unusedVariables false
namespace Go.Proofs.Ytbhfbpaaghpadaa
open Go.RowKit

theorem SpOwn.grown {w w' : World} {base : Nat} {v : Value} {l : List Spn} {g : Nat} (h : SpOwn w base v l) (hg : w.grownBy w' (some g)) (hb : g < base) : SpOwn w' base v l := by
  obtain ⟨vs, hv, h1, h2⟩ := h
  exact ⟨vs, hv, own_far h1 hg (fun k hk e => by injection e with e; have := (h1.lt k hk).1; omega), fun i hi => own_far (h2 i hi) hg (fun k hk e => by injection e with e; have := ((h2 i hi).lt k hk).1; omega)⟩
/-- A batch in a block: its numbers, its spans. -/
def BtS (w : World) (q base : Nat) (a s : Int) (l : List Spn) : Prop := ∃ v, w.heap[q]? = some (.cells #[.int .i64 a, .int .i64 s, v] 24 (0, 0)) ∧ SpOwn w base v l
theorem BtS.below {w w' : World} {q base : Nat} {a s : Int} {l : List Spn} (h : BtS w q base a s l) (hb : Below w.heap.size w w') : BtS w' q base a s l := by
  obtain ⟨v, h1, h2⟩ := h
  exact ⟨v, (hb.block _ (Array.getElem?_eq_some_iff.1 h1).1).trans h1, h2.below hb⟩
theorem BtS.grown {w w' : World} {q base g : Nat} {a s : Int} {l : List Spn} (h : BtS w q base a s l) (hg : w.grownBy w' (some g)) (hb : g < base) (hq : q ≠ g) : BtS w' q base a s l := by
  obtain ⟨v, h1, h2⟩ := h
  exact ⟨v, (hg.block _ (Array.getElem?_eq_some_iff.1 h1).1 (fun e => hq (by injection e))).trans h1, h2.grown hg hb⟩
theorem BSp.grown {w w' : World} {q g : Nat} {s : Spn} {v : Value} (h : BSp w q s v) (hg : w.grownBy w' (some g)) (hq : q ≠ g) : BSp w' q s v := (hg.block _ (Array.getElem?_eq_some_iff.1 h).1 (fun e => hq (by injection e))).trans h
theorem SpOwn.ne2 {w : World} {base : Nat} {v : Value} {l : List Spn} (h : SpOwn w base v l) {q : Nat} {c : Array Value} {t : TypeId} {mk : Nat × Nat} (hq : w.heap[q]? = some (.cells c t mk)) (ht : t ≠ 32) : v.ownBlock ≠ some q := by
  obtain ⟨vs, hv, h1, h2⟩ := h
  exact own_ne2 h1 hq ht
end Go.Proofs.Ytbhfbpaaghpadaa
/- The document's Parse of a batch: its contract. No conditions. -/
set_option linter.unusedSimpArgs false
set_option linter.unusedVariables false
namespace Go.Proofs.Ytbhfbpaaghpadaa
open Go.RowKit

/-- A batch that was read, or none. -/
def PrR (w w' : World) (e : Ending) (x : Bat × Int) : Prop := ∃ v, e = .returned (.tuple #[.agg #[.int .i64 x.1.ag, .int .i64 x.1.sq, v], .int .i64 x.2]) ∧ SpOwn w' w.heap.size v x.1.sp ∧ Below w.heap.size w w'
end Go.Proofs.Ytbhfbpaaghpadaa
