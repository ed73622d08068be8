/- The document's Copy of a batch: and that its spans' attributes lie apart. No conditions. -/
import Derived.Test.YtbhfbpaaghpadaaGC28
set_option linter.unusedSimpArgs false
set_option linter.unusedVariables false
namespace Go.Proofs.Ytbhfbpaaghpadaa
open Go.RowKit

def DOwnT (w : World) (T base : Nat) (v : Value) (l : List Spn) : Prop := ∃ vs : List Value, ∃ hv : vs.length = l.length, w.ownsRow base 32 9 v l.length (spc l vs) ∧ (∀ i (h : i < l.length), w.ownsRow base 46 6 (vs[i]'(by omega)) l[i].ats.length (acs l[i].ats)) ∧ (∀ i k (h : i < vs.length), vs[i].ownBlock = some k → k < T) ∧ ∀ i j k (hi : i < vs.length) (hj : j < vs.length), i ≠ j → vs[i].ownBlock = some k → vs[j].ownBlock ≠ some k
def DOwn (w : World) (base : Nat) (v : Value) (l : List Spn) : Prop := ∃ T, DOwnT w T base v l
theorem DOwnT.sp {w : World} {T base : Nat} {v : Value} {l : List Spn} (h : DOwnT w T base v l) : SpOwn w base v l := by
  obtain ⟨vs, hv, h1, h2, _⟩ := h
  exact ⟨vs, hv, h1, h2⟩
theorem DOwn.sp {w : World} {base : Nat} {v : Value} {l : List Spn} (h : DOwn w base v l) : SpOwn w base v l := by
  obtain ⟨T, h⟩ := h
  exact h.sp
theorem DOwn.nil (w : World) (base : Nat) : DOwn w base (.slice none 0 0) [] := ⟨0, [], rfl, World.ownsRow_nil _ _ _ _, fun i h => absurd h (by simp), fun i k h => absurd h (by simp), fun i j k h => absurd h (by simp)⟩
theorem DOwn.top {w : World} {base : Nat} {v : Value} {l : List Spn} (h : DOwn w base v l) : DOwnT w w.heap.size base v l := by
  obtain ⟨T, vs, hv, h1, h2, h3, h4⟩ := h
  exact ⟨vs, hv, h1, h2, fun i k hi hk => ((h2 i (by omega)).lt k hk).2, h4⟩
theorem DOwnT.map {w w' : World} {T base base' : Nat} {v : Value} {l : List Spn} (h : DOwnT w T base v l) (hr : ∀ t sz u n xs, (∀ k, u.ownBlock = some k → True) → (u = v ∧ t = 32 ∨ t = 46) → w.ownsRow base t sz u n xs → w'.ownsRow base' t sz u n xs) : DOwnT w' T base' v l := by
  obtain ⟨vs, hv, h1, h2, h3, h4⟩ := h
  exact ⟨vs, hv, hr _ _ _ _ _ (fun _ _ => trivial) (.inl ⟨rfl, rfl⟩) h1, fun i hi => hr _ _ _ _ _ (fun _ _ => trivial) (.inr rfl) (h2 i hi), h3, h4⟩
theorem DOwnT.below {w w' : World} {T base : Nat} {v : Value} {l : List Spn} (h : DOwnT w T base v l) (hb : Below w.heap.size w w') : DOwnT w' T base v l := h.map fun _ _ _ _ _ _ _ ho => ownsRow_below ho hb
theorem DOwn.below {w w' : World} {base : Nat} {v : Value} {l : List Spn} (h : DOwn w base v l) (hb : Below w.heap.size w w') : DOwn w' base v l := by
  obtain ⟨T, h⟩ := h
  exact ⟨T, h.below hb⟩
theorem DOwnT.setCell {w : World} {T base : Nat} {v : Value} {l : List Spn} (h : DOwnT w T base v l) {q : Nat} {s : Spn} {u : Value} (hq : BSp w q s u) (hne : v.ownBlock ≠ some q) (j : Nat) (x : Value) : DOwnT (w.setCell ⟨q, j, none⟩ x) T base v l := h.map fun t sz y n xs _ ht ho => by
  refine ownsRow_setCell_other ho (a := ⟨q, j, none⟩) ?_ _
  rcases ht with ⟨e, _⟩ | e
  · rw [e]; exact hne
  · subst e; exact own_ne2 ho hq (by decide)
theorem DOwn.setCell {w : World} {base : Nat} {v : Value} {l : List Spn} (h : DOwn w base v l) {q : Nat} {s : Spn} {u : Value} (hq : BSp w q s u) (hne : v.ownBlock ≠ some q) (j : Nat) (x : Value) : DOwn (w.setCell ⟨q, j, none⟩ x) base v l := by
  obtain ⟨T, h⟩ := h
  exact ⟨T, h.setCell hq hne j x⟩
theorem DOwn.ne {w : World} {base : Nat} {v : Value} {l : List Spn} (h : DOwn w base v l) {q : Nat} (hq : w.heap.size ≤ q) : v.ownBlock ≠ some q := h.sp.ne hq
theorem DOwn.len {w : World} {base : Nat} {v : Value} {l : List Spn} (h : DOwn w base v l) : ∃ A c, v = .slice A l.length c := h.sp.len
theorem DOwn.far {w : World} {base : Nat} {v : Value} {l : List Spn} (h : DOwn w base v l) {q : Nat} (hq : q < base) (j : Nat) (x : Value) : DOwn (w.setCell ⟨q, j, none⟩ x) base v l := by
  obtain ⟨T, h⟩ := h
  exact ⟨T, h.map fun t sz y n xs _ _ ho => ownsRow_setCell_other ho (a := ⟨q, j, none⟩) (fun e => by have := (ho.lt _ e).1; simp only at this; omega) _⟩
theorem DOwn.base {w : World} {base base' : Nat} {v : Value} {l : List Spn} (h : DOwn w base v l) (hb : base' ≤ base) (_ : base' ≤ w.heap.size) : DOwn w base' v l := by
  obtain ⟨T, h⟩ := h
  exact ⟨T, h.map fun t sz y n xs _ _ ho => ownsRow_base ho hb⟩
theorem append_dsp {w : World} {ops : Array Oper} {rest : List Oper} {o : Oper} {a : Act} {Q : Exit → Act → World → Prop} (hgd : o.guard = none) (s x : Operand)
    (ho : o.op = .call { callee := .builtin .append, args := #[s, x], argTypes := #[22, 22] })
    {T : Nat} (base : Nat) (v : Value) (l : List Spn) (b : Spn) (u : Value) (hs : a.eval s = v) (hown : DOwnT w T base v l) (hap : ∀ k, u.ownBlock = some k → T ≤ k) (hu : w.ownsRow base 46 6 u b.ats.length (acs b.ats))
    (g : Nat) (hx : a.eval x = .slice (some ⟨g, 0, none⟩) 1 1) (hm : BSp w g b u) (hb : l.length + 1 ≤ 1256584717421) (hbase : base ≤ w.heap.size)
    (h : ∀ v' w', DOwn w' base v' (l ++ [b]) → w.grownBy w' v.ownBlock → (∀ k, v.ownBlock = some k → base ≤ k) → wpList Try.prog ops Q rest (a.put o.dst v') w') :
    wpList Try.prog ops Q (o :: rest) a w :=
  wpList_plain hgd fun _ hK => by
    obtain ⟨vs, hv, h1, h2, h6, h7⟩ := hown
    have huc : u.oneCell' = true := by rcases hu.2 with ⟨e, _⟩ | ⟨_, _, _, e, _⟩ <;> rw [e] <;> rfl
    refine wp_append_any s x _ ho base 32 _ 9 112 Try.underlying22 infoSpn rfl (by decide) v l.length (spc l vs) hs h1 _ 1 1 (b.cells u) hx (by simp) (by omega) rfl ?_ (spn_oneCell b huc) (by unfold maxLen; omega) (by omega) hbase ?_
    · intro i hi
      refine ⟨_, rfl, ?_⟩
      rw [addr_add, Nat.zero_add, cell_of hm i]
      show ((b.cells u).toArray)[i]? = _
      rw [List.getElem?_toArray]
      exact List.getElem?_eq_getElem hi
    · intro v' w' h3 h4 h5
      refine hK _ _ (h v' w' ⟨w'.heap.size, vs ++ [u], by simp [hv], ?_, ?cA, ?_, ?_⟩ h4 (fun k hk => (h1.lt k hk).1))
      case cA =>
        intro i hi
        have hfar : ∀ (y : Value) (n : Nat) (xs : List Value), w.ownsRow base 46 6 y n xs → w'.ownsRow base 46 6 y n xs := fun y n xs hy => own_far hy h4 (fun k hk => own_types hy h1 (by decide) hk)
        by_cases hil : i < l.length
        · rw [List.getElem_append_left (by omega)]
          have e : (l ++ [b])[i] = l[i] := List.getElem_append_left hil
          rw [e]
          exact hfar _ _ _ (h2 i hil)
        · have hi2 : i = l.length := by rw [List.length_append, List.length_cons, List.length_nil] at hi; omega
          subst hi2
          have e : (l ++ [b])[l.length]'hi = b := by simp
          have e2 : (vs ++ [u])[l.length]'(by simp [hv]) = u := by simp [← hv]
          rw [e2, e]
          exact hfar _ _ _ hu
      · rw [spc_snoc l vs b u hv]
        simpa using h3
      · intro i k hi hk
        by_cases hil : i < vs.length
        · rw [List.getElem_append_left hil] at hk
          have := ((h2 i (by omega)).lt k hk).2
          have := h4.size
          omega
        · have hi2 : i = vs.length := by rw [List.length_append, List.length_cons, List.length_nil] at hi; omega
          subst hi2
          simp at hk
          have := (hu.lt k hk).2
          have := h4.size
          omega
      · intro i j k hi hj hij hk hk2
        rw [List.length_append, List.length_cons, List.length_nil] at hi hj
        by_cases hil : i < vs.length
        · rw [List.getElem_append_left hil] at hk
          by_cases hjl : j < vs.length
          · rw [List.getElem_append_left hjl] at hk2
            exact h7 i j k hil hjl hij hk hk2
          · obtain rfl : j = vs.length := by omega
            simp at hk2
            have := hap k hk2
            have := h6 i k hil hk
            omega
        · obtain rfl : i = vs.length := by omega
          simp at hk
          have hjl : j < vs.length := by omega
          rw [List.getElem_append_left hjl] at hk2
          have := hap k hk
          have := h6 j k hjl hk2
          omega
set_option maxHeartbeats 32000000 in
set_option maxRecDepth 100000 in
theorem refCopySpans2_any {A : Option Addr} {n c : Nat} {l : List Spn} {w : World} (h : LS w A n c l) :
    Calls Try.prog 17 #[.slice A n c] w fun e w' => ∃ v, e = .returned v ∧ DOwn w' w.heap.size v l ∧ Below w.heap.size w w' := by
  have HN := Lib.hid h.len
  have HL := Lib.hid h
  have hlim : n ≤ 1256584717421 := by rw [h.len]; exact h.lim
  have hb0 := bel0 w
  clear h
  go_enter Try.func17, Try.ntmps17
  go_wp2_with fail
  go_loopw [3, 4] (fun v i wr => ∃ (vo : Value) (k : Nat), vo = v ∧ k ≤ n ∧ i = .int .i64 k ∧ Hid (DOwn wr w.heap.size vo (l.take k)) ∧ Below w.heap.size w wr) (fun _ i _ => n - (intOf i).toNat)
  case atStart => exact ⟨_, 0, rfl, Nat.zero_le _, rfl, Lib.hid (DOwn.nil _ _), hb0⟩
  case round =>
    clear hb0
    obtain ⟨vo, k, rfl, hk, rfl, HO, hb⟩ := hrel
    by_cases hlt : k < n
    · have hl1 : k < l.length := by rw [← HN.out]; exact hlt
      obtain ⟨g, o, P, m1, d1, hA, hAS, y0, y1, y2, y3, y4, y5, y6, y7, y8⟩ := HL.out.cellsAt hb hl1
      subst hA
      have haa : (⟨g, o, none⟩ : Addr).add (k * 9) = ⟨g, o + k * 9, none⟩ := addr_add _ _ _
      have HTL := Lib.hid (show l.take (k + 1) = l.take k ++ [l[k]] from List.take_succ_eq_append_getElem hl1)
      have htl : (l.take k).length = k := by rw [List.length_take]; omega
      have HTK := Lib.hid htl
      clear htl
      have hbx := bel1 wr (.cells #[.int .i64 l[k].tr, .int .i64 l[k].id, .int .i64 l[k].pa, .string l[k].sv, .string l[k].op, .int .i64 l[k].st, .int .i64 l[k].ln, .string l[k].sj, .slice P m1 d1] 32)
      have X := Lib.hid (BSp.new wr l[k] (.slice P m1 d1))
      have hb1 := nx hb hbx
      have HAS := Lib.hid (hAS.below hb1)
      have HO1 := Lib.hid (HO.out.below hbx)
      have HNE := Lib.hid (HO.out.ne (Nat.le_refl _))
      have hwr : w.heap.size ≤ wr.heap.size := hb.size
      obtain ⟨qs, hqs⟩ : ∃ q, q = wr.heap.size := ⟨_, rfl⟩
      obtain ⟨W1, hW⟩ : ∃ W, W = wr.alloc (.cells #[.int .i64 l[k].tr, .int .i64 l[k].id, .int .i64 l[k].pa, .string l[k].sv, .string l[k].op, .int .i64 l[k].st, .int .i64 l[k].ln, .string l[k].sj, .slice P m1 d1] 32) := ⟨_, rfl⟩
      rw [← hW] at X hb1 HAS HO1
      rw [← hqs] at X HNE
      have HW := Lib.hid hW
      have HQ := Lib.hid hqs
      generalize l[k] = s at *
      have hql : w.heap.size ≤ qs := by rw [hqs]; exact hwr
      clear hAS hbx HO hqs hW
      go_wp2_with (first | (at_builtin; rw [← HW.out, ← HQ.out]; refine append_atts rfl (.const (.slice none 0 0)) (.tmp 17) rfl W1.heap.size rfl P m1 d1 s.ats rfl HAS.out (Nat.le_refl _) ?_; intro v3 w3 ho3 hg3; have hb3 := nx hb1 (bel_none hg3); have X3 := Lib.hid (X.out.below (bel_none hg3)); have HO3 := Lib.hid (HO1.out.top.below (bel_none hg3)); have HAP := Lib.hid (show ∀ k, v3.ownBlock = some k → W1.heap.size ≤ k from fun k hk => (ho3.lt k hk).1); have HV := Lib.hid (ownsRow_base ho3 (Nat.le_trans hwr (by have := hb1.size; have := HW.out; rw [this, World.size_alloc]; omega))); obtain ⟨x0, x1, x2, x3, x4, x5, x6, x7, x8⟩ := X3.out.cells; have hf8 := frozen_of X3.out 8; obtain ⟨A3, n3, c3, rfl, _⟩ : ∃ A4 n4 c4, v3 = .slice A4 n4 c4 ∧ True := (by rcases ho3.2 with ⟨h, _⟩ | ⟨g', cap, cur, h, _⟩ <;> exact ⟨_, _, _, h, trivial⟩); clear ho3 hg3 X HO1 y0 y1 y2 y3 y4 y5 y6 y7 y8 hb1; have X4 := Lib.hid (X3.out.put8 (.slice A3 n3 c3)); have HO4 := Lib.hid (HO3.out.setCell X3.out HNE.out 8 (.slice A3 n3 c3)); have HV4 := Lib.hid (ownsRow_setCell_other HV.out (a := ⟨qs, 8, none⟩) (own_ne2 HV.out X3.out (by decide)) (.slice A3 n3 c3)); have hb4 := hb3.setCell (p := ⟨qs, 8, none⟩) hql (.slice A3 n3 c3); have hz4 : (w3.setCell ⟨qs, 8, none⟩ (.slice A3 n3 c3)).heap.size = w3.heap.size := World.size_setCell _ _ _; clear HV HO3) | (at_builtin; refine append_dsp rfl (.tmp 20) (.tmp 22) rfl w.heap.size vo (l.take k) s (.slice A3 n3 c3) rfl (HO4.out.below (bel1 _ _)) HAP.out (ownsRow_below HV4.out (bel1 _ _)) w3.heap.size rfl (by have := BSp.new (w3.setCell ⟨qs, 8, none⟩ (.slice A3 n3 c3)) s (.slice A3 n3 c3); rw [hz4] at this; exact this) (by rw [HTK.out]; omega) (by rw [World.size_alloc, hz4]; exact Nat.le_succ_of_le hb3.size) ?_; intro v5 w5 ho5 hg5 hv5; have hb5 := grown_below (hb4.alloc (by rw [hz4]; exact hb3.size) _) hg5 hv5; have HO5 := Lib.hid ho5; clear ho5 hg5 hv5))
      exact ⟨⟨_, k + 1, rfl, by omega, by go_num, by rw [HTL.out]; exact HO5, hb5⟩, by simp [intOf]; omega⟩
    · obtain rfl : k = n := by omega
      have h := HO.out
      rw [show l.take k = l from List.take_of_length_le (by rw [HN.out]; exact Nat.le_refl _)] at h
      have HO2 := Lib.hid h
      clear h
      go_wp2_with fail
      go_ret
      exact ⟨_, rfl, HO2.out, hb⟩

set_option maxHeartbeats 16000000 in
set_option maxRecDepth 100000 in
theorem refCopy2_any {A : Option Addr} {n c : Nat} {b : Bat} {w : World} (h : LS w A n c b.sp) :
    Calls Try.prog 8 #[.agg #[.int .i64 b.ag, .int .i64 b.sq, .slice A n c]] w fun e w' => ∃ v, e = .returned (.agg #[.int .i64 b.ag, .int .i64 b.sq, v]) ∧ DOwn w' w.heap.size v b.sp ∧ Below w.heap.size w w' := by
  have hb2 := nx (bel1 w (.cells #[.int .i64 b.ag, .int .i64 b.sq, .slice A n c] 24)) (bel1 (w.alloc (.cells #[.int .i64 b.ag, .int .i64 b.sq, .slice A n c] 24)) (.cells #[.int .i64 0, .int .i64 0, .slice none 0 0] 24))
  have BT := alloc_block (o := .cells #[.int .i64 0, .int .i64 0, .slice none 0 0] 24) (heap_alloc_new w (.cells #[.int .i64 b.ag, .int .i64 b.sq, .slice A n c] 24))
  have BR := heap_alloc_new (w.alloc (.cells #[.int .i64 b.ag, .int .i64 b.sq, .slice A n c] 24)) (.cells #[.int .i64 0, .int .i64 0, .slice none 0 0] 24)
  rw [World.size_alloc] at BR
  have C := Lib.hid (refCopySpans2_any (h.below hb2))
  clear h
  go_enter Try.func8, Try.ntmps8
  go_wp2_with fail
  refine C.out.mono ?_
  rintro e w3 ⟨v, rfl, ho, hb3⟩
  have BT3 := (hb3.block _ (Array.getElem?_eq_some_iff.1 BT).1).trans BT
  have BR3 := (hb3.block _ (Array.getElem?_eq_some_iff.1 BR).1).trans BR
  have hb13 := nx hb2 hb3
  have HB := Lib.hid hb13
  have HO := Lib.hid ho
  have hz2 : w.heap.size + 1 + 1 ≤ w3.heap.size := by have := hb3.size; rw [World.size_alloc, World.size_alloc] at this; exact this
  obtain ⟨A3, c3, e3⟩ := ho.len
  subst e3
  have x0 := cell_of BT3 0
  have x1 := cell_of BT3 1
  have x2 := cell_of BT3 2
  have f2 := frozen_of BT3 2
  have y0 := cell_of BR3 0
  have y1 := cell_of BR3 1
  have y2 := cell_of BR3 2
  have g0 := frozen_of BR3 0
  have g1 := frozen_of BR3 1
  have g2 := frozen_of BR3 2
  simp at x0 x1 x2 y0 y1 y2
  clear BT BR hb2 hb3 hb13 ho C
  go_wp2_with fail
  obtain ⟨W, hW⟩ : ∃ W, W = (((w3.setCell ⟨w.heap.size, 2, none⟩ (.slice A3 b.sp.length c3)).setCell ⟨w.heap.size + 1, 0, none⟩ (.int .i64 b.ag)).setCell ⟨w.heap.size + 1, 1, none⟩ (.int .i64 b.sq)).setCell ⟨w.heap.size + 1, 2, none⟩ (.slice A3 b.sp.length c3) := ⟨_, rfl⟩
  have B1 : (w3.setCell ⟨w.heap.size, 2, none⟩ (.slice A3 b.sp.length c3)).heap[w.heap.size + 1]? = some (.cells #[.int .i64 0, .int .i64 0, .slice none 0 0] 24 (0, 0)) := (Below.heap_setCell w3 ⟨w.heap.size, 2, none⟩ _ (w.heap.size + 1) (by simp)).trans BR3
  have B4 : W.heap[w.heap.size + 1]? = some (.cells #[.int .i64 b.ag, .int .i64 b.sq, .slice A3 b.sp.length c3] 24 (0, 0)) := by
    rw [hW]
    exact heap_set (heap_set (heap_set B1 0 _) 1 _) 2 _
  have hBW : Below w.heap.size w W := by
    rw [hW]
    exact (((HB.out.setCell (p := ⟨w.heap.size, 2, none⟩) (Nat.le_refl _) _).setCell (p := ⟨w.heap.size + 1, 0, none⟩) (Nat.le_succ _) _).setCell (p := ⟨w.heap.size + 1, 1, none⟩) (Nat.le_succ _) _).setCell (p := ⟨w.heap.size + 1, 2, none⟩) (Nat.le_succ _) _
  have hOW : DOwn W w.heap.size (.slice A3 b.sp.length c3) b.sp := by
    rw [hW]
    have hk := HO.out
    rw [World.size_alloc, World.size_alloc] at hk
    exact (((hk.far (by omega) 2 _).far (by omega) 0 _).far (by omega) 1 _).far (by omega) 2 _ |>.base (by omega) (by
      rw [World.size_setCell, World.size_setCell, World.size_setCell, World.size_setCell]; omega)
  rw [← hW]
  have d0 := cell_of B4 0
  have d1 := cell_of B4 1
  have d2 := cell_of B4 2
  simp at d0 d1 d2
  clear hW B1 B4 x0 x1 x2 y0 y1 y2 f2 g0 g1 g2 BT3 BR3
  refine bodyPost_ret (by simp [results, Try.results8, go_sem, d0, d1, d2]; try rfl) rfl ?_
  exact ⟨_, rfl, hOW, hBW⟩
end Go.Proofs.Ytbhfbpaaghpadaa
