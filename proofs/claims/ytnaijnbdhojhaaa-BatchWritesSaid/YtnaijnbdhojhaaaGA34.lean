/- The document's CopySpans, Copy. No conditions. -/
import Derived.Test.YtnaijnbdhojhaaaGA31
import Derived.Test.YtnaijnbdhojhaaaGA33
set_option linter.unusedSimpArgs false
set_option linter.unusedVariables false
namespace Go.Proofs.Ytnaijnbdhojhaaa
open Go.RowKit

theorem BSp.put8 {w : World} {q : Nat} {s : Spn} {v : Value} (h : BSp w q s v) (u : Value) : BSp (w.setCell ⟨q, 8, none⟩ u) q s u := heap_set h 8 u
theorem own_ne2 {w : World} {base : Nat} {t0 : TypeId} {sz : Nat} {v : Value} {n : Nat} {xs : List Value} {q : Nat} {c : Array Value} {t : TypeId} {mk : Nat × Nat} (h : w.ownsRow base t0 sz v n xs) (hq : w.heap[q]? = some (.cells c t mk)) (ht : t ≠ t0) : v.ownBlock ≠ some q := by
  rcases h.2 with ⟨hv, _⟩ | ⟨g, cap, cur, hv, _, hg, _⟩
  · rw [hv]; intro e; cases e
  · rw [hv]
    intro e
    have : g = q := by injection e
    subst this
    rw [hq] at hg
    injection hg with h1
    injection h1 with _ h2 _
    exact ht h2
theorem SpOwn.setCell {w : World} {base : Nat} {v : Value} {l : List Spn} (h : SpOwn w base v l) {q : Nat} {s : Spn} {u : Value} (hq : BSp w q s u) (hne : v.ownBlock ≠ some q) (j : Nat) (x : Value) : SpOwn (w.setCell ⟨q, j, none⟩ x) base v l := by
  obtain ⟨vs, hv, h1, h2⟩ := h
  exact ⟨vs, hv, ownsRow_setCell_other h1 (a := ⟨q, j, none⟩) hne _, fun i hi => ownsRow_setCell_other (h2 i hi) (a := ⟨q, j, none⟩) (own_ne2 (h2 i hi) hq (by decide)) _⟩
theorem SpOwn.ne {w : World} {base : Nat} {v : Value} {l : List Spn} (h : SpOwn w base v l) {q : Nat} (hq : w.heap.size ≤ q) : v.ownBlock ≠ some q := by
  obtain ⟨vs, hv, h1, h2⟩ := h
  intro e
  have := (h1.lt _ e).2
  omega
theorem SpOwn.len {w : World} {base : Nat} {v : Value} {l : List Spn} (h : SpOwn w base v l) : ∃ A c, v = .slice A l.length c := by
  obtain ⟨vs, hv, h1, h2⟩ := h
  obtain ⟨A, c, e, _⟩ := ownsRow_lies h1
  exact ⟨A, c, e⟩
set_option maxHeartbeats 32000000 in
set_option maxRecDepth 100000 in
theorem refCopySpans_any {A : Option Addr} {n c : Nat} {l : List Spn} {w : World} (h : LS w A n c l) :
    Calls Try.prog 45 #[.slice A n c] w fun e w' => ∃ v, e = .returned v ∧ SpOwn w' w.heap.size v l ∧ Below w.heap.size w w' := by
  have HN := Lib.hid h.len
  have HL := Lib.hid h
  have hlim : n ≤ 1256584717421 := by rw [h.len]; exact h.lim
  have hb0 := bel0 w
  clear h
  go_enter Try.func45, Try.ntmps45
  go_wp2_with fail
  go_loopw [3, 4] (fun v i wr => ∃ (vo : Value) (k : Nat), vo = v ∧ k ≤ n ∧ i = .int .i64 k ∧ Hid (SpOwn wr w.heap.size vo (l.take k)) ∧ Below w.heap.size w wr) (fun _ i _ => n - (intOf i).toNat)
  case atStart => exact ⟨_, 0, rfl, Nat.zero_le _, rfl, Lib.hid (SpOwn.nil _ _), hb0⟩
  case round =>
    clear hb0
    obtain ⟨vo, k, rfl, hk, rfl, HO, hb⟩ := hrel
    by_cases hlt : k < n
    · have hl1 : k < l.length := by rw [← HN.out]; exact hlt
      obtain ⟨g, o, P, m1, d1, hA, hAS, y0, y1, y2, y3, y4, y5, y6, y7, y8⟩ := HL.out.cellsAt hb hl1
      subst hA
      have haa : (⟨g, o, none⟩ : Addr).add (k * 9) = ⟨g, o + k * 9, none⟩ := addr_add _ _ _
      have HTL := Lib.hid (show l.take (k + 1) = l.take k ++ [l[k]] from List.take_succ_eq_append_getElem hl1)
      have htl : (l.take k).length = k := by rw [List.length_take]; omega
      have HTK := Lib.hid htl
      clear htl
      have hbx := bel1 wr (.cells #[.int .i64 l[k].tr, .int .i64 l[k].id, .int .i64 l[k].pa, .string l[k].sv, .string l[k].op, .int .i64 l[k].st, .int .i64 l[k].ln, .string l[k].sj, .slice P m1 d1] 42)
      have X := Lib.hid (BSp.new wr l[k] (.slice P m1 d1))
      have hb1 := nx hb hbx
      have HAS := Lib.hid (hAS.below hb1)
      have HO1 := Lib.hid (HO.out.below hbx)
      have HNE := Lib.hid (HO.out.ne (Nat.le_refl _))
      have hwr : w.heap.size ≤ wr.heap.size := hb.size
      obtain ⟨qs, hqs⟩ : ∃ q, q = wr.heap.size := ⟨_, rfl⟩
      obtain ⟨W1, hW⟩ : ∃ W, W = wr.alloc (.cells #[.int .i64 l[k].tr, .int .i64 l[k].id, .int .i64 l[k].pa, .string l[k].sv, .string l[k].op, .int .i64 l[k].st, .int .i64 l[k].ln, .string l[k].sj, .slice P m1 d1] 42) := ⟨_, rfl⟩
      rw [← hW] at X hb1 HAS HO1
      rw [← hqs] at X HNE
      have HW := Lib.hid hW
      have HQ := Lib.hid hqs
      generalize l[k] = s at *
      have hql : w.heap.size ≤ qs := by rw [hqs]; exact hwr
      clear hAS hbx HO hqs hW
      go_wp2_with (first | (at_builtin; rw [← HW.out, ← HQ.out]; refine append_atts rfl (.const (.slice none 0 0)) (.tmp 17) rfl W1.heap.size rfl P m1 d1 s.ats rfl HAS.out (Nat.le_refl _) ?_; intro v3 w3 ho3 hg3; have hb3 := nx hb1 (bel_none hg3); have X3 := Lib.hid (X.out.below (bel_none hg3)); have HO3 := Lib.hid (HO1.out.below (bel_none hg3)); have HV := Lib.hid (ownsRow_base ho3 (Nat.le_trans hwr (by have := hb1.size; have := HW.out; rw [this, World.size_alloc]; omega))); obtain ⟨x0, x1, x2, x3, x4, x5, x6, x7, x8⟩ := X3.out.cells; have hf8 := frozen_of X3.out 8; obtain ⟨A3, n3, c3, rfl, _⟩ : ∃ A4 n4 c4, v3 = .slice A4 n4 c4 ∧ True := (by rcases ho3.2 with ⟨h, _⟩ | ⟨g', cap, cur, h, _⟩ <;> exact ⟨_, _, _, h, trivial⟩); clear ho3 hg3 X HO1 y0 y1 y2 y3 y4 y5 y6 y7 y8 hb1; have X4 := Lib.hid (X3.out.put8 (.slice A3 n3 c3)); have HO4 := Lib.hid (HO3.out.setCell X3.out HNE.out 8 (.slice A3 n3 c3)); have HV4 := Lib.hid (ownsRow_setCell_other HV.out (a := ⟨qs, 8, none⟩) (own_ne2 HV.out X3.out (by decide)) (.slice A3 n3 c3)); have hb4 := hb3.setCell (p := ⟨qs, 8, none⟩) hql (.slice A3 n3 c3); have hz4 : (w3.setCell ⟨qs, 8, none⟩ (.slice A3 n3 c3)).heap.size = w3.heap.size := World.size_setCell _ _ _; clear HV HO3) | (at_builtin; refine append_sp rfl (.tmp 20) (.tmp 22) rfl w.heap.size vo (l.take k) s (.slice A3 n3 c3) rfl (HO4.out.below (bel1 _ _)) (ownsRow_below HV4.out (bel1 _ _)) w3.heap.size rfl (by have := BSp.new (w3.setCell ⟨qs, 8, none⟩ (.slice A3 n3 c3)) s (.slice A3 n3 c3); rw [hz4] at this; exact this) (by rw [HTK.out]; omega) (by rw [World.size_alloc, hz4]; exact Nat.le_succ_of_le hb3.size) ?_; intro v5 w5 ho5 hg5 hv5; have hb5 := grown_below (hb4.alloc (by rw [hz4]; exact hb3.size) _) hg5 hv5; have HO5 := Lib.hid ho5; clear ho5 hg5 hv5))
      exact ⟨⟨_, k + 1, rfl, by omega, by go_num, by rw [HTL.out]; exact HO5, hb5⟩, by simp [intOf]; omega⟩
    · obtain rfl : k = n := by omega
      have h := HO.out
      rw [show l.take k = l from List.take_of_length_le (by rw [HN.out]; exact Nat.le_refl _)] at h
      have HO2 := Lib.hid h
      clear h
      go_wp2_with fail
      go_ret
      exact ⟨_, rfl, HO2.out, hb⟩

/-- A cell far below is overwritten. -/
theorem SpOwn.far {w : World} {base : Nat} {v : Value} {l : List Spn} (h : SpOwn w base v l) {q : Nat} (hq : q < base) (j : Nat) (x : Value) : SpOwn (w.setCell ⟨q, j, none⟩ x) base v l := by
  obtain ⟨vs, hv, h1, h2⟩ := h
  exact ⟨vs, hv, ownsRow_setCell_other h1 (a := ⟨q, j, none⟩) (fun e => by have := (h1.lt _ e).1; simp only at this; omega) _, fun i hi => ownsRow_setCell_other (h2 i hi) (a := ⟨q, j, none⟩) (fun e => by have := ((h2 i hi).lt _ e).1; simp only at this; omega) _⟩
theorem SpOwn.base {w : World} {base base' : Nat} {v : Value} {l : List Spn} (h : SpOwn w base v l) (hb : base' ≤ base) (_ : base' ≤ w.heap.size) : SpOwn w base' v l := by
  obtain ⟨vs, hv, h1, h2⟩ := h
  exact ⟨vs, hv, ownsRow_base h1 hb, fun i hi => ownsRow_base (h2 i hi) hb⟩
set_option maxHeartbeats 16000000 in
set_option maxRecDepth 100000 in
theorem refCopy_any {A : Option Addr} {n c : Nat} {b : Bat} {w : World} (h : LS w A n c b.sp) :
    Calls Try.prog 19 #[.agg #[.int .i64 b.ag, .int .i64 b.sq, .slice A n c]] w fun e w' => ∃ v, e = .returned (.agg #[.int .i64 b.ag, .int .i64 b.sq, v]) ∧ SpOwn w' w.heap.size v b.sp ∧ Below w.heap.size w w' := by
  have hb2 := nx (bel1 w (.cells #[.int .i64 b.ag, .int .i64 b.sq, .slice A n c] 26)) (bel1 (w.alloc (.cells #[.int .i64 b.ag, .int .i64 b.sq, .slice A n c] 26)) (.cells #[.int .i64 0, .int .i64 0, .slice none 0 0] 26))
  have BT := alloc_block (o := .cells #[.int .i64 0, .int .i64 0, .slice none 0 0] 26) (heap_alloc_new w (.cells #[.int .i64 b.ag, .int .i64 b.sq, .slice A n c] 26))
  have BR := heap_alloc_new (w.alloc (.cells #[.int .i64 b.ag, .int .i64 b.sq, .slice A n c] 26)) (.cells #[.int .i64 0, .int .i64 0, .slice none 0 0] 26)
  rw [World.size_alloc] at BR
  have C := Lib.hid (refCopySpans_any (h.below hb2))
  clear h
  go_enter Try.func19, Try.ntmps19
  go_wp2_with fail
  refine C.out.mono ?_
  rintro e w3 ⟨v, rfl, ho, hb3⟩
  have BT3 := (hb3.block _ (Array.getElem?_eq_some_iff.1 BT).1).trans BT
  have BR3 := (hb3.block _ (Array.getElem?_eq_some_iff.1 BR).1).trans BR
  have hb13 := nx hb2 hb3
  have HB := Lib.hid hb13
  have HO := Lib.hid ho
  have hz2 : w.heap.size + 1 + 1 ≤ w3.heap.size := by have := hb3.size; rw [World.size_alloc, World.size_alloc] at this; exact this
  obtain ⟨A3, c3, e3⟩ := ho.len
  subst e3
  have x0 := cell_of BT3 0
  have x1 := cell_of BT3 1
  have x2 := cell_of BT3 2
  have f2 := frozen_of BT3 2
  have y0 := cell_of BR3 0
  have y1 := cell_of BR3 1
  have y2 := cell_of BR3 2
  have g0 := frozen_of BR3 0
  have g1 := frozen_of BR3 1
  have g2 := frozen_of BR3 2
  simp at x0 x1 x2 y0 y1 y2
  clear BT BR hb2 hb3 hb13 ho C
  go_wp2_with fail
  obtain ⟨W, hW⟩ : ∃ W, W = (((w3.setCell ⟨w.heap.size, 2, none⟩ (.slice A3 b.sp.length c3)).setCell ⟨w.heap.size + 1, 0, none⟩ (.int .i64 b.ag)).setCell ⟨w.heap.size + 1, 1, none⟩ (.int .i64 b.sq)).setCell ⟨w.heap.size + 1, 2, none⟩ (.slice A3 b.sp.length c3) := ⟨_, rfl⟩
  have B1 : (w3.setCell ⟨w.heap.size, 2, none⟩ (.slice A3 b.sp.length c3)).heap[w.heap.size + 1]? = some (.cells #[.int .i64 0, .int .i64 0, .slice none 0 0] 26 (0, 0)) := (Below.heap_setCell w3 ⟨w.heap.size, 2, none⟩ _ (w.heap.size + 1) (by simp)).trans BR3
  have B4 : W.heap[w.heap.size + 1]? = some (.cells #[.int .i64 b.ag, .int .i64 b.sq, .slice A3 b.sp.length c3] 26 (0, 0)) := by
    rw [hW]
    exact heap_set (heap_set (heap_set B1 0 _) 1 _) 2 _
  have hBW : Below w.heap.size w W := by
    rw [hW]
    exact (((HB.out.setCell (p := ⟨w.heap.size, 2, none⟩) (Nat.le_refl _) _).setCell (p := ⟨w.heap.size + 1, 0, none⟩) (Nat.le_succ _) _).setCell (p := ⟨w.heap.size + 1, 1, none⟩) (Nat.le_succ _) _).setCell (p := ⟨w.heap.size + 1, 2, none⟩) (Nat.le_succ _) _
  have hOW : SpOwn W w.heap.size (.slice A3 b.sp.length c3) b.sp := by
    rw [hW]
    have hk := HO.out
    rw [World.size_alloc, World.size_alloc] at hk
    exact (((hk.far (by omega) 2 _).far (by omega) 0 _).far (by omega) 1 _).far (by omega) 2 _ |>.base (by omega) (by
      rw [World.size_setCell, World.size_setCell, World.size_setCell, World.size_setCell]; omega)
  rw [← hW]
  have d0 := cell_of B4 0
  have d1 := cell_of B4 1
  have d2 := cell_of B4 2
  simp at d0 d1 d2
  clear hW B1 B4 x0 x1 x2 y0 y1 y2 f2 g0 g1 g2 BT3 BR3
  refine bodyPost_ret (by simp [results, Try.results19, go_sem, d0, d1, d2]; try rfl) rfl ?_
  exact ⟨_, rfl, hOW, hBW⟩
end Go.Proofs.Ytnaijnbdhojhaaa
/- The document's Check, Bytes of a batch: contracts. No conditions. -/
set_option linter.unusedSimpArgs false
set_option linter.unusedVariables false
namespace Go.Proofs.Ytnaijnbdhojhaaa
open Go.RowKit

set_option maxHeartbeats 32000000 in
set_option maxRecDepth 100000 in
theorem refBatCheck_any {A : Option Addr} {n c : Nat} {b : Bat} {w : World} (h : LS w A n c b.sp) :
    Calls Try.prog 24 #[.agg #[.int .i64 b.ag, .int .i64 b.sq, .slice A n c]] w fun e w' => e = .returned (.int .i64 (btP b).2) ∧ Below w.heap.size w w' := by
  have HB1 := Lib.hid (bel1 w (.cells #[.int .i64 b.ag, .int .i64 b.sq, .slice A n c] 26))
  have BT := heap_alloc_new w (.cells #[.int .i64 b.ag, .int .i64 b.sq, .slice A n c] 26)
  have HL := Lib.hid (h.below HB1.out)
  have HN := Lib.hid h.len
  have hnl : n ≤ 1256584717421 := by rw [h.len]; exact h.lim
  have NO := Lib.hid (fun (hn : ¬ OkB b) => show (btP b).2 = 90 by rw [btP_no hn])
  have YES := Lib.hid (fun (hy : OkB b) => show (btP b).2 = 0 by rw [btP_yes hy])
  clear h
  generalize btP b = X0 at *
  obtain ⟨W1, hW⟩ : ∃ W, W = w.alloc (.cells #[.int .i64 b.ag, .int .i64 b.sq, .slice A n c] 26) := ⟨_, rfl⟩
  rw [← hW] at HB1 BT HL
  have HBT := Lib.hid BT
  have z0 := cell_of BT 0
  have z1 := cell_of BT 1
  have z2 := cell_of BT 2
  simp at z0 z1 z2
  clear BT
  go_enter Try.func24, Try.ntmps24
  have HW := Lib.hid hW
  clear hW
  by_cases a1 : 1 ≤ b.ag
  case neg =>
    go_wp2_with fail
    go_ret
    exact ⟨by rw [NO.out (fun h => by have := h.1.ag; omega)]; rfl, by rw [← HW.out]; exact HB1.out⟩
  by_cases a2 : b.ag ≤ 16
  case neg =>
    go_wp2_with fail
    go_ret
    exact ⟨by rw [NO.out (fun h => by have := h.1.ag; omega)]; rfl, by rw [← HW.out]; exact HB1.out⟩
  go_wp2_with fail
  rw [← HW.out]
  refine (refIn_any _ _ _).mono ?_
  rintro e wz ⟨rfl, rfl⟩
  by_cases hs : inM b.sq 1 = true
  case neg =>
    have hf : inM b.sq 1 = false := by simpa using hs
    have hs2 := inM_no hf
    rw [hf]
    go_wp2_with fail
    go_ret
    exact ⟨by rw [NO.out (fun h => hs2 h.1.sq)]; rfl, HB1.out⟩
  rw [hs]
  have s12 := inM_iff.1 hs
  clear hs
  by_cases n1 : 1 ≤ n
  case neg =>
    go_wp2_with fail
    go_ret
    exact ⟨by rw [NO.out (fun h => by have := h.1.n; have := HN.out; omega)]; rfl, HB1.out⟩
  by_cases n2 : n ≤ 16
  case neg =>
    go_wp2_with fail
    go_ret
    exact ⟨by rw [NO.out (fun h => by have := h.1.n; have := HN.out; omega)]; rfl, HB1.out⟩
  have hb0 := bel0 W1
  go_wp2_with fail
  clear z0 z1 z2
  go_loopw [3] (fun i wr => ∃ k : Nat, k ≤ n ∧ i = .int .i64 k ∧ Below W1.heap.size W1 wr ∧ Hid (∀ s ∈ b.sp.take k, OkS s)) (fun i _ => n - (intOf i).toNat)
  case atStart => exact ⟨0, Nat.zero_le _, rfl, hb0, Lib.hid (by simp)⟩
  case round =>
    clear hb0
    obtain ⟨k, hk, rfl, hb, HK⟩ := hrel
    have HBTr := Lib.hid ((hb.block _ (Array.getElem?_eq_some_iff.1 HBT.out).1).trans HBT.out)
    have z0 := cell_of HBTr.out 0
    have z1 := cell_of HBTr.out 1
    have z2 := cell_of HBTr.out 2
    simp at z0 z1 z2
    by_cases hlt : k < n
    · have hlt' : k < b.sp.length := by rw [← HN.out]; exact hlt
      obtain ⟨g1, o1, B, m, d, hA, hAS, y0, y1, y2, y3, y4, y5, y6, y7, y8⟩ := HL.out.cellsAt hb hlt'
      subst hA
      have haa : (⟨g1, o1, none⟩ : Addr).add (k * 9) = ⟨g1, o1 + k * 9, none⟩ := addr_add _ _ _
      have HTK := Lib.hid (show b.sp.take (k + 1) = b.sp.take k ++ [b.sp[k]] from List.take_succ_eq_append_getElem hlt')
      have HMEM := Lib.hid (show b.sp[k] ∈ b.sp from List.getElem_mem hlt')
      have HAS := Lib.hid (hAS.below hb)
      generalize b.sp[k] = s at *
      clear hAS
      go_wp2_with fail
      refine (refCheckSpan_any HAS.out).mono ?_
      rintro r w5 ⟨rfl, hb5⟩
      have hb15 := nx hb hb5
      by_cases hok : OkS s
      · rw [chkS_yes hok]
        go_wp2_with fail
        exact ⟨⟨k + 1, by omega, by go_num, hb15, Lib.hid (by
          intro t ht
          rw [HTK.out] at ht
          rcases List.mem_append.1 ht with ht | ht
          · exact HK.out t ht
          · simp only [List.mem_singleton] at ht
            rw [ht]
            exact hok)⟩, by simp [intOf]; omega⟩
      · rw [chkS_no hok]
        go_wp2_with fail
        go_ret
        exact ⟨by rw [NO.out (fun h => hok (h.1.sp _ HMEM.out))]; rfl, nx HB1.out hb15⟩
    · obtain rfl : k = n := by omega
      have hkn : b.sp.take k = b.sp := List.take_of_length_le (by rw [HN.out]; exact Nat.le_refl _)
      rw [hkn] at HK
      have hnn := HN.out
      have HOC := Lib.hid (show OkC b from ⟨⟨a1, a2⟩, s12, ⟨by omega, by omega⟩, HK.out⟩)
      have HLr := Lib.hid (HL.out.below hb)
      clear hkn hnn HK
      go_wp2_with fail
      refine (refWrite_any HLr.out HOC.out).mono ?_
      rintro r w5 ⟨v, rfl, ho, hb5⟩
      obtain ⟨A5, n5, c5, rfl, hn5⟩ : ∃ A4 n4 c4, v = .slice A4 n4 c4 ∧ n4 = (btB b).length := (by rcases ho.2 with ⟨h, h0⟩ | ⟨g', cap, cur, h, _⟩ <;> exact ⟨_, _, _, h, by first | rfl | (rw [h0])⟩)
      have HN5 := Lib.hid hn5
      have hb15 := nx (nx HB1.out hb) hb5
      clear ho hn5 hb5
      have hn6 : n5 ≤ 10000000 := by
        have h1 := (sps_len (l := b.sp) (fun s hs => ⟨HOC.out.sp s hs, HL.out.pt s hs⟩)).2
        have h2 := uN_len [b.ag, b.sq, (b.sp.length : Int)]
        have h3 : [b.ag, b.sq, (b.sp.length : Int)].length = 3 := rfl
        have h4 := HOC.out.n
        rw [HN5.out]
        unfold btB
        rw [List.length_append]
        omega
      by_cases h8 : n5 ≤ 8192
      · go_wp2_with fail
        go_ret
        exact ⟨by rw [YES.out ⟨HOC.out, by rw [← HN5.out]; exact h8⟩]; rfl, hb15⟩
      · go_wp2_with fail
        go_ret
        exact ⟨by rw [NO.out (fun h => h8 (by rw [HN5.out]; exact h.2))]; rfl, hb15⟩

set_option maxHeartbeats 8000000 in
set_option maxRecDepth 100000 in
theorem refBatBytes_any {A : Option Addr} {n c : Nat} {b : Bat} {w : World} (h : LS w A n c b.sp) :
    Calls Try.prog 22 #[.agg #[.int .i64 b.ag, .int .i64 b.sq, .slice A n c]] w fun e w' => TwoB w w' e (btP b).1 (btP b).2 := by
  have hb1 := bel1 w (.cells #[.int .i64 b.ag, .int .i64 b.sq, .slice A n c] 26)
  have BT := heap_alloc_new w (.cells #[.int .i64 b.ag, .int .i64 b.sq, .slice A n c] 26)
  have HL := Lib.hid (h.below hb1)
  have HC := Lib.hid (refBatCheck_any HL.out)
  clear h
  by_cases hok : OkB b
  · rw [btP_yes hok] at HC ⊢
    go_enter Try.func22, Try.ntmps22
    go_wp2_with fail
    refine HC.out.mono ?_
    rintro e w2 ⟨rfl, hb2⟩
    have BT2 := (hb2.block _ (Array.getElem?_eq_some_iff.1 BT).1).trans BT
    have z0 := cell_of BT2 0
    have z1 := cell_of BT2 1
    have z2 := cell_of BT2 2
    simp at z0 z1 z2
    have HL2 := Lib.hid (HL.out.below hb2)
    have hb12 := nx hb1 hb2
    clear BT BT2 HC
    go_wp2_with fail
    refine (refWrite_any HL2.out hok.1).mono ?_
    rintro e w3 ⟨v, rfl, ho, hb3⟩
    have HO := Lib.hid (ownsRow_base ho hb12.size)
    have hb13 := nx hb12 hb3
    clear ho
    go_wp2_with fail
    go_ret2
    exact ⟨v, rfl, HO.out, hb13⟩
  · rw [btP_no hok] at HC ⊢
    go_enter Try.func22, Try.ntmps22
    go_wp2_with fail
    refine HC.out.mono ?_
    rintro e w2 ⟨rfl, hb2⟩
    have hb12 := nx hb1 hb2
    clear BT HC
    go_wp2_with fail
    go_ret2
    exact ⟨_, rfl, World.ownsRow_nil _ _ _ _, hb12⟩
end Go.Proofs.Ytnaijnbdhojhaaa
