/- Answers compared, by the program and by the document. No conditions. -/
import Derived.Test.YtfedgjahbmcpoaaGreatGB30
import Derived.Test.YtfedgjahbmcpoaaGreatGB24
import Derived.Deep.MidRow
import Derived.Deep.DeepCutAuto
import Derived.Deep.RegionHeld3
set_option linter.unusedSimpArgs false
set_option linter.unusedVariables false
namespace Go.Proofs.YtfedgjahbmcpoaaGreat
open Go.RowKit

def eqC (x y : Cel) : Bool := (x.at' == y.at') && (x.ct == y.ct)
def eqE (x y : Edg) : Bool := (x.fr.toList == y.fr.toList) && ((x.to'.toList == y.to'.toList) && (x.ct == y.ct))
theorem eqC_iff (x y : Cel) : eqC x y = true ↔ x = y := by
  obtain ⟨a, b⟩ := x
  obtain ⟨a', b'⟩ := y
  unfold eqC
  simp only [Bool.and_eq_true, beq_iff_eq, Cel.mk.injEq]
theorem eqE_iff (x y : Edg) : eqE x y = true ↔ x = y := by
  obtain ⟨a, b, c⟩ := x
  obtain ⟨a', b', c'⟩ := y
  unfold eqE
  simp only [Bool.and_eq_true, beq_iff_eq, Edg.mk.injEq]
  constructor
  · rintro ⟨h1, h2, h3⟩; exact ⟨toList_inj h1, toList_inj h2, h3⟩
  · rintro ⟨h1, h2, h3⟩; exact ⟨by rw [h1], by rw [h2], h3⟩
set_option maxRecDepth 100000 in
theorem eqC_run (x y : Cel) (w : World) : (Op.equalIn 10000 54 (.agg #[.int .i64 x.at', .int .i64 x.ct]) (.agg #[.int .i64 y.at', .int .i64 y.ct])).run Tryz.prog w = .ok (eqC x y) w := by
  rw [run_equalIn_agg w 9999 54 _ _ (by kernel_rfl) (by kernel_rfl)]
  unfold Program.fieldsOf
  rw [Tryz.underlying54]
  simp [Op.eqFields, part, go_sem, Tryz.underlying3]
  unfold eqC
  by_cases h1 : x.at' = y.at' <;> by_cases h2 : x.ct = y.ct <;> simp [h1, h2]
set_option maxRecDepth 100000 in
theorem eqE_run (x y : Edg) (w : World) : (Op.equalIn 10000 58 (.agg #[.string x.fr, .string x.to', .int .i64 x.ct]) (.agg #[.string y.fr, .string y.to', .int .i64 y.ct])).run Tryz.prog w = .ok (eqE x y) w := by
  rw [run_equalIn_agg w 9999 58 _ _ (by kernel_rfl) (by kernel_rfl)]
  unfold Program.fieldsOf
  rw [Tryz.underlying58]
  simp [Op.eqFields, part, go_sem, Tryz.underlying9, Tryz.underlying3]
  unfold eqE
  by_cases h1 : x.fr.toList = y.fr.toList <;> by_cases h2 : x.to'.toList = y.to'.toList <;> by_cases h3 : x.ct = y.ct <;> simp [h1, h2, h3]
theorem infoSpS : (Tryz.prog.info? 48).map (·.size) = some 9 := by kernel_rfl
theorem heap_row {w : World} {q : Nat} {cs : Array Value} {t : TypeId} {mk : Nat × Nat} (h : w.heap[q]? = some (.cells cs t mk)) : ∀ (vs : List Value) (o : Nat), (w.setCells q o vs).heap[q]? = some (.cells (rowSet cs o vs) t mk)
  | vs, o => heap_row_go vs o w cs h
where
  heap_row_go : ∀ (vs : List Value) (o : Nat) (w : World) (cs : Array Value), w.heap[q]? = some (.cells cs t mk) → (w.setCells q o vs).heap[q]? = some (.cells (rowSet cs o vs) t mk)
    | [], _, _, _, h => h
    | v :: r, o, w, cs, h => heap_row_go r (o + 1) _ _ (heap_set h o v)
theorem bel_row {w0 : World} {q : Nat} (hq : w0.heap.size ≤ q) : ∀ (vs : List Value) (o : Nat) {w : World}, Below w0.heap.size w0 w → Below w0.heap.size w0 (w.setCells q o vs)
  | [], _, _, h => h
  | v :: r, o, _, h => bel_row hq r (o + 1) (h.setCell (p := ⟨q, o, none⟩) hq _)
set_option maxHeartbeats 32000000 in
set_option maxRecDepth 100000 in
theorem eqCels_any {A B : Option Addr} {n c m d : Nat} {l r : List Cel} {w : World} (h : EL ceR w A n c l) (h2 : EL ceR w B m d r) :
    Calls Tryz.prog 63 #[.slice A n c, .slice B m d] w fun e w' => SmR w w' e (l = r) := by
  obtain rfl := h.len
  obtain rfl := h2.len
  have HL := Lib.hid h
  have HM := Lib.hid h2
  have hlim := h.lim
  have hlim2 := h2.lim
  clear h h2
  by_cases hlen : l.length = r.length
  · have hd : ((l.length : Int) != (r.length : Int)) = false := by simp [hlen]
    have HLEN := Lib.hid hlen
    clear hlen
    go_enter Tryz.func63, Tryz.ntmps63
    go_wp2
    go_loopw [13] (fun i wr => ∃ k : Nat, k ≤ l.length ∧ i = .int .i64 k ∧ Hid (l.take k = r.take k) ∧ Below w.heap.size w wr) (fun i _ => l.length - (intOf i).toNat)
    case atStart => exact ⟨0, Nat.zero_le _, rfl, Lib.hid rfl, Below.refl _ _⟩
    case round =>
      obtain ⟨k, hk, rfl, HE, hb⟩ := hrel
      by_cases hlt : k < l.length
      · have hlt' : k < r.length := by rw [← HLEN.out]; exact hlt
        obtain ⟨g, o, cs, hA, rfl, hc⟩ := HL.out.cellsAt hb hlt
        obtain ⟨g2, o2, cs2, hB, rfl, hc2⟩ := HM.out.cellsAt hb hlt'
        subst hA hB
        have haa : (⟨g, o, none⟩ : Addr).add (k * 2) = ⟨g, o + k * 2, none⟩ := addr_add _ _ _
        have haa2 : (⟨g2, o2, none⟩ : Addr).add (k * 2) = ⟨g2, o2 + k * 2, none⟩ := addr_add _ _ _
        have hl1 := take_snoc l k hlt
        have hm1 := take_snoc r k hlt'
        obtain ⟨a, ha⟩ : ∃ a, a = l[k] := ⟨_, rfl⟩
        obtain ⟨b, hb'⟩ : ∃ b, b = r[k] := ⟨_, rfl⟩
        rw [← ha] at hc hl1
        rw [← hb'] at hc2 hm1
        have hca0 : wr.cell? ⟨g, o + k * 2, none⟩ = _ := hc 0 _ rfl
        have hcb0 : wr.cell? ⟨g2, o2 + k * 2, none⟩ = _ := hc2 0 _ rfl
        have hca1 : wr.cell? ⟨g, o + k * 2 + 1, none⟩ = _ := hc 1 _ rfl
        have hcb1 : wr.cell? ⟨g2, o2 + k * 2 + 1, none⟩ = _ := hc2 1 _ rfl
        have HL1 := Lib.hid hl1
        have HM1 := Lib.hid hm1
        clear hl1 hm1 hc hc2 ha hb'
        have hlt2 : (k : Int) < (r.length : Int) := by omega
        have heq := eqC_run a b
        have HIFF := Lib.hid (eqC_iff a b)
        generalize eqC a b = bb at *
        cases bb with
        | true =>
          obtain rfl := HIFF.out.1 rfl
          go_wp2
          go_quiet (fail)
          go_wp2
          exact ⟨⟨k + 1, by omega, by go_num, Lib.hid (by rw [HL1.out, HM1.out, HE.out]), below_drewN hb _⟩, by simp [intOf]; omega⟩
        | false =>
          have hne : ¬ l = r := by
            intro e
            subst e
            have h1 := HL1.out
            rw [HM1.out] at h1
            have h2 := List.append_cancel_left h1
            injection h2 with h3
            have := HIFF.out.2 h3.symm
            simp at this
          have HNE := Lib.hid hne
          clear hne
          go_wp2
          go_quiet (fail)
          go_wp2
          go_ret
          exact smNo HNE.out (below_drewN hb _)
      · have hyes : l = r := by
          have h1 := HE.out
          rw [List.take_of_length_le (by omega), List.take_of_length_le (by rw [← HLEN.out]; omega)] at h1
          exact h1
        have HY := Lib.hid hyes
        clear hyes
        go_wp2
        go_ret
        exact smYes HY.out hb
  · have hd : ((l.length : Int) != (r.length : Int)) = true := by simp; omega
    have hne : ¬ l = r := fun h => hlen (by rw [h])
    have HNE := Lib.hid hne
    clear hne
    go_enter Tryz.func63, Tryz.ntmps63
    go_wp2
    go_ret
    exact smNo HNE.out (bel0 _)
set_option maxHeartbeats 32000000 in
set_option maxRecDepth 100000 in
theorem eqEdgs_any {A B : Option Addr} {n c m d : Nat} {l r : List Edg} {w : World} (h : EL edR w A n c l) (h2 : EL edR w B m d r) :
    Calls Tryz.prog 64 #[.slice A n c, .slice B m d] w fun e w' => SmR w w' e (l = r) := by
  obtain rfl := h.len
  obtain rfl := h2.len
  have HL := Lib.hid h
  have HM := Lib.hid h2
  have hlim := h.lim
  have hlim2 := h2.lim
  clear h h2
  by_cases hlen : l.length = r.length
  · have hd : ((l.length : Int) != (r.length : Int)) = false := by simp [hlen]
    have HLEN := Lib.hid hlen
    clear hlen
    go_enter Tryz.func64, Tryz.ntmps64
    go_wp2
    go_loopw [13] (fun i wr => ∃ k : Nat, k ≤ l.length ∧ i = .int .i64 k ∧ Hid (l.take k = r.take k) ∧ Below w.heap.size w wr) (fun i _ => l.length - (intOf i).toNat)
    case atStart => exact ⟨0, Nat.zero_le _, rfl, Lib.hid rfl, Below.refl _ _⟩
    case round =>
      obtain ⟨k, hk, rfl, HE, hb⟩ := hrel
      by_cases hlt : k < l.length
      · have hlt' : k < r.length := by rw [← HLEN.out]; exact hlt
        obtain ⟨g, o, cs, hA, rfl, hc⟩ := HL.out.cellsAt hb hlt
        obtain ⟨g2, o2, cs2, hB, rfl, hc2⟩ := HM.out.cellsAt hb hlt'
        subst hA hB
        have haa : (⟨g, o, none⟩ : Addr).add (k * 3) = ⟨g, o + k * 3, none⟩ := addr_add _ _ _
        have haa2 : (⟨g2, o2, none⟩ : Addr).add (k * 3) = ⟨g2, o2 + k * 3, none⟩ := addr_add _ _ _
        have hl1 := take_snoc l k hlt
        have hm1 := take_snoc r k hlt'
        obtain ⟨a, ha⟩ : ∃ a, a = l[k] := ⟨_, rfl⟩
        obtain ⟨b, hb'⟩ : ∃ b, b = r[k] := ⟨_, rfl⟩
        rw [← ha] at hc hl1
        rw [← hb'] at hc2 hm1
        have hca0 : wr.cell? ⟨g, o + k * 3, none⟩ = _ := hc 0 _ rfl
        have hcb0 : wr.cell? ⟨g2, o2 + k * 3, none⟩ = _ := hc2 0 _ rfl
        have hca1 : wr.cell? ⟨g, o + k * 3 + 1, none⟩ = _ := hc 1 _ rfl
        have hcb1 : wr.cell? ⟨g2, o2 + k * 3 + 1, none⟩ = _ := hc2 1 _ rfl
        have hca2 : wr.cell? ⟨g, o + k * 3 + 2, none⟩ = _ := hc 2 _ rfl
        have hcb2 : wr.cell? ⟨g2, o2 + k * 3 + 2, none⟩ = _ := hc2 2 _ rfl
        have HL1 := Lib.hid hl1
        have HM1 := Lib.hid hm1
        clear hl1 hm1 hc hc2 ha hb'
        have hlt2 : (k : Int) < (r.length : Int) := by omega
        have heq := eqE_run a b
        have HIFF := Lib.hid (eqE_iff a b)
        generalize eqE a b = bb at *
        cases bb with
        | true =>
          obtain rfl := HIFF.out.1 rfl
          go_wp2
          go_quiet (fail)
          go_wp2
          exact ⟨⟨k + 1, by omega, by go_num, Lib.hid (by rw [HL1.out, HM1.out, HE.out]), below_drewN hb _⟩, by simp [intOf]; omega⟩
        | false =>
          have hne : ¬ l = r := by
            intro e
            subst e
            have h1 := HL1.out
            rw [HM1.out] at h1
            have h2 := List.append_cancel_left h1
            injection h2 with h3
            have := HIFF.out.2 h3.symm
            simp at this
          have HNE := Lib.hid hne
          clear hne
          go_wp2
          go_quiet (fail)
          go_wp2
          go_ret
          exact smNo HNE.out (below_drewN hb _)
      · have hyes : l = r := by
          have h1 := HE.out
          rw [List.take_of_length_le (by omega), List.take_of_length_le (by rw [← HLEN.out]; omega)] at h1
          exact h1
        have HY := Lib.hid hyes
        clear hyes
        go_wp2
        go_ret
        exact smYes HY.out hb
  · have hd : ((l.length : Int) != (r.length : Int)) = true := by simp; omega
    have hne : ¬ l = r := fun h => hlen (by rw [h])
    have HNE := Lib.hid hne
    clear hne
    go_enter Tryz.func64, Tryz.ntmps64
    go_wp2
    go_ret
    exact smNo HNE.out (bel0 _)
set_option maxHeartbeats 32000000 in
set_option maxRecDepth 100000 in
theorem refSameSeen_any {A B : Option Addr} {n c m d : Nat} {s t : Sen} {w : World} (h : AS w A n c s.sp.ats) (h2 : AS w B m d t.sp.ats) :
    Calls Tryz.prog 78 #[s.v (.slice A n c), t.v (.slice B m d)] w fun e w' => SmR w w' e (s = t) := by
  obtain ⟨⟨tr1, id1, pa1, sv1, op1, st1, ln1, sj1, ats1⟩, dp1, lo1⟩ := s
  obtain ⟨⟨tr2, id2, pa2, sv2, op2, st2, ln2, sj2, ats2⟩, dp2, lo2⟩ := t
  unfold Sen.v
  simp only at h h2 ⊢
  have hb1 := nx (bel1 w (.cells #[.int .i64 tr1, .int .i64 id1, .int .i64 pa1, .string sv1, .string op1, .int .i64 st1, .int .i64 ln1, .string sj1, .slice A n c, .int .i64 dp1, .bool lo1] 50)) (bel1 (w.alloc (.cells #[.int .i64 tr1, .int .i64 id1, .int .i64 pa1, .string sv1, .string op1, .int .i64 st1, .int .i64 ln1, .string sj1, .slice A n c, .int .i64 dp1, .bool lo1] 50)) (.cells #[.int .i64 tr2, .int .i64 id2, .int .i64 pa2, .string sv2, .string op2, .int .i64 st2, .int .i64 ln2, .string sj2, .slice B m d, .int .i64 dp2, .bool lo2] 50))
  have X1 := blkB (heap_alloc_new w (.cells #[.int .i64 tr1, .int .i64 id1, .int .i64 pa1, .string sv1, .string op1, .int .i64 st1, .int .i64 ln1, .string sj1, .slice A n c, .int .i64 dp1, .bool lo1] 50)) (bel1 _ (.cells #[.int .i64 tr2, .int .i64 id2, .int .i64 pa2, .string sv2, .string op2, .int .i64 st2, .int .i64 ln2, .string sj2, .slice B m d, .int .i64 dp2, .bool lo2] 50))
  have X2 := heap_alloc_new (w.alloc (.cells #[.int .i64 tr1, .int .i64 id1, .int .i64 pa1, .string sv1, .string op1, .int .i64 st1, .int .i64 ln1, .string sj1, .slice A n c, .int .i64 dp1, .bool lo1] 50)) (.cells #[.int .i64 tr2, .int .i64 id2, .int .i64 pa2, .string sv2, .string op2, .int .i64 st2, .int .i64 ln2, .string sj2, .slice B m d, .int .i64 dp2, .bool lo2] 50)
  rw [World.size_alloc] at X2
  have HA := Lib.hid (h.below hb1)
  have HB := Lib.hid (h2.below hb1)
  clear h h2
  go_enter Tryz.func78, Tryz.ntmps78
  go_upto_region 1 with (fail)
  obtain ⟨W0, hW⟩ : ∃ W, W = (w.alloc (.cells #[.int .i64 tr1, .int .i64 id1, .int .i64 pa1, .string sv1, .string op1, .int .i64 st1, .int .i64 ln1, .string sj1, .slice A n c, .int .i64 dp1, .bool lo1] 50)).alloc (.cells #[.int .i64 tr2, .int .i64 id2, .int .i64 pa2, .string sv2, .string op2, .int .i64 st2, .int .i64 ln2, .string sj2, .slice B m d, .int .i64 dp2, .bool lo2] 50) := ⟨_, rfl⟩
  rw [← hW] at X1 X2 hb1 HA HB ⊢
  clear hW
  have hz1 := (Array.getElem?_eq_some_iff.1 X1).1
  have hz2 := (Array.getElem?_eq_some_iff.1 X2).1
  obtain ⟨q2, hqq⟩ : ∃ q, q = w.heap.size + 1 := ⟨_, rfl⟩
  rw [← hqq] at X2 hz2 ⊢
  clear hqq
  obtain ⟨q1, hqq⟩ : ∃ q, q = w.heap.size := ⟨_, rfl⟩
  rw [← hqq] at X1 hz1 ⊢
  clear hqq
  have HB0 := Lib.hid hb1
  have HX1 := Lib.hid X1
  have HX2 := Lib.hid X2
  clear hb1 X1 X2
  have AK := Lib.hid (fun (a : World) (h1 : a.heap[q1]? = some (.cells #[.int .i64 tr1, .int .i64 id1, .int .i64 pa1, .string sv1, .string op1, .int .i64 st1, .int .i64 ln1, .string sj1, .slice A n c, .int .i64 dp1, .bool lo1] 50 (0, 0))) (h2 : a.heap[q2]? = some (.cells #[.int .i64 tr2, .int .i64 id2, .int .i64 pa2, .string sv2, .string op2, .int .i64 st2, .int .i64 ln2, .string sj2, .slice B m d, .int .i64 dp2, .bool lo2] 50 (0, 0))) => show (fun w' => w'.cell? ⟨q1, 0, none⟩ = some (.int .i64 tr1) ∧ w'.cell? ⟨q1, 1, none⟩ = some (.int .i64 id1) ∧ w'.cell? ⟨q1, 2, none⟩ = some (.int .i64 pa1) ∧ w'.cell? ⟨q1, 3, none⟩ = some (.string sv1) ∧ w'.cell? ⟨q1, 4, none⟩ = some (.string op1) ∧ w'.cell? ⟨q1, 5, none⟩ = some (.int .i64 st1) ∧ w'.cell? ⟨q1, 6, none⟩ = some (.int .i64 ln1) ∧ w'.cell? ⟨q1, 7, none⟩ = some (.string sj1) ∧ w'.cell? ⟨q1, 8, none⟩ = some (.slice A n c) ∧ w'.cell? ⟨q2, 0, none⟩ = some (.int .i64 tr2) ∧ w'.cell? ⟨q2, 1, none⟩ = some (.int .i64 id2) ∧ w'.cell? ⟨q2, 2, none⟩ = some (.int .i64 pa2) ∧ w'.cell? ⟨q2, 3, none⟩ = some (.string sv2) ∧ w'.cell? ⟨q2, 4, none⟩ = some (.string op2) ∧ w'.cell? ⟨q2, 5, none⟩ = some (.int .i64 st2) ∧ w'.cell? ⟨q2, 6, none⟩ = some (.int .i64 ln2) ∧ w'.cell? ⟨q2, 7, none⟩ = some (.string sj2) ∧ w'.cell? ⟨q2, 8, none⟩ = some (.slice B m d)) a from ⟨(cell_of h1 0), (cell_of h1 1), (cell_of h1 2), (cell_of h1 3), (cell_of h1 4), (cell_of h1 5), (cell_of h1 6), (cell_of h1 7), (cell_of h1 8), (cell_of h2 0), (cell_of h2 1), (cell_of h2 2), (cell_of h2 3), (cell_of h2 4), (cell_of h2 5), (cell_of h2 6), (cell_of h2 7), (cell_of h2 8)⟩)
  refine wp_region_held_drew (S := (fun w' => w'.cell? ⟨q1, 0, none⟩ = some (.int .i64 tr1) ∧ w'.cell? ⟨q1, 1, none⟩ = some (.int .i64 id1) ∧ w'.cell? ⟨q1, 2, none⟩ = some (.int .i64 pa1) ∧ w'.cell? ⟨q1, 3, none⟩ = some (.string sv1) ∧ w'.cell? ⟨q1, 4, none⟩ = some (.string op1) ∧ w'.cell? ⟨q1, 5, none⟩ = some (.int .i64 st1) ∧ w'.cell? ⟨q1, 6, none⟩ = some (.int .i64 ln1) ∧ w'.cell? ⟨q1, 7, none⟩ = some (.string sj1) ∧ w'.cell? ⟨q1, 8, none⟩ = some (.slice A n c) ∧ w'.cell? ⟨q2, 0, none⟩ = some (.int .i64 tr2) ∧ w'.cell? ⟨q2, 1, none⟩ = some (.int .i64 id2) ∧ w'.cell? ⟨q2, 2, none⟩ = some (.int .i64 pa2) ∧ w'.cell? ⟨q2, 3, none⟩ = some (.string sv2) ∧ w'.cell? ⟨q2, 4, none⟩ = some (.string op2) ∧ w'.cell? ⟨q2, 5, none⟩ = some (.int .i64 st2) ∧ w'.cell? ⟨q2, 6, none⟩ = some (.int .i64 ln2) ∧ w'.cell? ⟨q2, 7, none⟩ = some (.string sj2) ∧ w'.cell? ⟨q2, 8, none⟩ = some (.slice B m d))) (by kernel_rfl) (AK.out _ (by exact HX1.out) (by exact HX2.out)) (fun hHeld => ?_)
  refine' take_val (i := 0) (d := 8) (v := _) rfl rfl (by kernel_rfl) (by kernel_rfl) (by kernel_rfl) (fun _ _ _ h => h) (by rfl) ?_ (by assumption) ?_
  rotate_left
  · (intro w hSw; (try dsimp only at hSw); go_simp; (try with_reducible rfl))
  (try simp only [Act.put, List.getElem_toArray, List.getElem_cons_succ, List.getElem_cons_zero, List.setIfInBounds_toArray, List.set_cons_zero, List.set_cons_succ])
  refine' take_val (i := 1) (d := 9) (v := _) rfl rfl (by kernel_rfl) (by kernel_rfl) (by kernel_rfl) (fun _ _ _ h => h) (by rfl) ?_ (by assumption) ?_
  rotate_left
  · (intro w hSw; (try dsimp only at hSw); go_simp; (try with_reducible rfl))
  (try simp only [Act.put, List.getElem_toArray, List.getElem_cons_succ, List.getElem_cons_zero, List.setIfInBounds_toArray, List.set_cons_zero, List.set_cons_succ])
  refine' take_val (i := 2) (d := 10) (v := _) rfl rfl (by kernel_rfl) (by kernel_rfl) (by kernel_rfl) (fun _ _ _ h => h) (by rfl) ?_ (by assumption) ?_
  rotate_left
  · (intro w hSw; (try dsimp only at hSw); go_simp; (try with_reducible rfl))
  (try simp only [Act.put, List.getElem_toArray, List.getElem_cons_succ, List.getElem_cons_zero, List.setIfInBounds_toArray, List.set_cons_zero, List.set_cons_succ])
  refine' take_val (i := 3) (d := 11) (v := _) rfl rfl (by kernel_rfl) (by kernel_rfl) (by kernel_rfl) (fun _ _ _ h => h) (by rfl) ?_ (by assumption) ?_
  rotate_left
  · (intro w hSw; (try dsimp only at hSw); go_simp; (try with_reducible rfl))
  (try simp only [Act.put, List.getElem_toArray, List.getElem_cons_succ, List.getElem_cons_zero, List.setIfInBounds_toArray, List.set_cons_zero, List.set_cons_succ])
  refine wpAnyH_ready (rs := [4, 5]) (by kernel_rfl) (by simp) ?_
  refine AllReadyH.cons rfl (fun K hK => ?_) (AllReadyH.cons rfl (fun K hK => ?_) AllReadyH.nil)
  · skip
    go_simp
    go_wp2_with fail
    have Y1 := heap_alloc_new W0.drew (.cells #[.int .i64 0, .int .i64 0, .int .i64 0, .string ⟨#[]⟩, .string ⟨#[]⟩, .int .i64 0, .int .i64 0, .string ⟨#[]⟩, .slice none 0 0] 48)
    have U1 := blkB (w := W0.drew) HX1.out (bel1 W0.drew (.cells #[.int .i64 0, .int .i64 0, .int .i64 0, .string ⟨#[]⟩, .string ⟨#[]⟩, .int .i64 0, .int .i64 0, .string ⟨#[]⟩, .slice none 0 0] 48))
    have U2 := blkB (w := W0.drew) HX2.out (bel1 W0.drew (.cells #[.int .i64 0, .int .i64 0, .int .i64 0, .string ⟨#[]⟩, .string ⟨#[]⟩, .int .i64 0, .int .i64 0, .string ⟨#[]⟩, .slice none 0 0] 48))
    have HBx := nx (bel0 W0).drew (bel1 W0.drew (.cells #[.int .i64 0, .int .i64 0, .int .i64 0, .string ⟨#[]⟩, .string ⟨#[]⟩, .int .i64 0, .int .i64 0, .string ⟨#[]⟩, .slice none 0 0] 48))
    refine hK.out _ _ (AK.out _ U1 U2) (fun hHeld2 => ?_)
    clear hK K hHeld2
    (try simp only [Act.put, List.getElem_toArray, List.getElem_cons_succ, List.getElem_cons_zero, List.setIfInBounds_toArray, List.set_cons_zero, List.set_cons_succ])
    refine wpAnyH_ready (rs := [5]) (by kernel_rfl) (by simp) ?_
    refine AllReadyH.cons rfl (fun K hK => ?_) AllReadyH.nil
    go_simp
    go_wp2_with fail
    have Y2 := heap_alloc_new (W0.drew.alloc (.cells #[.int .i64 0, .int .i64 0, .int .i64 0, .string ⟨#[]⟩, .string ⟨#[]⟩, .int .i64 0, .int .i64 0, .string ⟨#[]⟩, .slice none 0 0] 48)) (.cells #[.int .i64 0, .int .i64 0, .int .i64 0, .string ⟨#[]⟩, .string ⟨#[]⟩, .int .i64 0, .int .i64 0, .string ⟨#[]⟩, .slice none 0 0] 48)
    rw [World.size_alloc] at Y2
    have Y1b := blkB Y1 (bel1 (W0.drew.alloc (.cells #[.int .i64 0, .int .i64 0, .int .i64 0, .string ⟨#[]⟩, .string ⟨#[]⟩, .int .i64 0, .int .i64 0, .string ⟨#[]⟩, .slice none 0 0] 48)) (.cells #[.int .i64 0, .int .i64 0, .int .i64 0, .string ⟨#[]⟩, .string ⟨#[]⟩, .int .i64 0, .int .i64 0, .string ⟨#[]⟩, .slice none 0 0] 48))
    have U1b := blkB U1 (bel1 (W0.drew.alloc (.cells #[.int .i64 0, .int .i64 0, .int .i64 0, .string ⟨#[]⟩, .string ⟨#[]⟩, .int .i64 0, .int .i64 0, .string ⟨#[]⟩, .slice none 0 0] 48)) (.cells #[.int .i64 0, .int .i64 0, .int .i64 0, .string ⟨#[]⟩, .string ⟨#[]⟩, .int .i64 0, .int .i64 0, .string ⟨#[]⟩, .slice none 0 0] 48))
    have U2b := blkB U2 (bel1 (W0.drew.alloc (.cells #[.int .i64 0, .int .i64 0, .int .i64 0, .string ⟨#[]⟩, .string ⟨#[]⟩, .int .i64 0, .int .i64 0, .string ⟨#[]⟩, .slice none 0 0] 48)) (.cells #[.int .i64 0, .int .i64 0, .int .i64 0, .string ⟨#[]⟩, .string ⟨#[]⟩, .int .i64 0, .int .i64 0, .string ⟨#[]⟩, .slice none 0 0] 48))
    have HBy := nx HBx (bel1 (W0.drew.alloc (.cells #[.int .i64 0, .int .i64 0, .int .i64 0, .string ⟨#[]⟩, .string ⟨#[]⟩, .int .i64 0, .int .i64 0, .string ⟨#[]⟩, .slice none 0 0] 48)) (.cells #[.int .i64 0, .int .i64 0, .int .i64 0, .string ⟨#[]⟩, .string ⟨#[]⟩, .int .i64 0, .int .i64 0, .string ⟨#[]⟩, .slice none 0 0] 48))
    refine hK.out _ _ (AK.out _ U1b U2b) (fun hHeld2 => ?_)
    clear hK K hHeld2 Y1 U1 U2 HBx
    (try simp only [Act.put, List.getElem_toArray, List.getElem_cons_succ, List.getElem_cons_zero, List.setIfInBounds_toArray, List.set_cons_zero, List.set_cons_succ])
    obtain ⟨W2, hW⟩ : ∃ W, W = (W0.drew.alloc (.cells #[.int .i64 0, .int .i64 0, .int .i64 0, .string ⟨#[]⟩, .string ⟨#[]⟩, .int .i64 0, .int .i64 0, .string ⟨#[]⟩, .slice none 0 0] 48)).alloc (.cells #[.int .i64 0, .int .i64 0, .int .i64 0, .string ⟨#[]⟩, .string ⟨#[]⟩, .int .i64 0, .int .i64 0, .string ⟨#[]⟩, .slice none 0 0] 48) := ⟨_, rfl⟩
    change wpAnyH _ _ _ _ _ _ _ _ ((W0.drew.alloc (.cells #[.int .i64 0, .int .i64 0, .int .i64 0, .string ⟨#[]⟩, .string ⟨#[]⟩, .int .i64 0, .int .i64 0, .string ⟨#[]⟩, .slice none 0 0] 48)).alloc (.cells #[.int .i64 0, .int .i64 0, .int .i64 0, .string ⟨#[]⟩, .string ⟨#[]⟩, .int .i64 0, .int .i64 0, .string ⟨#[]⟩, .slice none 0 0] 48))
    rw [← hW] at Y1b Y2 U1b U2b HBy ⊢
    clear hW
    obtain ⟨pa, hpa⟩ : ∃ p, p = W0.heap.size := ⟨_, rfl⟩
    have hpq : q1 < pa ∧ q2 < pa := by omega
    change W2.heap[W0.heap.size]? = _ at Y1b
    change W2.heap[W0.heap.size + 1]? = _ at Y2
    rw [← hpa] at Y1b Y2 ⊢
    have hpl : W0.heap.size ≤ pa := Nat.le_of_eq hpa.symm
    clear hpa
    refine wpAnyH_ready (rs := [6]) (by kernel_rfl) (by simp) ?_
    refine AllReadyH.cons rfl (fun K hK => ?_) AllReadyH.nil
    rw [if_pos (by kernel_rfl)]
    refine wp_store_mid 48 _ _ rfl (pa) 0 #[.int .i64 tr1, .int .i64 id1, .int .i64 pa1, .string sv1, .string op1, .int .i64 st1, .int .i64 ln1, .string sj1, .slice A n c] rfl rfl (there_of Y1b rfl) infoSpS (all_oneCell_toArray (by intro v hv; simp at hv; rcases hv with rfl | rfl | rfl | rfl | rfl | rfl | rfl | rfl | rfl <;> rfl)) ?_
    have V1 := heap_row Y1b [.int .i64 tr1, .int .i64 id1, .int .i64 pa1, .string sv1, .string op1, .int .i64 st1, .int .i64 ln1, .string sj1, .slice A n c] 0
    have V2 := (row_other (pa) (pa + 1) (by omega) [.int .i64 tr1, .int .i64 id1, .int .i64 pa1, .string sv1, .string op1, .int .i64 st1, .int .i64 ln1, .string sj1, .slice A n c] 0 W2).trans Y2
    have T1 := (row_other (pa) q1 (by omega) [.int .i64 tr1, .int .i64 id1, .int .i64 pa1, .string sv1, .string op1, .int .i64 st1, .int .i64 ln1, .string sj1, .slice A n c] 0 W2).trans U1b
    have T2 := (row_other (pa) q2 (by omega) [.int .i64 tr1, .int .i64 id1, .int .i64 pa1, .string sv1, .string op1, .int .i64 st1, .int .i64 ln1, .string sj1, .slice A n c] 0 W2).trans U2b
    have HBz := bel_row (q := pa) (by omega) [.int .i64 tr1, .int .i64 id1, .int .i64 pa1, .string sv1, .string op1, .int .i64 st1, .int .i64 ln1, .string sj1, .slice A n c] 0 HBy
    simp only [rowSet, List.setIfInBounds_toArray, List.set_cons_zero, List.set_cons_succ] at V1
    obtain ⟨W3, hW⟩ : ∃ W, W = W2.setCells (pa) 0 [.int .i64 tr1, .int .i64 id1, .int .i64 pa1, .string sv1, .string op1, .int .i64 st1, .int .i64 ln1, .string sj1, .slice A n c] := ⟨_, rfl⟩
    change K _ (W2.setCells (pa) 0 [.int .i64 tr1, .int .i64 id1, .int .i64 pa1, .string sv1, .string op1, .int .i64 st1, .int .i64 ln1, .string sj1, .slice A n c])
    rw [← hW] at V1 V2 T1 T2 HBz ⊢
    clear hW Y1b Y2 U1b U2b HBy
    refine hK.out _ _ (AK.out _ T1 T2) (fun hHeld2 => ?_)
    clear hK K hHeld2
    (try simp only [Act.put, List.getElem_toArray, List.getElem_cons_succ, List.getElem_cons_zero, List.setIfInBounds_toArray, List.set_cons_zero, List.set_cons_succ])
    refine wpAnyH_ready (rs := [7]) (by kernel_rfl) (by simp) ?_
    refine AllReadyH.cons rfl (fun K hK => ?_) AllReadyH.nil
    rw [if_pos (by kernel_rfl)]
    refine wp_store_mid 48 _ _ rfl (pa + 1) 0 #[.int .i64 tr2, .int .i64 id2, .int .i64 pa2, .string sv2, .string op2, .int .i64 st2, .int .i64 ln2, .string sj2, .slice B m d] rfl rfl (there_of V2 rfl) infoSpS (all_oneCell_toArray (by intro v hv; simp at hv; rcases hv with rfl | rfl | rfl | rfl | rfl | rfl | rfl | rfl | rfl <;> rfl)) ?_
    have V4 := heap_row V2 [.int .i64 tr2, .int .i64 id2, .int .i64 pa2, .string sv2, .string op2, .int .i64 st2, .int .i64 ln2, .string sj2, .slice B m d] 0
    have V3 := (row_other (pa + 1) (pa) (by omega) [.int .i64 tr2, .int .i64 id2, .int .i64 pa2, .string sv2, .string op2, .int .i64 st2, .int .i64 ln2, .string sj2, .slice B m d] 0 W3).trans V1
    have T3 := (row_other (pa + 1) q1 (by omega) [.int .i64 tr2, .int .i64 id2, .int .i64 pa2, .string sv2, .string op2, .int .i64 st2, .int .i64 ln2, .string sj2, .slice B m d] 0 W3).trans T1
    have T4 := (row_other (pa + 1) q2 (by omega) [.int .i64 tr2, .int .i64 id2, .int .i64 pa2, .string sv2, .string op2, .int .i64 st2, .int .i64 ln2, .string sj2, .slice B m d] 0 W3).trans T2
    have HBu := bel_row (q := pa + 1) (by omega) [.int .i64 tr2, .int .i64 id2, .int .i64 pa2, .string sv2, .string op2, .int .i64 st2, .int .i64 ln2, .string sj2, .slice B m d] 0 HBz
    simp only [rowSet, List.setIfInBounds_toArray, List.set_cons_zero, List.set_cons_succ] at V4
    obtain ⟨W4, hW⟩ : ∃ W, W = W3.setCells (pa + 1) 0 [.int .i64 tr2, .int .i64 id2, .int .i64 pa2, .string sv2, .string op2, .int .i64 st2, .int .i64 ln2, .string sj2, .slice B m d] := ⟨_, rfl⟩
    change K _ (W3.setCells (pa + 1) 0 [.int .i64 tr2, .int .i64 id2, .int .i64 pa2, .string sv2, .string op2, .int .i64 st2, .int .i64 ln2, .string sj2, .slice B m d])
    rw [← hW] at V3 V4 T3 T4 HBu ⊢
    clear hW V1 V2 T1 T2 HBz
    refine hK.out _ _ (AK.out _ T3 T4) (fun hHeld2 => ?_)
    clear hK K hHeld2 hHeld
    (try simp only [Act.put, List.getElem_toArray, List.getElem_cons_succ, List.getElem_cons_zero, List.setIfInBounds_toArray, List.set_cons_zero, List.set_cons_succ])
    have V3h := Lib.hid V3
    have V4h := Lib.hid V4
    have T3h := Lib.hid T3
    have T4h := Lib.hid T4
    have HBuh := Lib.hid HBu
    clear V3 V4 T3 T4 HBu
    refine wpAnyH_done (by kernel_rfl) ?_ _
    clear AK
    obtain ⟨pb, hpb⟩ : ∃ p, p = pa + 1 := ⟨_, rfl⟩
    rw [← hpb] at V4h ⊢
    clear hpb hpl hpq
    obtain ⟨wc, hW⟩ : ∃ W, W = W4 := ⟨_, rfl⟩
    rw [← hW] at V3h V4h T3h T4h HBuh ⊢
    clear hW
    have G1 := V3h
    have G2 := V4h
    have T1 := T3h
    have T2 := T4h
    have HBu := HBuh
    clear V3h V4h T3h T4h HBuh
    have x0 := cell_of G1.out 0
    have y0 := cell_of G2.out 0
    have x1 := cell_of G1.out 1
    have y1 := cell_of G2.out 1
    have x2 := cell_of G1.out 2
    have y2 := cell_of G2.out 2
    have x3 := cell_of G1.out 3
    have y3 := cell_of G2.out 3
    have x4 := cell_of G1.out 4
    have y4 := cell_of G2.out 4
    have x5 := cell_of G1.out 5
    have y5 := cell_of G2.out 5
    have x6 := cell_of G1.out 6
    have y6 := cell_of G2.out 6
    have x7 := cell_of G1.out 7
    have y7 := cell_of G2.out 7
    have x8 := cell_of G1.out 8
    have y8 := cell_of G2.out 8
    have u9 := cell_of T1.out 9
    have v9 := cell_of T2.out 9
    have u10 := cell_of T1.out 10
    have v10 := cell_of T2.out 10
    simp at x0 y0 x1 y1 x2 y2 x3 y3 x4 y4 x5 y5 x6 y6 x7 y7 x8 y8 u9 u10 v9 v10
    have HB1 := Lib.hid (nx HB0.out HBu.out)
    go_upto_region 2 with (fail)
    simp only [List.append_eq, List.cons_append, List.nil_append]
    by_cases edp : dp1 = dp2
    case neg =>
      have hsf : (dp1 == dp2) = false := by simpa using edp
      have hsf2 : (dp1 != dp2) = true := by rw [bne, hsf]; rfl
      go_wp2_with fail
      go_ret
      exact smNo (fun e => edp (congrArg (fun z : Sen => z.dp) e)) HB1.out
    subst edp
    by_cases elo : lo1 = lo2
    case neg =>
      have hsf : (lo1 == lo2) = false := by simpa using elo
      have hsf2 : (lo1 != lo2) = true := by rw [bne, hsf]; rfl
      go_wp2_with fail
      go_ret
      exact smNo (fun e => elo (congrArg (fun z : Sen => z.lo) e)) HB1.out
    subst elo
    by_cases etr : tr1 = tr2
    case neg =>
      have hsf : (tr1 == tr2) = false := by simpa using etr
      have hsf2 : (tr1 != tr2) = true := by rw [bne, hsf]; rfl
      go_wp2_with fail
      go_ret
      exact smNo (fun e => etr (congrArg (fun z : Sen => z.sp.tr) e)) HB1.out
    subst etr
    by_cases eid : id1 = id2
    case neg =>
      have hsf : (id1 == id2) = false := by simpa using eid
      have hsf2 : (id1 != id2) = true := by rw [bne, hsf]; rfl
      go_wp2_with fail
      go_ret
      exact smNo (fun e => eid (congrArg (fun z : Sen => z.sp.id) e)) HB1.out
    subst eid
    by_cases epa : pa1 = pa2
    case neg =>
      have hsf : (pa1 == pa2) = false := by simpa using epa
      have hsf2 : (pa1 != pa2) = true := by rw [bne, hsf]; rfl
      go_wp2_with fail
      go_ret
      exact smNo (fun e => epa (congrArg (fun z : Sen => z.sp.pa) e)) HB1.out
    subst epa
    by_cases esv : sv1 = sv2
    case neg =>
      have hsf : (sv1.toList == sv2.toList) = false := by simpa using (fun e => esv (toList_inj e))
      have hsf2 : (sv1.toList != sv2.toList) = true := by rw [bne, hsf]; rfl
      go_wp2_with fail
      go_ret
      exact smNo (fun e => esv (congrArg (fun z : Sen => z.sp.sv) e)) HB1.out
    subst esv
    by_cases eop : op1 = op2
    case neg =>
      have hsf : (op1.toList == op2.toList) = false := by simpa using (fun e => eop (toList_inj e))
      have hsf2 : (op1.toList != op2.toList) = true := by rw [bne, hsf]; rfl
      go_wp2_with fail
      go_ret
      exact smNo (fun e => eop (congrArg (fun z : Sen => z.sp.op) e)) HB1.out
    subst eop
    by_cases est : st1 = st2
    case neg =>
      have hsf : (st1 == st2) = false := by simpa using est
      have hsf2 : (st1 != st2) = true := by rw [bne, hsf]; rfl
      go_wp2_with fail
      go_ret
      exact smNo (fun e => est (congrArg (fun z : Sen => z.sp.st) e)) HB1.out
    subst est
    by_cases eln : ln1 = ln2
    case neg =>
      have hsf : (ln1 == ln2) = false := by simpa using eln
      have hsf2 : (ln1 != ln2) = true := by rw [bne, hsf]; rfl
      go_wp2_with fail
      go_ret
      exact smNo (fun e => eln (congrArg (fun z : Sen => z.sp.ln) e)) HB1.out
    subst eln
    by_cases esj : sj1 = sj2
    case neg =>
      have hsf : (sj1.toList == sj2.toList) = false := by simpa using (fun e => esj (toList_inj e))
      have hsf2 : (sj1.toList != sj2.toList) = true := by rw [bne, hsf]; rfl
      go_wp2_with fail
      go_ret
      exact smNo (fun e => esj (congrArg (fun z : Sen => z.sp.sj) e)) HB1.out
    subst esj
    have HAx := Lib.hid (HA.out.below HBu.out)
    have HBx := Lib.hid (HB.out.below HBu.out)
    have hnl := HA.out.len
    have hml := HB.out.len
    have hlm1 := HA.out.lim
    have hlm2 := HB.out.lim
    (try simp only at hnl hml hlm1 hlm2)
    by_cases hlen : n = m
    case neg =>
      have HNL := Lib.hid hnl
      have HML := Lib.hid hml
      have hd : ((n : Int) != (m : Int)) = true := by simp; omega
      clear hnl hml
      go_wp2_with fail
      go_ret
      exact smNo (fun e => hlen (by rw [HNL.out, HML.out]; exact congrArg (fun z : Sen => z.sp.ats.length) e)) HB1.out
    subst hlen
    have HNL := Lib.hid hnl
    have HML := Lib.hid hml
    have hlim : n ≤ 2199023255552 := by rw [hnl]; exact hlm1
    clear hnl hml hlm1 hlm2
    go_wp2_with fail
    go_loopw [7] (fun i wr => ∃ k : Nat, k ≤ n ∧ i = .int .i64 k ∧ Hid (ats1.take k = ats2.take k) ∧ Below wc.heap.size wc wr) (fun i _ => n - (intOf i).toNat)
    case atStart => exact ⟨0, Nat.zero_le _, rfl, Lib.hid rfl, bel0 _⟩
    case round =>
      clear x0 y0 x1 y1 x2 y2 x3 y3 x4 y4 x5 y5 x6 y6 x7 y7 x8 y8 u9 u10 v9 v10
      obtain ⟨k, hk, rfl, HE, hb⟩ := hrel
      have x8 := cell_of (blkB G1.out hb) 8
      have y8 := cell_of (blkB G2.out hb) 8
      simp at x8 y8
      by_cases hlt : k < n
      · have hl1 : k < ats1.length := by rw [← HNL.out]; exact hlt
        have hl2 : k < ats2.length := by rw [← HML.out]; exact hlt
        obtain ⟨g, o, hA, hc⟩ := HAx.out.cellsAt hb hl1
        obtain ⟨g2, o2, hB, hc2⟩ := HBx.out.cellsAt hb hl2
        subst hA hB
        have haa : (⟨g, o, none⟩ : Addr).add (k * 6) = ⟨g, o + k * 6, none⟩ := addr_add _ _ _
        have haa2 : (⟨g2, o2, none⟩ : Addr).add (k * 6) = ⟨g2, o2 + k * 6, none⟩ := addr_add _ _ _
        have hl3 := take_snoc ats1 k hl1
        have hm3 := take_snoc ats2 k hl2
        obtain ⟨a, ha⟩ : ∃ a, a = ats1[k] := ⟨_, rfl⟩
        obtain ⟨b, hb'⟩ : ∃ b, b = ats2[k] := ⟨_, rfl⟩
        rw [← ha] at hc hl3
        rw [← hb'] at hc2 hm3
        have hca0 : wr.cell? ⟨g, o + k * 6, none⟩ = _ := hc 0 _ rfl
        have hcb0 : wr.cell? ⟨g2, o2 + k * 6, none⟩ = _ := hc2 0 _ rfl
        have hca1 : wr.cell? ⟨g, o + k * 6 + 1, none⟩ = _ := hc 1 _ rfl
        have hcb1 : wr.cell? ⟨g2, o2 + k * 6 + 1, none⟩ = _ := hc2 1 _ rfl
        have hca2 : wr.cell? ⟨g, o + k * 6 + 2, none⟩ = _ := hc 2 _ rfl
        have hcb2 : wr.cell? ⟨g2, o2 + k * 6 + 2, none⟩ = _ := hc2 2 _ rfl
        have hca3 : wr.cell? ⟨g, o + k * 6 + 3, none⟩ = _ := hc 3 _ rfl
        have hcb3 : wr.cell? ⟨g2, o2 + k * 6 + 3, none⟩ = _ := hc2 3 _ rfl
        have hca4 : wr.cell? ⟨g, o + k * 6 + 4, none⟩ = _ := hc 4 _ rfl
        have hcb4 : wr.cell? ⟨g2, o2 + k * 6 + 4, none⟩ = _ := hc2 4 _ rfl
        have hca5 : wr.cell? ⟨g, o + k * 6 + 5, none⟩ = _ := hc 5 _ rfl
        have hcb5 : wr.cell? ⟨g2, o2 + k * 6 + 5, none⟩ = _ := hc2 5 _ rfl
        have HL1 := Lib.hid hl3
        have HM1 := Lib.hid hm3
        clear hl3 hm3 hc hc2 ha hb' hl1 hl2
        have hk0 : (0 : Int) ≤ (k : Int) := by omega
        have hk1 : (k : Int) < (n : Int) := by omega
        have heq := eqA_run a b
        have HIFF := Lib.hid (eqA_iff a b)
        generalize eqA a b = bb at *
        cases bb with
        | true =>
          obtain rfl := HIFF.out.1 rfl
          go_wp2_with fail
          go_quiet (fail)
          go_wp2_with fail
          exact ⟨⟨k + 1, by omega, by go_num, Lib.hid (by rw [HL1.out, HM1.out, HE.out]), below_drewN hb _⟩, by simp [intOf]; omega⟩
        | false =>
          have HNE := Lib.hid (show ¬ ((⟨⟨tr1, id1, pa1, sv1, op1, st1, ln1, sj1, ats1⟩, dp1, lo1⟩ : Sen) = ⟨⟨tr1, id1, pa1, sv1, op1, st1, ln1, sj1, ats2⟩, dp1, lo1⟩) by
            intro e
            have e2 : ats1 = ats2 := congrArg (fun z : Sen => z.sp.ats) e
            have h1 := HL1.out
            rw [e2, HM1.out] at h1
            have h2 := List.append_cancel_left h1
            injection h2 with h3
            have := HIFF.out.2 h3.symm
            simp at this)
          go_wp2_with fail
          go_quiet (fail)
          go_wp2_with fail
          go_ret
          exact smNo HNE.out (nx HB1.out (below_drewN hb _))
      · obtain rfl : k = n := by omega
        have HY := Lib.hid (show ats1 = ats2 by
          have h1 := HE.out
          rw [List.take_of_length_le (by rw [HNL.out]; exact Nat.le_refl _), List.take_of_length_le (by rw [HML.out]; exact Nat.le_refl _)] at h1
          exact h1)
        go_wp2_with fail
        go_ret
        exact smYes (by rw [HY.out]) (nx HB1.out hb)
  · skip
    go_simp
    go_wp2_with fail
    have Y1 := heap_alloc_new W0.drew (.cells #[.int .i64 0, .int .i64 0, .int .i64 0, .string ⟨#[]⟩, .string ⟨#[]⟩, .int .i64 0, .int .i64 0, .string ⟨#[]⟩, .slice none 0 0] 48)
    have U1 := blkB (w := W0.drew) HX1.out (bel1 W0.drew (.cells #[.int .i64 0, .int .i64 0, .int .i64 0, .string ⟨#[]⟩, .string ⟨#[]⟩, .int .i64 0, .int .i64 0, .string ⟨#[]⟩, .slice none 0 0] 48))
    have U2 := blkB (w := W0.drew) HX2.out (bel1 W0.drew (.cells #[.int .i64 0, .int .i64 0, .int .i64 0, .string ⟨#[]⟩, .string ⟨#[]⟩, .int .i64 0, .int .i64 0, .string ⟨#[]⟩, .slice none 0 0] 48))
    have HBx := nx (bel0 W0).drew (bel1 W0.drew (.cells #[.int .i64 0, .int .i64 0, .int .i64 0, .string ⟨#[]⟩, .string ⟨#[]⟩, .int .i64 0, .int .i64 0, .string ⟨#[]⟩, .slice none 0 0] 48))
    refine hK.out _ _ (AK.out _ U1 U2) (fun hHeld2 => ?_)
    clear hK K hHeld2
    (try simp only [Act.put, List.getElem_toArray, List.getElem_cons_succ, List.getElem_cons_zero, List.setIfInBounds_toArray, List.set_cons_zero, List.set_cons_succ])
    refine wpAnyH_ready (rs := [4]) (by kernel_rfl) (by simp) ?_
    refine AllReadyH.cons rfl (fun K hK => ?_) AllReadyH.nil
    go_simp
    go_wp2_with fail
    have Y2 := heap_alloc_new (W0.drew.alloc (.cells #[.int .i64 0, .int .i64 0, .int .i64 0, .string ⟨#[]⟩, .string ⟨#[]⟩, .int .i64 0, .int .i64 0, .string ⟨#[]⟩, .slice none 0 0] 48)) (.cells #[.int .i64 0, .int .i64 0, .int .i64 0, .string ⟨#[]⟩, .string ⟨#[]⟩, .int .i64 0, .int .i64 0, .string ⟨#[]⟩, .slice none 0 0] 48)
    rw [World.size_alloc] at Y2
    have Y1b := blkB Y1 (bel1 (W0.drew.alloc (.cells #[.int .i64 0, .int .i64 0, .int .i64 0, .string ⟨#[]⟩, .string ⟨#[]⟩, .int .i64 0, .int .i64 0, .string ⟨#[]⟩, .slice none 0 0] 48)) (.cells #[.int .i64 0, .int .i64 0, .int .i64 0, .string ⟨#[]⟩, .string ⟨#[]⟩, .int .i64 0, .int .i64 0, .string ⟨#[]⟩, .slice none 0 0] 48))
    have U1b := blkB U1 (bel1 (W0.drew.alloc (.cells #[.int .i64 0, .int .i64 0, .int .i64 0, .string ⟨#[]⟩, .string ⟨#[]⟩, .int .i64 0, .int .i64 0, .string ⟨#[]⟩, .slice none 0 0] 48)) (.cells #[.int .i64 0, .int .i64 0, .int .i64 0, .string ⟨#[]⟩, .string ⟨#[]⟩, .int .i64 0, .int .i64 0, .string ⟨#[]⟩, .slice none 0 0] 48))
    have U2b := blkB U2 (bel1 (W0.drew.alloc (.cells #[.int .i64 0, .int .i64 0, .int .i64 0, .string ⟨#[]⟩, .string ⟨#[]⟩, .int .i64 0, .int .i64 0, .string ⟨#[]⟩, .slice none 0 0] 48)) (.cells #[.int .i64 0, .int .i64 0, .int .i64 0, .string ⟨#[]⟩, .string ⟨#[]⟩, .int .i64 0, .int .i64 0, .string ⟨#[]⟩, .slice none 0 0] 48))
    have HBy := nx HBx (bel1 (W0.drew.alloc (.cells #[.int .i64 0, .int .i64 0, .int .i64 0, .string ⟨#[]⟩, .string ⟨#[]⟩, .int .i64 0, .int .i64 0, .string ⟨#[]⟩, .slice none 0 0] 48)) (.cells #[.int .i64 0, .int .i64 0, .int .i64 0, .string ⟨#[]⟩, .string ⟨#[]⟩, .int .i64 0, .int .i64 0, .string ⟨#[]⟩, .slice none 0 0] 48))
    refine hK.out _ _ (AK.out _ U1b U2b) (fun hHeld2 => ?_)
    clear hK K hHeld2 Y1 U1 U2 HBx
    (try simp only [Act.put, List.getElem_toArray, List.getElem_cons_succ, List.getElem_cons_zero, List.setIfInBounds_toArray, List.set_cons_zero, List.set_cons_succ])
    obtain ⟨W2, hW⟩ : ∃ W, W = (W0.drew.alloc (.cells #[.int .i64 0, .int .i64 0, .int .i64 0, .string ⟨#[]⟩, .string ⟨#[]⟩, .int .i64 0, .int .i64 0, .string ⟨#[]⟩, .slice none 0 0] 48)).alloc (.cells #[.int .i64 0, .int .i64 0, .int .i64 0, .string ⟨#[]⟩, .string ⟨#[]⟩, .int .i64 0, .int .i64 0, .string ⟨#[]⟩, .slice none 0 0] 48) := ⟨_, rfl⟩
    change wpAnyH _ _ _ _ _ _ _ _ ((W0.drew.alloc (.cells #[.int .i64 0, .int .i64 0, .int .i64 0, .string ⟨#[]⟩, .string ⟨#[]⟩, .int .i64 0, .int .i64 0, .string ⟨#[]⟩, .slice none 0 0] 48)).alloc (.cells #[.int .i64 0, .int .i64 0, .int .i64 0, .string ⟨#[]⟩, .string ⟨#[]⟩, .int .i64 0, .int .i64 0, .string ⟨#[]⟩, .slice none 0 0] 48))
    rw [← hW] at Y1b Y2 U1b U2b HBy ⊢
    clear hW
    obtain ⟨pa, hpa⟩ : ∃ p, p = W0.heap.size := ⟨_, rfl⟩
    have hpq : q1 < pa ∧ q2 < pa := by omega
    change W2.heap[W0.heap.size]? = _ at Y1b
    change W2.heap[W0.heap.size + 1]? = _ at Y2
    rw [← hpa] at Y1b Y2 ⊢
    have hpl : W0.heap.size ≤ pa := Nat.le_of_eq hpa.symm
    clear hpa
    refine wpAnyH_ready (rs := [6]) (by kernel_rfl) (by simp) ?_
    refine AllReadyH.cons rfl (fun K hK => ?_) AllReadyH.nil
    rw [if_pos (by kernel_rfl)]
    refine wp_store_mid 48 _ _ rfl (pa + 1) 0 #[.int .i64 tr1, .int .i64 id1, .int .i64 pa1, .string sv1, .string op1, .int .i64 st1, .int .i64 ln1, .string sj1, .slice A n c] rfl rfl (there_of Y2 rfl) infoSpS (all_oneCell_toArray (by intro v hv; simp at hv; rcases hv with rfl | rfl | rfl | rfl | rfl | rfl | rfl | rfl | rfl <;> rfl)) ?_
    have V1 := heap_row Y2 [.int .i64 tr1, .int .i64 id1, .int .i64 pa1, .string sv1, .string op1, .int .i64 st1, .int .i64 ln1, .string sj1, .slice A n c] 0
    have V2 := (row_other (pa + 1) (pa) (by omega) [.int .i64 tr1, .int .i64 id1, .int .i64 pa1, .string sv1, .string op1, .int .i64 st1, .int .i64 ln1, .string sj1, .slice A n c] 0 W2).trans Y1b
    have T1 := (row_other (pa + 1) q1 (by omega) [.int .i64 tr1, .int .i64 id1, .int .i64 pa1, .string sv1, .string op1, .int .i64 st1, .int .i64 ln1, .string sj1, .slice A n c] 0 W2).trans U1b
    have T2 := (row_other (pa + 1) q2 (by omega) [.int .i64 tr1, .int .i64 id1, .int .i64 pa1, .string sv1, .string op1, .int .i64 st1, .int .i64 ln1, .string sj1, .slice A n c] 0 W2).trans U2b
    have HBz := bel_row (q := pa + 1) (by omega) [.int .i64 tr1, .int .i64 id1, .int .i64 pa1, .string sv1, .string op1, .int .i64 st1, .int .i64 ln1, .string sj1, .slice A n c] 0 HBy
    simp only [rowSet, List.setIfInBounds_toArray, List.set_cons_zero, List.set_cons_succ] at V1
    obtain ⟨W3, hW⟩ : ∃ W, W = W2.setCells (pa + 1) 0 [.int .i64 tr1, .int .i64 id1, .int .i64 pa1, .string sv1, .string op1, .int .i64 st1, .int .i64 ln1, .string sj1, .slice A n c] := ⟨_, rfl⟩
    change K _ (W2.setCells (pa + 1) 0 [.int .i64 tr1, .int .i64 id1, .int .i64 pa1, .string sv1, .string op1, .int .i64 st1, .int .i64 ln1, .string sj1, .slice A n c])
    rw [← hW] at V1 V2 T1 T2 HBz ⊢
    clear hW Y1b Y2 U1b U2b HBy
    refine hK.out _ _ (AK.out _ T1 T2) (fun hHeld2 => ?_)
    clear hK K hHeld2
    (try simp only [Act.put, List.getElem_toArray, List.getElem_cons_succ, List.getElem_cons_zero, List.setIfInBounds_toArray, List.set_cons_zero, List.set_cons_succ])
    refine wpAnyH_ready (rs := [7]) (by kernel_rfl) (by simp) ?_
    refine AllReadyH.cons rfl (fun K hK => ?_) AllReadyH.nil
    rw [if_pos (by kernel_rfl)]
    refine wp_store_mid 48 _ _ rfl (pa) 0 #[.int .i64 tr2, .int .i64 id2, .int .i64 pa2, .string sv2, .string op2, .int .i64 st2, .int .i64 ln2, .string sj2, .slice B m d] rfl rfl (there_of V2 rfl) infoSpS (all_oneCell_toArray (by intro v hv; simp at hv; rcases hv with rfl | rfl | rfl | rfl | rfl | rfl | rfl | rfl | rfl <;> rfl)) ?_
    have V4 := heap_row V2 [.int .i64 tr2, .int .i64 id2, .int .i64 pa2, .string sv2, .string op2, .int .i64 st2, .int .i64 ln2, .string sj2, .slice B m d] 0
    have V3 := (row_other (pa) (pa + 1) (by omega) [.int .i64 tr2, .int .i64 id2, .int .i64 pa2, .string sv2, .string op2, .int .i64 st2, .int .i64 ln2, .string sj2, .slice B m d] 0 W3).trans V1
    have T3 := (row_other (pa) q1 (by omega) [.int .i64 tr2, .int .i64 id2, .int .i64 pa2, .string sv2, .string op2, .int .i64 st2, .int .i64 ln2, .string sj2, .slice B m d] 0 W3).trans T1
    have T4 := (row_other (pa) q2 (by omega) [.int .i64 tr2, .int .i64 id2, .int .i64 pa2, .string sv2, .string op2, .int .i64 st2, .int .i64 ln2, .string sj2, .slice B m d] 0 W3).trans T2
    have HBu := bel_row (q := pa) (by omega) [.int .i64 tr2, .int .i64 id2, .int .i64 pa2, .string sv2, .string op2, .int .i64 st2, .int .i64 ln2, .string sj2, .slice B m d] 0 HBz
    simp only [rowSet, List.setIfInBounds_toArray, List.set_cons_zero, List.set_cons_succ] at V4
    obtain ⟨W4, hW⟩ : ∃ W, W = W3.setCells (pa) 0 [.int .i64 tr2, .int .i64 id2, .int .i64 pa2, .string sv2, .string op2, .int .i64 st2, .int .i64 ln2, .string sj2, .slice B m d] := ⟨_, rfl⟩
    change K _ (W3.setCells (pa) 0 [.int .i64 tr2, .int .i64 id2, .int .i64 pa2, .string sv2, .string op2, .int .i64 st2, .int .i64 ln2, .string sj2, .slice B m d])
    rw [← hW] at V3 V4 T3 T4 HBu ⊢
    clear hW V1 V2 T1 T2 HBz
    refine hK.out _ _ (AK.out _ T3 T4) (fun hHeld2 => ?_)
    clear hK K hHeld2 hHeld
    (try simp only [Act.put, List.getElem_toArray, List.getElem_cons_succ, List.getElem_cons_zero, List.setIfInBounds_toArray, List.set_cons_zero, List.set_cons_succ])
    have V3h := Lib.hid V3
    have V4h := Lib.hid V4
    have T3h := Lib.hid T3
    have T4h := Lib.hid T4
    have HBuh := Lib.hid HBu
    clear V3 V4 T3 T4 HBu
    refine wpAnyH_done (by kernel_rfl) ?_ _
    clear AK
    obtain ⟨pb, hpb⟩ : ∃ p, p = pa + 1 := ⟨_, rfl⟩
    rw [← hpb] at V3h ⊢
    clear hpb hpl hpq
    obtain ⟨wc, hW⟩ : ∃ W, W = W4 := ⟨_, rfl⟩
    rw [← hW] at V3h V4h T3h T4h HBuh ⊢
    clear hW
    have G1 := V3h
    have G2 := V4h
    have T1 := T3h
    have T2 := T4h
    have HBu := HBuh
    clear V3h V4h T3h T4h HBuh
    have x0 := cell_of G1.out 0
    have y0 := cell_of G2.out 0
    have x1 := cell_of G1.out 1
    have y1 := cell_of G2.out 1
    have x2 := cell_of G1.out 2
    have y2 := cell_of G2.out 2
    have x3 := cell_of G1.out 3
    have y3 := cell_of G2.out 3
    have x4 := cell_of G1.out 4
    have y4 := cell_of G2.out 4
    have x5 := cell_of G1.out 5
    have y5 := cell_of G2.out 5
    have x6 := cell_of G1.out 6
    have y6 := cell_of G2.out 6
    have x7 := cell_of G1.out 7
    have y7 := cell_of G2.out 7
    have x8 := cell_of G1.out 8
    have y8 := cell_of G2.out 8
    have u9 := cell_of T1.out 9
    have v9 := cell_of T2.out 9
    have u10 := cell_of T1.out 10
    have v10 := cell_of T2.out 10
    simp at x0 y0 x1 y1 x2 y2 x3 y3 x4 y4 x5 y5 x6 y6 x7 y7 x8 y8 u9 u10 v9 v10
    have HB1 := Lib.hid (nx HB0.out HBu.out)
    go_upto_region 2 with (fail)
    simp only [List.append_eq, List.cons_append, List.nil_append]
    by_cases edp : dp1 = dp2
    case neg =>
      have hsf : (dp1 == dp2) = false := by simpa using edp
      have hsf2 : (dp1 != dp2) = true := by rw [bne, hsf]; rfl
      go_wp2_with fail
      go_ret
      exact smNo (fun e => edp (congrArg (fun z : Sen => z.dp) e)) HB1.out
    subst edp
    by_cases elo : lo1 = lo2
    case neg =>
      have hsf : (lo1 == lo2) = false := by simpa using elo
      have hsf2 : (lo1 != lo2) = true := by rw [bne, hsf]; rfl
      go_wp2_with fail
      go_ret
      exact smNo (fun e => elo (congrArg (fun z : Sen => z.lo) e)) HB1.out
    subst elo
    by_cases etr : tr1 = tr2
    case neg =>
      have hsf : (tr1 == tr2) = false := by simpa using etr
      have hsf2 : (tr1 != tr2) = true := by rw [bne, hsf]; rfl
      go_wp2_with fail
      go_ret
      exact smNo (fun e => etr (congrArg (fun z : Sen => z.sp.tr) e)) HB1.out
    subst etr
    by_cases eid : id1 = id2
    case neg =>
      have hsf : (id1 == id2) = false := by simpa using eid
      have hsf2 : (id1 != id2) = true := by rw [bne, hsf]; rfl
      go_wp2_with fail
      go_ret
      exact smNo (fun e => eid (congrArg (fun z : Sen => z.sp.id) e)) HB1.out
    subst eid
    by_cases epa : pa1 = pa2
    case neg =>
      have hsf : (pa1 == pa2) = false := by simpa using epa
      have hsf2 : (pa1 != pa2) = true := by rw [bne, hsf]; rfl
      go_wp2_with fail
      go_ret
      exact smNo (fun e => epa (congrArg (fun z : Sen => z.sp.pa) e)) HB1.out
    subst epa
    by_cases esv : sv1 = sv2
    case neg =>
      have hsf : (sv1.toList == sv2.toList) = false := by simpa using (fun e => esv (toList_inj e))
      have hsf2 : (sv1.toList != sv2.toList) = true := by rw [bne, hsf]; rfl
      go_wp2_with fail
      go_ret
      exact smNo (fun e => esv (congrArg (fun z : Sen => z.sp.sv) e)) HB1.out
    subst esv
    by_cases eop : op1 = op2
    case neg =>
      have hsf : (op1.toList == op2.toList) = false := by simpa using (fun e => eop (toList_inj e))
      have hsf2 : (op1.toList != op2.toList) = true := by rw [bne, hsf]; rfl
      go_wp2_with fail
      go_ret
      exact smNo (fun e => eop (congrArg (fun z : Sen => z.sp.op) e)) HB1.out
    subst eop
    by_cases est : st1 = st2
    case neg =>
      have hsf : (st1 == st2) = false := by simpa using est
      have hsf2 : (st1 != st2) = true := by rw [bne, hsf]; rfl
      go_wp2_with fail
      go_ret
      exact smNo (fun e => est (congrArg (fun z : Sen => z.sp.st) e)) HB1.out
    subst est
    by_cases eln : ln1 = ln2
    case neg =>
      have hsf : (ln1 == ln2) = false := by simpa using eln
      have hsf2 : (ln1 != ln2) = true := by rw [bne, hsf]; rfl
      go_wp2_with fail
      go_ret
      exact smNo (fun e => eln (congrArg (fun z : Sen => z.sp.ln) e)) HB1.out
    subst eln
    by_cases esj : sj1 = sj2
    case neg =>
      have hsf : (sj1.toList == sj2.toList) = false := by simpa using (fun e => esj (toList_inj e))
      have hsf2 : (sj1.toList != sj2.toList) = true := by rw [bne, hsf]; rfl
      go_wp2_with fail
      go_ret
      exact smNo (fun e => esj (congrArg (fun z : Sen => z.sp.sj) e)) HB1.out
    subst esj
    have HAx := Lib.hid (HA.out.below HBu.out)
    have HBx := Lib.hid (HB.out.below HBu.out)
    have hnl := HA.out.len
    have hml := HB.out.len
    have hlm1 := HA.out.lim
    have hlm2 := HB.out.lim
    (try simp only at hnl hml hlm1 hlm2)
    by_cases hlen : n = m
    case neg =>
      have HNL := Lib.hid hnl
      have HML := Lib.hid hml
      have hd : ((n : Int) != (m : Int)) = true := by simp; omega
      clear hnl hml
      go_wp2_with fail
      go_ret
      exact smNo (fun e => hlen (by rw [HNL.out, HML.out]; exact congrArg (fun z : Sen => z.sp.ats.length) e)) HB1.out
    subst hlen
    have HNL := Lib.hid hnl
    have HML := Lib.hid hml
    have hlim : n ≤ 2199023255552 := by rw [hnl]; exact hlm1
    clear hnl hml hlm1 hlm2
    go_wp2_with fail
    go_loopw [7] (fun i wr => ∃ k : Nat, k ≤ n ∧ i = .int .i64 k ∧ Hid (ats1.take k = ats2.take k) ∧ Below wc.heap.size wc wr) (fun i _ => n - (intOf i).toNat)
    case atStart => exact ⟨0, Nat.zero_le _, rfl, Lib.hid rfl, bel0 _⟩
    case round =>
      clear x0 y0 x1 y1 x2 y2 x3 y3 x4 y4 x5 y5 x6 y6 x7 y7 x8 y8 u9 u10 v9 v10
      obtain ⟨k, hk, rfl, HE, hb⟩ := hrel
      have x8 := cell_of (blkB G1.out hb) 8
      have y8 := cell_of (blkB G2.out hb) 8
      simp at x8 y8
      by_cases hlt : k < n
      · have hl1 : k < ats1.length := by rw [← HNL.out]; exact hlt
        have hl2 : k < ats2.length := by rw [← HML.out]; exact hlt
        obtain ⟨g, o, hA, hc⟩ := HAx.out.cellsAt hb hl1
        obtain ⟨g2, o2, hB, hc2⟩ := HBx.out.cellsAt hb hl2
        subst hA hB
        have haa : (⟨g, o, none⟩ : Addr).add (k * 6) = ⟨g, o + k * 6, none⟩ := addr_add _ _ _
        have haa2 : (⟨g2, o2, none⟩ : Addr).add (k * 6) = ⟨g2, o2 + k * 6, none⟩ := addr_add _ _ _
        have hl3 := take_snoc ats1 k hl1
        have hm3 := take_snoc ats2 k hl2
        obtain ⟨a, ha⟩ : ∃ a, a = ats1[k] := ⟨_, rfl⟩
        obtain ⟨b, hb'⟩ : ∃ b, b = ats2[k] := ⟨_, rfl⟩
        rw [← ha] at hc hl3
        rw [← hb'] at hc2 hm3
        have hca0 : wr.cell? ⟨g, o + k * 6, none⟩ = _ := hc 0 _ rfl
        have hcb0 : wr.cell? ⟨g2, o2 + k * 6, none⟩ = _ := hc2 0 _ rfl
        have hca1 : wr.cell? ⟨g, o + k * 6 + 1, none⟩ = _ := hc 1 _ rfl
        have hcb1 : wr.cell? ⟨g2, o2 + k * 6 + 1, none⟩ = _ := hc2 1 _ rfl
        have hca2 : wr.cell? ⟨g, o + k * 6 + 2, none⟩ = _ := hc 2 _ rfl
        have hcb2 : wr.cell? ⟨g2, o2 + k * 6 + 2, none⟩ = _ := hc2 2 _ rfl
        have hca3 : wr.cell? ⟨g, o + k * 6 + 3, none⟩ = _ := hc 3 _ rfl
        have hcb3 : wr.cell? ⟨g2, o2 + k * 6 + 3, none⟩ = _ := hc2 3 _ rfl
        have hca4 : wr.cell? ⟨g, o + k * 6 + 4, none⟩ = _ := hc 4 _ rfl
        have hcb4 : wr.cell? ⟨g2, o2 + k * 6 + 4, none⟩ = _ := hc2 4 _ rfl
        have hca5 : wr.cell? ⟨g, o + k * 6 + 5, none⟩ = _ := hc 5 _ rfl
        have hcb5 : wr.cell? ⟨g2, o2 + k * 6 + 5, none⟩ = _ := hc2 5 _ rfl
        have HL1 := Lib.hid hl3
        have HM1 := Lib.hid hm3
        clear hl3 hm3 hc hc2 ha hb' hl1 hl2
        have hk0 : (0 : Int) ≤ (k : Int) := by omega
        have hk1 : (k : Int) < (n : Int) := by omega
        have heq := eqA_run a b
        have HIFF := Lib.hid (eqA_iff a b)
        generalize eqA a b = bb at *
        cases bb with
        | true =>
          obtain rfl := HIFF.out.1 rfl
          go_wp2_with fail
          go_quiet (fail)
          go_wp2_with fail
          exact ⟨⟨k + 1, by omega, by go_num, Lib.hid (by rw [HL1.out, HM1.out, HE.out]), below_drewN hb _⟩, by simp [intOf]; omega⟩
        | false =>
          have HNE := Lib.hid (show ¬ ((⟨⟨tr1, id1, pa1, sv1, op1, st1, ln1, sj1, ats1⟩, dp1, lo1⟩ : Sen) = ⟨⟨tr1, id1, pa1, sv1, op1, st1, ln1, sj1, ats2⟩, dp1, lo1⟩) by
            intro e
            have e2 : ats1 = ats2 := congrArg (fun z : Sen => z.sp.ats) e
            have h1 := HL1.out
            rw [e2, HM1.out] at h1
            have h2 := List.append_cancel_left h1
            injection h2 with h3
            have := HIFF.out.2 h3.symm
            simp at this)
          go_wp2_with fail
          go_quiet (fail)
          go_wp2_with fail
          go_ret
          exact smNo HNE.out (nx HB1.out (below_drewN hb _))
      · obtain rfl : k = n := by omega
        have HY := Lib.hid (show ats1 = ats2 by
          have h1 := HE.out
          rw [List.take_of_length_le (by rw [HNL.out]; exact Nat.le_refl _), List.take_of_length_le (by rw [HML.out]; exact Nat.le_refl _)] at h1
          exact h1)
        go_wp2_with fail
        go_ret
        exact smYes (by rw [HY.out]) (nx HB1.out hb)
set_option maxHeartbeats 32000000 in
set_option maxRecDepth 100000 in
theorem sameSeen_any {A B : Option Addr} {n c m d : Nat} {s t : Sen} {w : World} (h : AS w A n c s.sp.ats) (h2 : AS w B m d t.sp.ats) :
    Calls Tryz.prog 60 #[s.v (.slice A n c), t.v (.slice B m d)] w fun e w' => SmR w w' e (s = t) := by
  obtain ⟨⟨tr1, id1, pa1, sv1, op1, st1, ln1, sj1, ats1⟩, dp1, lo1⟩ := s
  obtain ⟨⟨tr2, id2, pa2, sv2, op2, st2, ln2, sj2, ats2⟩, dp2, lo2⟩ := t
  unfold Sen.v
  simp only at h h2 ⊢
  have hb1 := nx (bel1 w (.cells #[.int .i64 tr1, .int .i64 id1, .int .i64 pa1, .string sv1, .string op1, .int .i64 st1, .int .i64 ln1, .string sj1, .slice A n c, .int .i64 dp1, .bool lo1] 50)) (bel1 (w.alloc (.cells #[.int .i64 tr1, .int .i64 id1, .int .i64 pa1, .string sv1, .string op1, .int .i64 st1, .int .i64 ln1, .string sj1, .slice A n c, .int .i64 dp1, .bool lo1] 50)) (.cells #[.int .i64 tr2, .int .i64 id2, .int .i64 pa2, .string sv2, .string op2, .int .i64 st2, .int .i64 ln2, .string sj2, .slice B m d, .int .i64 dp2, .bool lo2] 50))
  have X1 := blkB (heap_alloc_new w (.cells #[.int .i64 tr1, .int .i64 id1, .int .i64 pa1, .string sv1, .string op1, .int .i64 st1, .int .i64 ln1, .string sj1, .slice A n c, .int .i64 dp1, .bool lo1] 50)) (bel1 _ (.cells #[.int .i64 tr2, .int .i64 id2, .int .i64 pa2, .string sv2, .string op2, .int .i64 st2, .int .i64 ln2, .string sj2, .slice B m d, .int .i64 dp2, .bool lo2] 50))
  have X2 := heap_alloc_new (w.alloc (.cells #[.int .i64 tr1, .int .i64 id1, .int .i64 pa1, .string sv1, .string op1, .int .i64 st1, .int .i64 ln1, .string sj1, .slice A n c, .int .i64 dp1, .bool lo1] 50)) (.cells #[.int .i64 tr2, .int .i64 id2, .int .i64 pa2, .string sv2, .string op2, .int .i64 st2, .int .i64 ln2, .string sj2, .slice B m d, .int .i64 dp2, .bool lo2] 50)
  rw [World.size_alloc] at X2
  have HA := Lib.hid (h.below hb1)
  have HB := Lib.hid (h2.below hb1)
  clear h h2
  go_enter Tryz.func60, Tryz.ntmps60
  go_upto_region 1 with (fail)
  obtain ⟨W0, hW⟩ : ∃ W, W = (w.alloc (.cells #[.int .i64 tr1, .int .i64 id1, .int .i64 pa1, .string sv1, .string op1, .int .i64 st1, .int .i64 ln1, .string sj1, .slice A n c, .int .i64 dp1, .bool lo1] 50)).alloc (.cells #[.int .i64 tr2, .int .i64 id2, .int .i64 pa2, .string sv2, .string op2, .int .i64 st2, .int .i64 ln2, .string sj2, .slice B m d, .int .i64 dp2, .bool lo2] 50) := ⟨_, rfl⟩
  rw [← hW] at X1 X2 hb1 HA HB ⊢
  clear hW
  have hz1 := (Array.getElem?_eq_some_iff.1 X1).1
  have hz2 := (Array.getElem?_eq_some_iff.1 X2).1
  obtain ⟨q2, hqq⟩ : ∃ q, q = w.heap.size + 1 := ⟨_, rfl⟩
  rw [← hqq] at X2 hz2 ⊢
  clear hqq
  obtain ⟨q1, hqq⟩ : ∃ q, q = w.heap.size := ⟨_, rfl⟩
  rw [← hqq] at X1 hz1 ⊢
  clear hqq
  have HB0 := Lib.hid hb1
  have HX1 := Lib.hid X1
  have HX2 := Lib.hid X2
  clear hb1 X1 X2
  have AK := Lib.hid (fun (a : World) (h1 : a.heap[q1]? = some (.cells #[.int .i64 tr1, .int .i64 id1, .int .i64 pa1, .string sv1, .string op1, .int .i64 st1, .int .i64 ln1, .string sj1, .slice A n c, .int .i64 dp1, .bool lo1] 50 (0, 0))) (h2 : a.heap[q2]? = some (.cells #[.int .i64 tr2, .int .i64 id2, .int .i64 pa2, .string sv2, .string op2, .int .i64 st2, .int .i64 ln2, .string sj2, .slice B m d, .int .i64 dp2, .bool lo2] 50 (0, 0))) => show (fun w' => w'.cell? ⟨q1, 0, none⟩ = some (.int .i64 tr1) ∧ w'.cell? ⟨q1, 1, none⟩ = some (.int .i64 id1) ∧ w'.cell? ⟨q1, 2, none⟩ = some (.int .i64 pa1) ∧ w'.cell? ⟨q1, 3, none⟩ = some (.string sv1) ∧ w'.cell? ⟨q1, 4, none⟩ = some (.string op1) ∧ w'.cell? ⟨q1, 5, none⟩ = some (.int .i64 st1) ∧ w'.cell? ⟨q1, 6, none⟩ = some (.int .i64 ln1) ∧ w'.cell? ⟨q1, 7, none⟩ = some (.string sj1) ∧ w'.cell? ⟨q1, 8, none⟩ = some (.slice A n c) ∧ w'.cell? ⟨q2, 0, none⟩ = some (.int .i64 tr2) ∧ w'.cell? ⟨q2, 1, none⟩ = some (.int .i64 id2) ∧ w'.cell? ⟨q2, 2, none⟩ = some (.int .i64 pa2) ∧ w'.cell? ⟨q2, 3, none⟩ = some (.string sv2) ∧ w'.cell? ⟨q2, 4, none⟩ = some (.string op2) ∧ w'.cell? ⟨q2, 5, none⟩ = some (.int .i64 st2) ∧ w'.cell? ⟨q2, 6, none⟩ = some (.int .i64 ln2) ∧ w'.cell? ⟨q2, 7, none⟩ = some (.string sj2) ∧ w'.cell? ⟨q2, 8, none⟩ = some (.slice B m d)) a from ⟨(cell_of h1 0), (cell_of h1 1), (cell_of h1 2), (cell_of h1 3), (cell_of h1 4), (cell_of h1 5), (cell_of h1 6), (cell_of h1 7), (cell_of h1 8), (cell_of h2 0), (cell_of h2 1), (cell_of h2 2), (cell_of h2 3), (cell_of h2 4), (cell_of h2 5), (cell_of h2 6), (cell_of h2 7), (cell_of h2 8)⟩)
  refine wp_region_held_drew (S := (fun w' => w'.cell? ⟨q1, 0, none⟩ = some (.int .i64 tr1) ∧ w'.cell? ⟨q1, 1, none⟩ = some (.int .i64 id1) ∧ w'.cell? ⟨q1, 2, none⟩ = some (.int .i64 pa1) ∧ w'.cell? ⟨q1, 3, none⟩ = some (.string sv1) ∧ w'.cell? ⟨q1, 4, none⟩ = some (.string op1) ∧ w'.cell? ⟨q1, 5, none⟩ = some (.int .i64 st1) ∧ w'.cell? ⟨q1, 6, none⟩ = some (.int .i64 ln1) ∧ w'.cell? ⟨q1, 7, none⟩ = some (.string sj1) ∧ w'.cell? ⟨q1, 8, none⟩ = some (.slice A n c) ∧ w'.cell? ⟨q2, 0, none⟩ = some (.int .i64 tr2) ∧ w'.cell? ⟨q2, 1, none⟩ = some (.int .i64 id2) ∧ w'.cell? ⟨q2, 2, none⟩ = some (.int .i64 pa2) ∧ w'.cell? ⟨q2, 3, none⟩ = some (.string sv2) ∧ w'.cell? ⟨q2, 4, none⟩ = some (.string op2) ∧ w'.cell? ⟨q2, 5, none⟩ = some (.int .i64 st2) ∧ w'.cell? ⟨q2, 6, none⟩ = some (.int .i64 ln2) ∧ w'.cell? ⟨q2, 7, none⟩ = some (.string sj2) ∧ w'.cell? ⟨q2, 8, none⟩ = some (.slice B m d))) (by kernel_rfl) (AK.out _ (by exact HX1.out) (by exact HX2.out)) (fun hHeld => ?_)
  refine' take_val (i := 0) (d := 7) (v := _) rfl rfl (by kernel_rfl) (by kernel_rfl) (by kernel_rfl) (fun _ _ _ h => h) (by rfl) ?_ (by assumption) ?_
  rotate_left
  · (intro w hSw; (try dsimp only at hSw); go_simp; (try with_reducible rfl))
  (try simp only [Act.put, List.getElem_toArray, List.getElem_cons_succ, List.getElem_cons_zero, List.setIfInBounds_toArray, List.set_cons_zero, List.set_cons_succ])
  refine' take_val (i := 1) (d := 8) (v := _) rfl rfl (by kernel_rfl) (by kernel_rfl) (by kernel_rfl) (fun _ _ _ h => h) (by rfl) ?_ (by assumption) ?_
  rotate_left
  · (intro w hSw; (try dsimp only at hSw); go_simp; (try with_reducible rfl))
  (try simp only [Act.put, List.getElem_toArray, List.getElem_cons_succ, List.getElem_cons_zero, List.setIfInBounds_toArray, List.set_cons_zero, List.set_cons_succ])
  refine' take_val (i := 2) (d := 9) (v := _) rfl rfl (by kernel_rfl) (by kernel_rfl) (by kernel_rfl) (fun _ _ _ h => h) (by rfl) ?_ (by assumption) ?_
  rotate_left
  · (intro w hSw; (try dsimp only at hSw); go_simp; (try with_reducible rfl))
  (try simp only [Act.put, List.getElem_toArray, List.getElem_cons_succ, List.getElem_cons_zero, List.setIfInBounds_toArray, List.set_cons_zero, List.set_cons_succ])
  refine' take_val (i := 3) (d := 10) (v := _) rfl rfl (by kernel_rfl) (by kernel_rfl) (by kernel_rfl) (fun _ _ _ h => h) (by rfl) ?_ (by assumption) ?_
  rotate_left
  · (intro w hSw; (try dsimp only at hSw); go_simp; (try with_reducible rfl))
  (try simp only [Act.put, List.getElem_toArray, List.getElem_cons_succ, List.getElem_cons_zero, List.setIfInBounds_toArray, List.set_cons_zero, List.set_cons_succ])
  refine wpAnyH_ready (rs := [4, 5]) (by kernel_rfl) (by simp) ?_
  refine AllReadyH.cons rfl (fun K hK => ?_) (AllReadyH.cons rfl (fun K hK => ?_) AllReadyH.nil)
  · skip
    go_simp
    go_wp2_with fail
    have Y1 := heap_alloc_new W0.drew (.cells #[.int .i64 0, .int .i64 0, .int .i64 0, .string ⟨#[]⟩, .string ⟨#[]⟩, .int .i64 0, .int .i64 0, .string ⟨#[]⟩, .slice none 0 0] 48)
    have U1 := blkB (w := W0.drew) HX1.out (bel1 W0.drew (.cells #[.int .i64 0, .int .i64 0, .int .i64 0, .string ⟨#[]⟩, .string ⟨#[]⟩, .int .i64 0, .int .i64 0, .string ⟨#[]⟩, .slice none 0 0] 48))
    have U2 := blkB (w := W0.drew) HX2.out (bel1 W0.drew (.cells #[.int .i64 0, .int .i64 0, .int .i64 0, .string ⟨#[]⟩, .string ⟨#[]⟩, .int .i64 0, .int .i64 0, .string ⟨#[]⟩, .slice none 0 0] 48))
    have HBx := nx (bel0 W0).drew (bel1 W0.drew (.cells #[.int .i64 0, .int .i64 0, .int .i64 0, .string ⟨#[]⟩, .string ⟨#[]⟩, .int .i64 0, .int .i64 0, .string ⟨#[]⟩, .slice none 0 0] 48))
    refine hK.out _ _ (AK.out _ U1 U2) (fun hHeld2 => ?_)
    clear hK K hHeld2
    (try simp only [Act.put, List.getElem_toArray, List.getElem_cons_succ, List.getElem_cons_zero, List.setIfInBounds_toArray, List.set_cons_zero, List.set_cons_succ])
    refine wpAnyH_ready (rs := [5]) (by kernel_rfl) (by simp) ?_
    refine AllReadyH.cons rfl (fun K hK => ?_) AllReadyH.nil
    go_simp
    go_wp2_with fail
    have Y2 := heap_alloc_new (W0.drew.alloc (.cells #[.int .i64 0, .int .i64 0, .int .i64 0, .string ⟨#[]⟩, .string ⟨#[]⟩, .int .i64 0, .int .i64 0, .string ⟨#[]⟩, .slice none 0 0] 48)) (.cells #[.int .i64 0, .int .i64 0, .int .i64 0, .string ⟨#[]⟩, .string ⟨#[]⟩, .int .i64 0, .int .i64 0, .string ⟨#[]⟩, .slice none 0 0] 48)
    rw [World.size_alloc] at Y2
    have Y1b := blkB Y1 (bel1 (W0.drew.alloc (.cells #[.int .i64 0, .int .i64 0, .int .i64 0, .string ⟨#[]⟩, .string ⟨#[]⟩, .int .i64 0, .int .i64 0, .string ⟨#[]⟩, .slice none 0 0] 48)) (.cells #[.int .i64 0, .int .i64 0, .int .i64 0, .string ⟨#[]⟩, .string ⟨#[]⟩, .int .i64 0, .int .i64 0, .string ⟨#[]⟩, .slice none 0 0] 48))
    have U1b := blkB U1 (bel1 (W0.drew.alloc (.cells #[.int .i64 0, .int .i64 0, .int .i64 0, .string ⟨#[]⟩, .string ⟨#[]⟩, .int .i64 0, .int .i64 0, .string ⟨#[]⟩, .slice none 0 0] 48)) (.cells #[.int .i64 0, .int .i64 0, .int .i64 0, .string ⟨#[]⟩, .string ⟨#[]⟩, .int .i64 0, .int .i64 0, .string ⟨#[]⟩, .slice none 0 0] 48))
    have U2b := blkB U2 (bel1 (W0.drew.alloc (.cells #[.int .i64 0, .int .i64 0, .int .i64 0, .string ⟨#[]⟩, .string ⟨#[]⟩, .int .i64 0, .int .i64 0, .string ⟨#[]⟩, .slice none 0 0] 48)) (.cells #[.int .i64 0, .int .i64 0, .int .i64 0, .string ⟨#[]⟩, .string ⟨#[]⟩, .int .i64 0, .int .i64 0, .string ⟨#[]⟩, .slice none 0 0] 48))
    have HBy := nx HBx (bel1 (W0.drew.alloc (.cells #[.int .i64 0, .int .i64 0, .int .i64 0, .string ⟨#[]⟩, .string ⟨#[]⟩, .int .i64 0, .int .i64 0, .string ⟨#[]⟩, .slice none 0 0] 48)) (.cells #[.int .i64 0, .int .i64 0, .int .i64 0, .string ⟨#[]⟩, .string ⟨#[]⟩, .int .i64 0, .int .i64 0, .string ⟨#[]⟩, .slice none 0 0] 48))
    refine hK.out _ _ (AK.out _ U1b U2b) (fun hHeld2 => ?_)
    clear hK K hHeld2 Y1 U1 U2 HBx
    (try simp only [Act.put, List.getElem_toArray, List.getElem_cons_succ, List.getElem_cons_zero, List.setIfInBounds_toArray, List.set_cons_zero, List.set_cons_succ])
    obtain ⟨W2, hW⟩ : ∃ W, W = (W0.drew.alloc (.cells #[.int .i64 0, .int .i64 0, .int .i64 0, .string ⟨#[]⟩, .string ⟨#[]⟩, .int .i64 0, .int .i64 0, .string ⟨#[]⟩, .slice none 0 0] 48)).alloc (.cells #[.int .i64 0, .int .i64 0, .int .i64 0, .string ⟨#[]⟩, .string ⟨#[]⟩, .int .i64 0, .int .i64 0, .string ⟨#[]⟩, .slice none 0 0] 48) := ⟨_, rfl⟩
    change wpAnyH _ _ _ _ _ _ _ _ ((W0.drew.alloc (.cells #[.int .i64 0, .int .i64 0, .int .i64 0, .string ⟨#[]⟩, .string ⟨#[]⟩, .int .i64 0, .int .i64 0, .string ⟨#[]⟩, .slice none 0 0] 48)).alloc (.cells #[.int .i64 0, .int .i64 0, .int .i64 0, .string ⟨#[]⟩, .string ⟨#[]⟩, .int .i64 0, .int .i64 0, .string ⟨#[]⟩, .slice none 0 0] 48))
    rw [← hW] at Y1b Y2 U1b U2b HBy ⊢
    clear hW
    obtain ⟨pa, hpa⟩ : ∃ p, p = W0.heap.size := ⟨_, rfl⟩
    have hpq : q1 < pa ∧ q2 < pa := by omega
    change W2.heap[W0.heap.size]? = _ at Y1b
    change W2.heap[W0.heap.size + 1]? = _ at Y2
    rw [← hpa] at Y1b Y2 ⊢
    have hpl : W0.heap.size ≤ pa := Nat.le_of_eq hpa.symm
    clear hpa
    refine wpAnyH_ready (rs := [6]) (by kernel_rfl) (by simp) ?_
    refine AllReadyH.cons rfl (fun K hK => ?_) AllReadyH.nil
    rw [if_pos (by kernel_rfl)]
    refine wp_store_mid 48 _ _ rfl (pa) 0 #[.int .i64 tr1, .int .i64 id1, .int .i64 pa1, .string sv1, .string op1, .int .i64 st1, .int .i64 ln1, .string sj1, .slice A n c] rfl rfl (there_of Y1b rfl) infoSpS (all_oneCell_toArray (by intro v hv; simp at hv; rcases hv with rfl | rfl | rfl | rfl | rfl | rfl | rfl | rfl | rfl <;> rfl)) ?_
    have V1 := heap_row Y1b [.int .i64 tr1, .int .i64 id1, .int .i64 pa1, .string sv1, .string op1, .int .i64 st1, .int .i64 ln1, .string sj1, .slice A n c] 0
    have V2 := (row_other (pa) (pa + 1) (by omega) [.int .i64 tr1, .int .i64 id1, .int .i64 pa1, .string sv1, .string op1, .int .i64 st1, .int .i64 ln1, .string sj1, .slice A n c] 0 W2).trans Y2
    have T1 := (row_other (pa) q1 (by omega) [.int .i64 tr1, .int .i64 id1, .int .i64 pa1, .string sv1, .string op1, .int .i64 st1, .int .i64 ln1, .string sj1, .slice A n c] 0 W2).trans U1b
    have T2 := (row_other (pa) q2 (by omega) [.int .i64 tr1, .int .i64 id1, .int .i64 pa1, .string sv1, .string op1, .int .i64 st1, .int .i64 ln1, .string sj1, .slice A n c] 0 W2).trans U2b
    have HBz := bel_row (q := pa) (by omega) [.int .i64 tr1, .int .i64 id1, .int .i64 pa1, .string sv1, .string op1, .int .i64 st1, .int .i64 ln1, .string sj1, .slice A n c] 0 HBy
    simp only [rowSet, List.setIfInBounds_toArray, List.set_cons_zero, List.set_cons_succ] at V1
    obtain ⟨W3, hW⟩ : ∃ W, W = W2.setCells (pa) 0 [.int .i64 tr1, .int .i64 id1, .int .i64 pa1, .string sv1, .string op1, .int .i64 st1, .int .i64 ln1, .string sj1, .slice A n c] := ⟨_, rfl⟩
    change K _ (W2.setCells (pa) 0 [.int .i64 tr1, .int .i64 id1, .int .i64 pa1, .string sv1, .string op1, .int .i64 st1, .int .i64 ln1, .string sj1, .slice A n c])
    rw [← hW] at V1 V2 T1 T2 HBz ⊢
    clear hW Y1b Y2 U1b U2b HBy
    refine hK.out _ _ (AK.out _ T1 T2) (fun hHeld2 => ?_)
    clear hK K hHeld2
    (try simp only [Act.put, List.getElem_toArray, List.getElem_cons_succ, List.getElem_cons_zero, List.setIfInBounds_toArray, List.set_cons_zero, List.set_cons_succ])
    refine wpAnyH_ready (rs := [7]) (by kernel_rfl) (by simp) ?_
    refine AllReadyH.cons rfl (fun K hK => ?_) AllReadyH.nil
    rw [if_pos (by kernel_rfl)]
    refine wp_store_mid 48 _ _ rfl (pa + 1) 0 #[.int .i64 tr2, .int .i64 id2, .int .i64 pa2, .string sv2, .string op2, .int .i64 st2, .int .i64 ln2, .string sj2, .slice B m d] rfl rfl (there_of V2 rfl) infoSpS (all_oneCell_toArray (by intro v hv; simp at hv; rcases hv with rfl | rfl | rfl | rfl | rfl | rfl | rfl | rfl | rfl <;> rfl)) ?_
    have V4 := heap_row V2 [.int .i64 tr2, .int .i64 id2, .int .i64 pa2, .string sv2, .string op2, .int .i64 st2, .int .i64 ln2, .string sj2, .slice B m d] 0
    have V3 := (row_other (pa + 1) (pa) (by omega) [.int .i64 tr2, .int .i64 id2, .int .i64 pa2, .string sv2, .string op2, .int .i64 st2, .int .i64 ln2, .string sj2, .slice B m d] 0 W3).trans V1
    have T3 := (row_other (pa + 1) q1 (by omega) [.int .i64 tr2, .int .i64 id2, .int .i64 pa2, .string sv2, .string op2, .int .i64 st2, .int .i64 ln2, .string sj2, .slice B m d] 0 W3).trans T1
    have T4 := (row_other (pa + 1) q2 (by omega) [.int .i64 tr2, .int .i64 id2, .int .i64 pa2, .string sv2, .string op2, .int .i64 st2, .int .i64 ln2, .string sj2, .slice B m d] 0 W3).trans T2
    have HBu := bel_row (q := pa + 1) (by omega) [.int .i64 tr2, .int .i64 id2, .int .i64 pa2, .string sv2, .string op2, .int .i64 st2, .int .i64 ln2, .string sj2, .slice B m d] 0 HBz
    simp only [rowSet, List.setIfInBounds_toArray, List.set_cons_zero, List.set_cons_succ] at V4
    obtain ⟨W4, hW⟩ : ∃ W, W = W3.setCells (pa + 1) 0 [.int .i64 tr2, .int .i64 id2, .int .i64 pa2, .string sv2, .string op2, .int .i64 st2, .int .i64 ln2, .string sj2, .slice B m d] := ⟨_, rfl⟩
    change K _ (W3.setCells (pa + 1) 0 [.int .i64 tr2, .int .i64 id2, .int .i64 pa2, .string sv2, .string op2, .int .i64 st2, .int .i64 ln2, .string sj2, .slice B m d])
    rw [← hW] at V3 V4 T3 T4 HBu ⊢
    clear hW V1 V2 T1 T2 HBz
    refine hK.out _ _ (AK.out _ T3 T4) (fun hHeld2 => ?_)
    clear hK K hHeld2 hHeld
    (try simp only [Act.put, List.getElem_toArray, List.getElem_cons_succ, List.getElem_cons_zero, List.setIfInBounds_toArray, List.set_cons_zero, List.set_cons_succ])
    have V3h := Lib.hid V3
    have V4h := Lib.hid V4
    have T3h := Lib.hid T3
    have T4h := Lib.hid T4
    have HBuh := Lib.hid HBu
    clear V3 V4 T3 T4 HBu
    refine wpAnyH_done (by kernel_rfl) ?_ _
    clear AK
    obtain ⟨pb, hpb⟩ : ∃ p, p = pa + 1 := ⟨_, rfl⟩
    rw [← hpb] at V4h ⊢
    clear hpb hpl hpq
    obtain ⟨wc, hW⟩ : ∃ W, W = W4 := ⟨_, rfl⟩
    rw [← hW] at V3h V4h T3h T4h HBuh ⊢
    clear hW
    have G1 := V3h
    have G2 := V4h
    have T1 := T3h
    have T2 := T4h
    have HBu := HBuh
    clear V3h V4h T3h T4h HBuh
    have x0 := cell_of G1.out 0
    have y0 := cell_of G2.out 0
    have x1 := cell_of G1.out 1
    have y1 := cell_of G2.out 1
    have x2 := cell_of G1.out 2
    have y2 := cell_of G2.out 2
    have x3 := cell_of G1.out 3
    have y3 := cell_of G2.out 3
    have x4 := cell_of G1.out 4
    have y4 := cell_of G2.out 4
    have x5 := cell_of G1.out 5
    have y5 := cell_of G2.out 5
    have x6 := cell_of G1.out 6
    have y6 := cell_of G2.out 6
    have x7 := cell_of G1.out 7
    have y7 := cell_of G2.out 7
    have x8 := cell_of G1.out 8
    have y8 := cell_of G2.out 8
    have u9 := cell_of T1.out 9
    have v9 := cell_of T2.out 9
    have u10 := cell_of T1.out 10
    have v10 := cell_of T2.out 10
    simp at x0 y0 x1 y1 x2 y2 x3 y3 x4 y4 x5 y5 x6 y6 x7 y7 x8 y8 u9 u10 v9 v10
    have HB1 := Lib.hid (nx HB0.out HBu.out)
    go_upto_region 2 with (fail)
    simp only [List.append_eq, List.cons_append, List.nil_append]
    by_cases edp : dp1 = dp2
    case neg =>
      have hsf : (dp1 == dp2) = false := by simpa using edp
      go_wp2_with fail
      go_ret
      exact smNo (fun e => edp (congrArg (fun z : Sen => z.dp) e)) HB1.out
    subst edp
    by_cases elo : lo1 = lo2
    case neg =>
      have hsf : (lo1 == lo2) = false := by simpa using elo
      go_wp2_with fail
      go_ret
      exact smNo (fun e => elo (congrArg (fun z : Sen => z.lo) e)) HB1.out
    subst elo
    by_cases etr : tr1 = tr2
    case neg =>
      have hsf : (tr1 == tr2) = false := by simpa using etr
      go_wp2_with fail
      go_ret
      exact smNo (fun e => etr (congrArg (fun z : Sen => z.sp.tr) e)) HB1.out
    subst etr
    by_cases eid : id1 = id2
    case neg =>
      have hsf : (id1 == id2) = false := by simpa using eid
      go_wp2_with fail
      go_ret
      exact smNo (fun e => eid (congrArg (fun z : Sen => z.sp.id) e)) HB1.out
    subst eid
    by_cases epa : pa1 = pa2
    case neg =>
      have hsf : (pa1 == pa2) = false := by simpa using epa
      go_wp2_with fail
      go_ret
      exact smNo (fun e => epa (congrArg (fun z : Sen => z.sp.pa) e)) HB1.out
    subst epa
    by_cases esv : sv1 = sv2
    case neg =>
      have hsf : (sv1.toList == sv2.toList) = false := by simpa using (fun e => esv (toList_inj e))
      go_wp2_with fail
      go_ret
      exact smNo (fun e => esv (congrArg (fun z : Sen => z.sp.sv) e)) HB1.out
    subst esv
    by_cases eop : op1 = op2
    case neg =>
      have hsf : (op1.toList == op2.toList) = false := by simpa using (fun e => eop (toList_inj e))
      go_wp2_with fail
      go_ret
      exact smNo (fun e => eop (congrArg (fun z : Sen => z.sp.op) e)) HB1.out
    subst eop
    by_cases est : st1 = st2
    case neg =>
      have hsf : (st1 == st2) = false := by simpa using est
      go_wp2_with fail
      go_ret
      exact smNo (fun e => est (congrArg (fun z : Sen => z.sp.st) e)) HB1.out
    subst est
    by_cases eln : ln1 = ln2
    case neg =>
      have hsf : (ln1 == ln2) = false := by simpa using eln
      go_wp2_with fail
      go_ret
      exact smNo (fun e => eln (congrArg (fun z : Sen => z.sp.ln) e)) HB1.out
    subst eln
    by_cases esj : sj1 = sj2
    case neg =>
      have hsf : (sj1.toList == sj2.toList) = false := by simpa using (fun e => esj (toList_inj e))
      go_wp2_with fail
      go_ret
      exact smNo (fun e => esj (congrArg (fun z : Sen => z.sp.sj) e)) HB1.out
    subst esj
    go_wp2_with fail
    refine (eqAtts_any (HA.out.below HBu.out) (HB.out.below HBu.out)).mono ?_
    rintro e w9 ⟨bb, rfl, hbb, hb2⟩
    have HBB := Lib.hid hbb
    have HB2 := Lib.hid (nx HB1.out hb2)
    clear hbb hb2
    go_wp2_with fail
    go_ret
    exact ⟨bb, rfl, ⟨fun h => by rw [HBB.out.1 h], fun e => HBB.out.2 (congrArg (fun z : Sen => z.sp.ats) e)⟩, HB2.out⟩
  · skip
    go_simp
    go_wp2_with fail
    have Y1 := heap_alloc_new W0.drew (.cells #[.int .i64 0, .int .i64 0, .int .i64 0, .string ⟨#[]⟩, .string ⟨#[]⟩, .int .i64 0, .int .i64 0, .string ⟨#[]⟩, .slice none 0 0] 48)
    have U1 := blkB (w := W0.drew) HX1.out (bel1 W0.drew (.cells #[.int .i64 0, .int .i64 0, .int .i64 0, .string ⟨#[]⟩, .string ⟨#[]⟩, .int .i64 0, .int .i64 0, .string ⟨#[]⟩, .slice none 0 0] 48))
    have U2 := blkB (w := W0.drew) HX2.out (bel1 W0.drew (.cells #[.int .i64 0, .int .i64 0, .int .i64 0, .string ⟨#[]⟩, .string ⟨#[]⟩, .int .i64 0, .int .i64 0, .string ⟨#[]⟩, .slice none 0 0] 48))
    have HBx := nx (bel0 W0).drew (bel1 W0.drew (.cells #[.int .i64 0, .int .i64 0, .int .i64 0, .string ⟨#[]⟩, .string ⟨#[]⟩, .int .i64 0, .int .i64 0, .string ⟨#[]⟩, .slice none 0 0] 48))
    refine hK.out _ _ (AK.out _ U1 U2) (fun hHeld2 => ?_)
    clear hK K hHeld2
    (try simp only [Act.put, List.getElem_toArray, List.getElem_cons_succ, List.getElem_cons_zero, List.setIfInBounds_toArray, List.set_cons_zero, List.set_cons_succ])
    refine wpAnyH_ready (rs := [4]) (by kernel_rfl) (by simp) ?_
    refine AllReadyH.cons rfl (fun K hK => ?_) AllReadyH.nil
    go_simp
    go_wp2_with fail
    have Y2 := heap_alloc_new (W0.drew.alloc (.cells #[.int .i64 0, .int .i64 0, .int .i64 0, .string ⟨#[]⟩, .string ⟨#[]⟩, .int .i64 0, .int .i64 0, .string ⟨#[]⟩, .slice none 0 0] 48)) (.cells #[.int .i64 0, .int .i64 0, .int .i64 0, .string ⟨#[]⟩, .string ⟨#[]⟩, .int .i64 0, .int .i64 0, .string ⟨#[]⟩, .slice none 0 0] 48)
    rw [World.size_alloc] at Y2
    have Y1b := blkB Y1 (bel1 (W0.drew.alloc (.cells #[.int .i64 0, .int .i64 0, .int .i64 0, .string ⟨#[]⟩, .string ⟨#[]⟩, .int .i64 0, .int .i64 0, .string ⟨#[]⟩, .slice none 0 0] 48)) (.cells #[.int .i64 0, .int .i64 0, .int .i64 0, .string ⟨#[]⟩, .string ⟨#[]⟩, .int .i64 0, .int .i64 0, .string ⟨#[]⟩, .slice none 0 0] 48))
    have U1b := blkB U1 (bel1 (W0.drew.alloc (.cells #[.int .i64 0, .int .i64 0, .int .i64 0, .string ⟨#[]⟩, .string ⟨#[]⟩, .int .i64 0, .int .i64 0, .string ⟨#[]⟩, .slice none 0 0] 48)) (.cells #[.int .i64 0, .int .i64 0, .int .i64 0, .string ⟨#[]⟩, .string ⟨#[]⟩, .int .i64 0, .int .i64 0, .string ⟨#[]⟩, .slice none 0 0] 48))
    have U2b := blkB U2 (bel1 (W0.drew.alloc (.cells #[.int .i64 0, .int .i64 0, .int .i64 0, .string ⟨#[]⟩, .string ⟨#[]⟩, .int .i64 0, .int .i64 0, .string ⟨#[]⟩, .slice none 0 0] 48)) (.cells #[.int .i64 0, .int .i64 0, .int .i64 0, .string ⟨#[]⟩, .string ⟨#[]⟩, .int .i64 0, .int .i64 0, .string ⟨#[]⟩, .slice none 0 0] 48))
    have HBy := nx HBx (bel1 (W0.drew.alloc (.cells #[.int .i64 0, .int .i64 0, .int .i64 0, .string ⟨#[]⟩, .string ⟨#[]⟩, .int .i64 0, .int .i64 0, .string ⟨#[]⟩, .slice none 0 0] 48)) (.cells #[.int .i64 0, .int .i64 0, .int .i64 0, .string ⟨#[]⟩, .string ⟨#[]⟩, .int .i64 0, .int .i64 0, .string ⟨#[]⟩, .slice none 0 0] 48))
    refine hK.out _ _ (AK.out _ U1b U2b) (fun hHeld2 => ?_)
    clear hK K hHeld2 Y1 U1 U2 HBx
    (try simp only [Act.put, List.getElem_toArray, List.getElem_cons_succ, List.getElem_cons_zero, List.setIfInBounds_toArray, List.set_cons_zero, List.set_cons_succ])
    obtain ⟨W2, hW⟩ : ∃ W, W = (W0.drew.alloc (.cells #[.int .i64 0, .int .i64 0, .int .i64 0, .string ⟨#[]⟩, .string ⟨#[]⟩, .int .i64 0, .int .i64 0, .string ⟨#[]⟩, .slice none 0 0] 48)).alloc (.cells #[.int .i64 0, .int .i64 0, .int .i64 0, .string ⟨#[]⟩, .string ⟨#[]⟩, .int .i64 0, .int .i64 0, .string ⟨#[]⟩, .slice none 0 0] 48) := ⟨_, rfl⟩
    change wpAnyH _ _ _ _ _ _ _ _ ((W0.drew.alloc (.cells #[.int .i64 0, .int .i64 0, .int .i64 0, .string ⟨#[]⟩, .string ⟨#[]⟩, .int .i64 0, .int .i64 0, .string ⟨#[]⟩, .slice none 0 0] 48)).alloc (.cells #[.int .i64 0, .int .i64 0, .int .i64 0, .string ⟨#[]⟩, .string ⟨#[]⟩, .int .i64 0, .int .i64 0, .string ⟨#[]⟩, .slice none 0 0] 48))
    rw [← hW] at Y1b Y2 U1b U2b HBy ⊢
    clear hW
    obtain ⟨pa, hpa⟩ : ∃ p, p = W0.heap.size := ⟨_, rfl⟩
    have hpq : q1 < pa ∧ q2 < pa := by omega
    change W2.heap[W0.heap.size]? = _ at Y1b
    change W2.heap[W0.heap.size + 1]? = _ at Y2
    rw [← hpa] at Y1b Y2 ⊢
    have hpl : W0.heap.size ≤ pa := Nat.le_of_eq hpa.symm
    clear hpa
    refine wpAnyH_ready (rs := [6]) (by kernel_rfl) (by simp) ?_
    refine AllReadyH.cons rfl (fun K hK => ?_) AllReadyH.nil
    rw [if_pos (by kernel_rfl)]
    refine wp_store_mid 48 _ _ rfl (pa + 1) 0 #[.int .i64 tr1, .int .i64 id1, .int .i64 pa1, .string sv1, .string op1, .int .i64 st1, .int .i64 ln1, .string sj1, .slice A n c] rfl rfl (there_of Y2 rfl) infoSpS (all_oneCell_toArray (by intro v hv; simp at hv; rcases hv with rfl | rfl | rfl | rfl | rfl | rfl | rfl | rfl | rfl <;> rfl)) ?_
    have V1 := heap_row Y2 [.int .i64 tr1, .int .i64 id1, .int .i64 pa1, .string sv1, .string op1, .int .i64 st1, .int .i64 ln1, .string sj1, .slice A n c] 0
    have V2 := (row_other (pa + 1) (pa) (by omega) [.int .i64 tr1, .int .i64 id1, .int .i64 pa1, .string sv1, .string op1, .int .i64 st1, .int .i64 ln1, .string sj1, .slice A n c] 0 W2).trans Y1b
    have T1 := (row_other (pa + 1) q1 (by omega) [.int .i64 tr1, .int .i64 id1, .int .i64 pa1, .string sv1, .string op1, .int .i64 st1, .int .i64 ln1, .string sj1, .slice A n c] 0 W2).trans U1b
    have T2 := (row_other (pa + 1) q2 (by omega) [.int .i64 tr1, .int .i64 id1, .int .i64 pa1, .string sv1, .string op1, .int .i64 st1, .int .i64 ln1, .string sj1, .slice A n c] 0 W2).trans U2b
    have HBz := bel_row (q := pa + 1) (by omega) [.int .i64 tr1, .int .i64 id1, .int .i64 pa1, .string sv1, .string op1, .int .i64 st1, .int .i64 ln1, .string sj1, .slice A n c] 0 HBy
    simp only [rowSet, List.setIfInBounds_toArray, List.set_cons_zero, List.set_cons_succ] at V1
    obtain ⟨W3, hW⟩ : ∃ W, W = W2.setCells (pa + 1) 0 [.int .i64 tr1, .int .i64 id1, .int .i64 pa1, .string sv1, .string op1, .int .i64 st1, .int .i64 ln1, .string sj1, .slice A n c] := ⟨_, rfl⟩
    change K _ (W2.setCells (pa + 1) 0 [.int .i64 tr1, .int .i64 id1, .int .i64 pa1, .string sv1, .string op1, .int .i64 st1, .int .i64 ln1, .string sj1, .slice A n c])
    rw [← hW] at V1 V2 T1 T2 HBz ⊢
    clear hW Y1b Y2 U1b U2b HBy
    refine hK.out _ _ (AK.out _ T1 T2) (fun hHeld2 => ?_)
    clear hK K hHeld2
    (try simp only [Act.put, List.getElem_toArray, List.getElem_cons_succ, List.getElem_cons_zero, List.setIfInBounds_toArray, List.set_cons_zero, List.set_cons_succ])
    refine wpAnyH_ready (rs := [7]) (by kernel_rfl) (by simp) ?_
    refine AllReadyH.cons rfl (fun K hK => ?_) AllReadyH.nil
    rw [if_pos (by kernel_rfl)]
    refine wp_store_mid 48 _ _ rfl (pa) 0 #[.int .i64 tr2, .int .i64 id2, .int .i64 pa2, .string sv2, .string op2, .int .i64 st2, .int .i64 ln2, .string sj2, .slice B m d] rfl rfl (there_of V2 rfl) infoSpS (all_oneCell_toArray (by intro v hv; simp at hv; rcases hv with rfl | rfl | rfl | rfl | rfl | rfl | rfl | rfl | rfl <;> rfl)) ?_
    have V4 := heap_row V2 [.int .i64 tr2, .int .i64 id2, .int .i64 pa2, .string sv2, .string op2, .int .i64 st2, .int .i64 ln2, .string sj2, .slice B m d] 0
    have V3 := (row_other (pa) (pa + 1) (by omega) [.int .i64 tr2, .int .i64 id2, .int .i64 pa2, .string sv2, .string op2, .int .i64 st2, .int .i64 ln2, .string sj2, .slice B m d] 0 W3).trans V1
    have T3 := (row_other (pa) q1 (by omega) [.int .i64 tr2, .int .i64 id2, .int .i64 pa2, .string sv2, .string op2, .int .i64 st2, .int .i64 ln2, .string sj2, .slice B m d] 0 W3).trans T1
    have T4 := (row_other (pa) q2 (by omega) [.int .i64 tr2, .int .i64 id2, .int .i64 pa2, .string sv2, .string op2, .int .i64 st2, .int .i64 ln2, .string sj2, .slice B m d] 0 W3).trans T2
    have HBu := bel_row (q := pa) (by omega) [.int .i64 tr2, .int .i64 id2, .int .i64 pa2, .string sv2, .string op2, .int .i64 st2, .int .i64 ln2, .string sj2, .slice B m d] 0 HBz
    simp only [rowSet, List.setIfInBounds_toArray, List.set_cons_zero, List.set_cons_succ] at V4
    obtain ⟨W4, hW⟩ : ∃ W, W = W3.setCells (pa) 0 [.int .i64 tr2, .int .i64 id2, .int .i64 pa2, .string sv2, .string op2, .int .i64 st2, .int .i64 ln2, .string sj2, .slice B m d] := ⟨_, rfl⟩
    change K _ (W3.setCells (pa) 0 [.int .i64 tr2, .int .i64 id2, .int .i64 pa2, .string sv2, .string op2, .int .i64 st2, .int .i64 ln2, .string sj2, .slice B m d])
    rw [← hW] at V3 V4 T3 T4 HBu ⊢
    clear hW V1 V2 T1 T2 HBz
    refine hK.out _ _ (AK.out _ T3 T4) (fun hHeld2 => ?_)
    clear hK K hHeld2 hHeld
    (try simp only [Act.put, List.getElem_toArray, List.getElem_cons_succ, List.getElem_cons_zero, List.setIfInBounds_toArray, List.set_cons_zero, List.set_cons_succ])
    have V3h := Lib.hid V3
    have V4h := Lib.hid V4
    have T3h := Lib.hid T3
    have T4h := Lib.hid T4
    have HBuh := Lib.hid HBu
    clear V3 V4 T3 T4 HBu
    refine wpAnyH_done (by kernel_rfl) ?_ _
    clear AK
    obtain ⟨pb, hpb⟩ : ∃ p, p = pa + 1 := ⟨_, rfl⟩
    rw [← hpb] at V3h ⊢
    clear hpb hpl hpq
    obtain ⟨wc, hW⟩ : ∃ W, W = W4 := ⟨_, rfl⟩
    rw [← hW] at V3h V4h T3h T4h HBuh ⊢
    clear hW
    have G1 := V3h
    have G2 := V4h
    have T1 := T3h
    have T2 := T4h
    have HBu := HBuh
    clear V3h V4h T3h T4h HBuh
    have x0 := cell_of G1.out 0
    have y0 := cell_of G2.out 0
    have x1 := cell_of G1.out 1
    have y1 := cell_of G2.out 1
    have x2 := cell_of G1.out 2
    have y2 := cell_of G2.out 2
    have x3 := cell_of G1.out 3
    have y3 := cell_of G2.out 3
    have x4 := cell_of G1.out 4
    have y4 := cell_of G2.out 4
    have x5 := cell_of G1.out 5
    have y5 := cell_of G2.out 5
    have x6 := cell_of G1.out 6
    have y6 := cell_of G2.out 6
    have x7 := cell_of G1.out 7
    have y7 := cell_of G2.out 7
    have x8 := cell_of G1.out 8
    have y8 := cell_of G2.out 8
    have u9 := cell_of T1.out 9
    have v9 := cell_of T2.out 9
    have u10 := cell_of T1.out 10
    have v10 := cell_of T2.out 10
    simp at x0 y0 x1 y1 x2 y2 x3 y3 x4 y4 x5 y5 x6 y6 x7 y7 x8 y8 u9 u10 v9 v10
    have HB1 := Lib.hid (nx HB0.out HBu.out)
    go_upto_region 2 with (fail)
    simp only [List.append_eq, List.cons_append, List.nil_append]
    by_cases edp : dp1 = dp2
    case neg =>
      have hsf : (dp1 == dp2) = false := by simpa using edp
      go_wp2_with fail
      go_ret
      exact smNo (fun e => edp (congrArg (fun z : Sen => z.dp) e)) HB1.out
    subst edp
    by_cases elo : lo1 = lo2
    case neg =>
      have hsf : (lo1 == lo2) = false := by simpa using elo
      go_wp2_with fail
      go_ret
      exact smNo (fun e => elo (congrArg (fun z : Sen => z.lo) e)) HB1.out
    subst elo
    by_cases etr : tr1 = tr2
    case neg =>
      have hsf : (tr1 == tr2) = false := by simpa using etr
      go_wp2_with fail
      go_ret
      exact smNo (fun e => etr (congrArg (fun z : Sen => z.sp.tr) e)) HB1.out
    subst etr
    by_cases eid : id1 = id2
    case neg =>
      have hsf : (id1 == id2) = false := by simpa using eid
      go_wp2_with fail
      go_ret
      exact smNo (fun e => eid (congrArg (fun z : Sen => z.sp.id) e)) HB1.out
    subst eid
    by_cases epa : pa1 = pa2
    case neg =>
      have hsf : (pa1 == pa2) = false := by simpa using epa
      go_wp2_with fail
      go_ret
      exact smNo (fun e => epa (congrArg (fun z : Sen => z.sp.pa) e)) HB1.out
    subst epa
    by_cases esv : sv1 = sv2
    case neg =>
      have hsf : (sv1.toList == sv2.toList) = false := by simpa using (fun e => esv (toList_inj e))
      go_wp2_with fail
      go_ret
      exact smNo (fun e => esv (congrArg (fun z : Sen => z.sp.sv) e)) HB1.out
    subst esv
    by_cases eop : op1 = op2
    case neg =>
      have hsf : (op1.toList == op2.toList) = false := by simpa using (fun e => eop (toList_inj e))
      go_wp2_with fail
      go_ret
      exact smNo (fun e => eop (congrArg (fun z : Sen => z.sp.op) e)) HB1.out
    subst eop
    by_cases est : st1 = st2
    case neg =>
      have hsf : (st1 == st2) = false := by simpa using est
      go_wp2_with fail
      go_ret
      exact smNo (fun e => est (congrArg (fun z : Sen => z.sp.st) e)) HB1.out
    subst est
    by_cases eln : ln1 = ln2
    case neg =>
      have hsf : (ln1 == ln2) = false := by simpa using eln
      go_wp2_with fail
      go_ret
      exact smNo (fun e => eln (congrArg (fun z : Sen => z.sp.ln) e)) HB1.out
    subst eln
    by_cases esj : sj1 = sj2
    case neg =>
      have hsf : (sj1.toList == sj2.toList) = false := by simpa using (fun e => esj (toList_inj e))
      go_wp2_with fail
      go_ret
      exact smNo (fun e => esj (congrArg (fun z : Sen => z.sp.sj) e)) HB1.out
    subst esj
    go_wp2_with fail
    refine (eqAtts_any (HA.out.below HBu.out) (HB.out.below HBu.out)).mono ?_
    rintro e w9 ⟨bb, rfl, hbb, hb2⟩
    have HBB := Lib.hid hbb
    have HB2 := Lib.hid (nx HB1.out hb2)
    clear hbb hb2
    go_wp2_with fail
    go_ret
    exact ⟨bb, rfl, ⟨fun h => by rw [HBB.out.1 h], fun e => HBB.out.2 (congrArg (fun z : Sen => z.sp.ats) e)⟩, HB2.out⟩
end Go.Proofs.YtfedgjahbmcpoaaGreat
