/- reply.Parse: its contract. No conditions. -/
import Derived.Test.YtfedgjahbmcpoaaGreatGB31
import Derived.Test.YtfedgjahbmcpoaaGreatGB29
import Derived.Test.YtfedgjahbmcpoaaGreatGB32
import Derived.Test.YtfedgjahbmcpoaaGreatGB38
set_option linter.unusedSimpArgs false
set_option linter.unusedVariables false
namespace Go.Proofs.YtfedgjahbmcpoaaGreat
open Go.RowKit

/-- Where Parse stands: the reader, its box, the answer's box (untouched). -/
structure RpA (w0 w : World) (lo g q2 q4 : Nat) (e : Int) (l : List Nat) : Prop where
  bel : Below w0.heap.size w0 w
  rd : Rdr w lo g e l
  b2 : w.heap[q2]? = some (.cells #[.int .i64 0, .slice none 0 0, .int .i64 0, .slice none 0 0, .slice none 0 0, .int .i64 0] 29 (0, 0))
  b4 : w.heap[q4]? = some (.cells #[.pointer (some ⟨g, 0, none⟩)] 43 (0, 0))
  lo0 : w0.heap.size ≤ lo
  lo2 : w0.heap.size ≤ q2
  n2 : q2 < lo
  g4 : g < q4
theorem RpA.read {w0 w w' : World} {lo g q2 q4 : Nat} {e e' : Int} {l l' : List Nat} (h : RpA w0 w lo g q2 q4 e l) (hr : Rdr w' lo g e' l') (hg : w.grownBy w' (some g)) : RpA w0 w' lo g q2 q4 e' l' := by
  have h1 := hr.lt; have h2 := h.n2; have h3 := h.g4; have h4 := h.lo0
  exact ⟨grown_bel h.bel hg (by omega), hr, gblk h.b2 hg (by omega), gblk h.b4 hg (by omega), h4, h.lo2, h2, h3⟩
theorem RpA.below {w0 w w' : World} {lo g q2 q4 : Nat} {e : Int} {l : List Nat} (h : RpA w0 w lo g q2 q4 e l) (hb : Below w.heap.size w w') : RpA w0 w' lo g q2 q4 e l :=
  ⟨nx h.bel hb, h.rd.below hb, blkB h.b2 hb, blkB h.b4 hb, h.lo0, h.lo2, h.n2, h.g4⟩
theorem RpA.set {w0 w : World} {lo g q2 q4 q5 : Nat} {e : Int} {l : List Nat} (h : RpA w0 w lo g q2 q4 e l) (hq : q4 < q5) (j : Nat) (v : Value) : RpA w0 (w.setCell ⟨q5, j, none⟩ v) lo g q2 q4 e l := by
  have h1 := h.rd.lt; have h2 := h.n2; have h3 := h.g4; have h4 := h.lo0
  exact ⟨h.bel.setCell (p := ⟨q5, j, none⟩) (by show w0.heap.size ≤ q5; omega) _, rset h.rd (by omega) j v, (Below.heap_setCell w ⟨q5, j, none⟩ v q2 (by show q2 ≠ q5; omega)).trans h.b2, (Below.heap_setCell w ⟨q5, j, none⟩ v q4 (by show q4 ≠ q5; omega)).trans h.b4, h4, h.lo2, h2, h3⟩
/-- Numbers are read, the answer's box is made. -/
structure RpB (w0 w : World) (lo g q2 q4 q5 : Nat) (e : Int) (l : List Nat) (cs : Array Value) : Prop where
  a : RpA w0 w lo g q2 q4 e l
  b5 : w.heap[q5]? = some (.cells cs 29 (0, 0))
  n45 : q4 < q5
theorem RpB.read {w0 w w' : World} {lo g q2 q4 q5 : Nat} {e e' : Int} {l l' : List Nat} {cs : Array Value} (h : RpB w0 w lo g q2 q4 q5 e l cs) (hr : Rdr w' lo g e' l') (hg : w.grownBy w' (some g)) : RpB w0 w' lo g q2 q4 q5 e' l' cs := by
  have h1 := h.a.g4; have h2 := h.n45
  exact ⟨h.a.read hr hg, gblk h.b5 hg (by omega), h2⟩
theorem RpB.below {w0 w w' : World} {lo g q2 q4 q5 : Nat} {e : Int} {l : List Nat} {cs : Array Value} (h : RpB w0 w lo g q2 q4 q5 e l cs) (hb : Below w.heap.size w w') : RpB w0 w' lo g q2 q4 q5 e l cs := ⟨h.a.below hb, blkB h.b5 hb, h.n45⟩
theorem RpB.set {w0 w : World} {lo g q2 q4 q5 : Nat} {e : Int} {l : List Nat} {cs : Array Value} (h : RpB w0 w lo g q2 q4 q5 e l cs) (j : Nat) (v : Value) : RpB w0 (w.setCell ⟨q5, j, none⟩ v) lo g q2 q4 q5 e l (cs.setIfInBounds j v) := ⟨h.a.set h.n45 j v, heap_set h.b5 j v, h.n45⟩
theorem tkLm_len {α : Type} (most : Nat) (one : Int → List Nat → α × Int × List Nat) (e : Int) (l : List Nat) : (tkLm most one e l).1.length ≤ most := by
  unfold tkLm
  simp only
  by_cases h : most < (nb 9007199254740991 e l).1
  · rw [if_pos h, tkM_stop one _ (failE_no _)]
    exact Nat.zero_le _
  · have := tkM_len one (nb 9007199254740991 e l).1 (if most < (nb 9007199254740991 e l).1 then failE (nb 9007199254740991 e l).2.1 270 else (nb 9007199254740991 e l).2.1) (nb 9007199254740991 e l).2.2
    omega
/-- An answer in memory of its own. -/
structure AnO (w : World) (base : Nat) (a : Ans) (u v z : Value) : Prop where
  sn : EOwn snO w base u a.sn
  ce : EOwn ceO w base v a.ce
  ed : EOwn edO w base z a.ed
theorem AnO.below {w w' : World} {base : Nat} {a : Ans} {u v z : Value} (h : AnO w base a u v z) (hb : Below w.heap.size w w') : AnO w' base a u v z := ⟨h.sn.below hb, h.ce.below hb, h.ed.below hb⟩
theorem AnO.far {w : World} {base : Nat} {a : Ans} {u v z : Value} (h : AnO w base a u v z) {q : Nat} (hq : q < base) (j : Nat) (x : Value) : AnO (w.setCell ⟨q, j, none⟩ x) base a u v z := ⟨h.sn.far hq j x, h.ce.far hq j x, h.ed.far hq j x⟩
theorem AnO.base {w : World} {base base' : Nat} {a : Ans} {u v z : Value} (h : AnO w base a u v z) (hb : base' ≤ base) : AnO w base' a u v z := ⟨h.sn.base hb, h.ce.base hb, h.ed.base hb⟩
theorem AnO.l {w : World} {base : Nat} {a : Ans} {u v z : Value} (h : AnO w base a u v z) (hp : ∀ s ∈ a.sn, (∀ a ∈ s.sp.ats, a.lab.p < 4294967296) ∧ s.sp.ats.length ≤ 2199023255552) (l1 : a.sn.length ≤ 8796093021952) (l2 : a.ce.length ≤ 8796093021952) (l3 : a.ed.length ≤ 8796093021952) : AnL w a u v z := by
  obtain ⟨B1, d1, e1, g1, _⟩ := h.sn.el (p := fun x : Sen => (∀ a ∈ x.sp.ats, a.lab.p < 4294967296) ∧ x.sp.ats.length ≤ 2199023255552) snO_rd hp l1
  obtain ⟨B2, d2, e2, g2, _⟩ := h.ce.el (p := fun _ : Cel => True) ceO_rd (fun _ _ => trivial) l2
  obtain ⟨B3, d3, e3, g3, _⟩ := h.ed.el (p := fun _ : Edg => True) edO_rd (fun _ _ => trivial) l3
  exact ⟨⟨_, _, e1, g1⟩, ⟨_, _, e2, g2⟩, ⟨_, _, e3, g3⟩⟩
/-- An answer that was read, or none. -/
def RpR (w w' : World) (e : Ending) (x : Ans × Int) : Prop := ∃ u v z, e = .returned (.tuple #[anV x.1 u v z, .int .i64 x.2]) ∧ AnL w' x.1 u v z ∧ Below w.heap.size w w'
set_option maxHeartbeats 64000000 in
set_option maxRecDepth 100000 in
theorem rParse_any {A : Option Addr} {n c : Nat} {l : List Nat} {w : World} (h : BS w A n c l) :
    Calls Tryz.prog 6 #[.slice A n c] w fun e w' => RpR w w' e (prAn l) := by
  have HA := Lib.hid h
  clear h
  have hbq := bel1 w (.cells #[.int .i64 0, .slice none 0 0, .int .i64 0, .slice none 0 0, .slice none 0 0, .int .i64 0] 29)
  have BQ := heap_alloc_new w (.cells #[.int .i64 0, .slice none 0 0, .int .i64 0, .slice none 0 0, .slice none 0 0, .int .i64 0] 29)
  obtain ⟨x1, hx1⟩ : ∃ x, x = nb 9007199254740991 0 l := ⟨_, rfl⟩
  obtain ⟨x2, hx2⟩ : ∃ x, x = nb 9007199254740991 x1.2.1 x1.2.2 := ⟨_, rfl⟩
  obtain ⟨x3, hx3⟩ : ∃ x, x = nb 9007199254740991 x2.2.1 x2.2.2 := ⟨_, rfl⟩
  obtain ⟨y1, hy1⟩ : ∃ x, x = tkLm 1000 tkSn x3.2.1 x3.2.2 := ⟨_, rfl⟩
  obtain ⟨y2, hy2⟩ : ∃ x, x = tkLm 20 tkCe y1.2.1 y1.2.2 := ⟨_, rfl⟩
  obtain ⟨y3, hy3⟩ : ∃ x, x = tkLm 10000 tkEd y2.2.1 y2.2.2 := ⟨_, rfl⟩
  have HT := Lib.hid (show tkAn l = (⟨(x1.1 : Int), y1.1, (x2.1 : Int), y2.1, y3.1, (x3.1 : Int)⟩, y3.2) by
    have hu : tkU 3 0 l = ([x1.1, x2.1, x3.1], x3.2) := by simp only [tkU, ← hx1, ← hx2, ← hx3]
    unfold tkAn
    simp only [hu, ← hy1, ← hy2, ← hy3]
    rfl)
  have HATS := Lib.hid (show ∀ s ∈ y1.1, (∀ a ∈ s.sp.ats, a.lab.p < 4294967296) ∧ s.sp.ats.length ≤ 8 by have := tkAn_ats l; rw [HT.out] at this; exact this)
  have Hx1 := Lib.hid hx1
  have Hx2 := Lib.hid hx2
  have Hx3 := Lib.hid hx3
  have Hy1 := Lib.hid hy1
  have Hy2 := Lib.hid hy2
  have Hy3 := Lib.hid hy3
  clear hx1 hx2 hx3 hy1 hy2 hy3
  go_enter Tryz.func6, Tryz.ntmps6
  go_wp2_with fail
  refine (New_any A n c l _ (HA.out.below hbq)).mono ?_
  rintro e w2 ⟨g, rfl, hr, hb2⟩
  have hr4 : RpA w (w2.alloc (.cells #[.pointer (some ⟨g, 0, none⟩)] 43)) (w.heap.size + 1) g w.heap.size w2.heap.size 0 l := by
    rw [World.size_alloc] at hr
    have hlg := hr.lt
    exact ⟨nx (nx hbq hb2) (bel1 _ _), hr.below (bel1 _ _), blkB (blkB BQ hb2) (bel1 _ _), heap_alloc_new w2 _, Nat.le_succ _, Nat.le_refl _, Nat.lt_succ_self _, hlg.2⟩
  have HA0 := Lib.hid hr4
  clear BQ hb2 hr hbq hr4
  go_upto_region 2 with (fail)
  obtain ⟨W0, hW⟩ : ∃ W, W = w2.alloc (.cells #[.pointer (some ⟨g, 0, none⟩)] 43) := ⟨_, rfl⟩
  rw [← hW] at HA0 ⊢
  clear hW
  obtain ⟨q4, hqq⟩ : ∃ q, q = w2.heap.size := ⟨_, rfl⟩
  rw [← hqq] at HA0 ⊢
  clear hqq
  obtain ⟨q2, hqq⟩ : ∃ q, q = w.heap.size := ⟨_, rfl⟩
  obtain ⟨lo, hlo⟩ : ∃ q, q = w.heap.size + 1 := ⟨_, rfl⟩
  replace HA0 := Lib.hid (show RpA w W0 lo g q2 q4 0 l by rw [hqq, hlo]; exact HA0.out)
  have HQ2 := Lib.hid hqq
  rw [← hqq]
  clear hqq hlo
  go_cut [5] (fun s wx => ∃ q5 : Nat, s = .pointer (some ⟨q5, 0, none⟩) ∧ Hid (RpB w wx lo g q2 q4 q5 x3.2.1 x3.2.2 #[.int .i64 (x1.1 : Int), .slice none 0 0, .int .i64 (x2.1 : Int), .slice none 0 0, .slice none 0 0, .int .i64 (x3.1 : Int)]))
  case first =>
    have k4 := cell_of HA0.out.b4 0
    simp at k4
    refine wp_region_held_drew (S := (fun w' => w'.cell? ⟨q4, 0, none⟩ = some (.pointer (some ⟨g, 0, none⟩)))) (by kernel_rfl) (by simpa using k4) (fun hHeld => ?_)
    refine' take_val (i := 0) (d := 9) (v := _) rfl rfl (by kernel_rfl) (by kernel_rfl) (by kernel_rfl) (fun _ _ _ h => h) (by rfl) ?_ (by assumption) ?_
    rotate_left
    · (intro w hSw; (try dsimp only at hSw); go_simp; (try with_reducible rfl))
    (try simp only [Act.put, List.setIfInBounds_toArray, List.set_cons_zero, List.set_cons_succ])
    refine' take_val (i := 1) (d := 10) (v := _) rfl rfl (by kernel_rfl) (by kernel_rfl) (by kernel_rfl) (fun _ _ _ h => h) (by rfl) ?_ (by assumption) ?_
    rotate_left
    · (intro w hSw; (try dsimp only at hSw); go_simp; (try with_reducible rfl))
    (try simp only [Act.put, List.setIfInBounds_toArray, List.set_cons_zero, List.set_cons_succ])
    refine' take_val (i := 3) (d := 12) (v := _) rfl rfl (by kernel_rfl) (by kernel_rfl) (by kernel_rfl) (fun _ _ _ h => h) (by rfl) ?_ (by assumption) ?_
    rotate_left
    · (intro w hSw; (try dsimp only at hSw); go_simp; (try with_reducible rfl))
    (try simp only [Act.put, List.setIfInBounds_toArray, List.set_cons_zero, List.set_cons_succ])
    refine' take_val (i := 4) (d := 13) (v := _) rfl rfl (by kernel_rfl) (by kernel_rfl) (by kernel_rfl) (fun _ _ _ h => h) (by rfl) ?_ (by assumption) ?_
    rotate_left
    · (intro w hSw; (try dsimp only at hSw); go_simp; (try with_reducible rfl))
    (try simp only [Act.put, List.setIfInBounds_toArray, List.set_cons_zero, List.set_cons_succ])
    refine' take_val (i := 6) (d := 15) (v := _) rfl rfl (by kernel_rfl) (by kernel_rfl) (by kernel_rfl) (fun _ _ _ h => h) (by rfl) ?_ (by assumption) ?_
    rotate_left
    · (intro w hSw; (try dsimp only at hSw); go_simp; (try with_reducible rfl))
    (try simp only [Act.put, List.setIfInBounds_toArray, List.set_cons_zero, List.set_cons_succ])
    refine' take_val (i := 7) (d := 16) (v := _) rfl rfl (by kernel_rfl) (by kernel_rfl) (by kernel_rfl) (fun _ _ _ h => h) (by rfl) ?_ (by assumption) ?_
    rotate_left
    · (intro w hSw; (try dsimp only at hSw); go_simp; (try with_reducible rfl))
    (try simp only [Act.put, List.setIfInBounds_toArray, List.set_cons_zero, List.set_cons_succ])
    refine wpAnyH_ready (rs := [2, 10]) (by kernel_rfl) (by simp) ?_
    refine AllReadyH.cons rfl (fun K hK => ?_) (AllReadyH.cons rfl (fun K hK => ?_) AllReadyH.nil)
    · go_simp
      go_at_call 19
      refine (rdU_any (HA0.out.below (bel0 _).drew).rd).mono ?_
      rw [← Hx1.out]
      rintro r wc0 ⟨rfl, hr, hg⟩
      have HA0c0 := Lib.hid ((HA0.out.below (bel0 _).drew).read hr hg)
      clear hr hg
      go_wp2_with fail
      refine hK.out _ _ (cell_of HA0c0.out.b4 0) (fun hHeld => ?_)
      clear hK K
      (try simp only [Act.put, List.getElem_toArray, List.getElem_cons_succ, List.getElem_cons_zero, List.setIfInBounds_toArray, List.set_cons_zero, List.set_cons_succ])
      refine wpAnyH_ready (rs := [5, 10]) (by kernel_rfl) (by simp) ?_
      refine AllReadyH.cons rfl (fun K hK => ?_) (AllReadyH.cons rfl (fun K hK => ?_) AllReadyH.nil)
      · go_simp
        go_at_call 19
        refine (rdU_any HA0c0.out.rd).mono ?_
        rw [← Hx2.out]
        rintro r wc1 ⟨rfl, hr, hg⟩
        have HA0c0c1 := Lib.hid (HA0c0.out.read hr hg)
        clear hr hg
        go_wp2_with fail
        refine hK.out _ _ (cell_of HA0c0c1.out.b4 0) (fun hHeld => ?_)
        clear hK K
        (try simp only [Act.put, List.getElem_toArray, List.getElem_cons_succ, List.getElem_cons_zero, List.setIfInBounds_toArray, List.set_cons_zero, List.set_cons_succ])
        refine wpAnyH_ready (rs := [8, 10]) (by kernel_rfl) (by simp) ?_
        refine AllReadyH.cons rfl (fun K hK => ?_) (AllReadyH.cons rfl (fun K hK => ?_) AllReadyH.nil)
        · go_simp
          go_at_call 19
          refine (rdU_any HA0c0c1.out.rd).mono ?_
          rw [← Hx3.out]
          rintro r wc2 ⟨rfl, hr, hg⟩
          have HA0c0c1c2 := Lib.hid (HA0c0c1.out.read hr hg)
          clear hr hg
          go_wp2_with fail
          refine hK.out _ _ (cell_of HA0c0c1c2.out.b4 0) (fun hHeld => ?_)
          clear hK K
          (try simp only [Act.put, List.getElem_toArray, List.getElem_cons_succ, List.getElem_cons_zero, List.setIfInBounds_toArray, List.set_cons_zero, List.set_cons_succ])
          refine' take_val (i := 9) (d := 18) (v := _) rfl rfl (by kernel_rfl) (by kernel_rfl) (by kernel_rfl) (fun _ _ _ h => h) (by rfl) ?_ (by assumption) ?_
          rotate_left
          · (intro w hSw; (try dsimp only at hSw); go_simp; (try with_reducible rfl))
          (try simp only [Act.put, List.setIfInBounds_toArray, List.set_cons_zero, List.set_cons_succ])
          refine wpAnyH_ready (rs := [10]) (by kernel_rfl) (by simp) ?_
          refine AllReadyH.cons rfl (fun K hK => ?_) AllReadyH.nil
          go_simp
          go_wp2_with fail
          have HA0c0c1c2b := Lib.hid (show RpB w ((wc2).alloc (.cells #[.int .i64 0, .slice none 0 0, .int .i64 0, .slice none 0 0, .slice none 0 0, .int .i64 0] 29)) lo g q2 q4 _ _ _ #[.int .i64 0, .slice none 0 0, .int .i64 0, .slice none 0 0, .slice none 0 0, .int .i64 0] from ⟨HA0c0c1c2.out.below (bel1 _ (.cells #[.int .i64 0, .slice none 0 0, .int .i64 0, .slice none 0 0, .slice none 0 0, .int .i64 0] 29)), heap_alloc_new _ _, (Array.getElem?_eq_some_iff.1 HA0c0c1c2.out.b4).1⟩)
          refine hK.out _ _ (cell_of HA0c0c1c2b.out.a.b4 0) (fun hHeld => ?_)
          clear hK K
          (try simp only [Act.put, List.getElem_toArray, List.getElem_cons_succ, List.getElem_cons_zero, List.setIfInBounds_toArray, List.set_cons_zero, List.set_cons_succ])
          obtain ⟨Wb, hWb⟩ : ∃ W, W = (wc2).alloc (.cells #[.int .i64 0, .slice none 0 0, .int .i64 0, .slice none 0 0, .slice none 0 0, .int .i64 0] 29) := ⟨_, rfl⟩
          change wpAnyH _ _ _ _ _ _ _ _ ((wc2).alloc (.cells #[.int .i64 0, .slice none 0 0, .int .i64 0, .slice none 0 0, .slice none 0 0, .int .i64 0] 29))
          rw [← hWb] at HA0c0c1c2b ⊢
          clear hWb hHeld
          have hHeld := cell_of HA0c0c1c2b.out.a.b4 0
          simp at hHeld
          obtain ⟨q5, hq5⟩ : ∃ q, q = (wc2).heap.size := ⟨_, rfl⟩
          skip
          rw [← hq5] at HA0c0c1c2b
          rw [← hq5]
          clear hq5
          have z0 := cell_of HA0c0c1c2b.out.b5 0
          have z1 := cell_of HA0c0c1c2b.out.b5 1
          have z2 := cell_of HA0c0c1c2b.out.b5 2
          have z3 := cell_of HA0c0c1c2b.out.b5 3
          have z4 := cell_of HA0c0c1c2b.out.b5 4
          have z5 := cell_of HA0c0c1c2b.out.b5 5
          have f0 := frozen_of HA0c0c1c2b.out.b5 0
          have f1 := frozen_of HA0c0c1c2b.out.b5 1
          have f2 := frozen_of HA0c0c1c2b.out.b5 2
          have f3 := frozen_of HA0c0c1c2b.out.b5 3
          have f4 := frozen_of HA0c0c1c2b.out.b5 4
          have f5 := frozen_of HA0c0c1c2b.out.b5 5
          simp at z0 z1 z2 z3 z4 z5
          have hn45 := Nat.ne_of_lt HA0c0c1c2b.out.n45
          refine wpAnyH_ready (rs := [11]) (by kernel_rfl) (by simp) ?_
          refine AllReadyH.cons rfl (fun K hK => ?_) AllReadyH.nil
          go_simp
          go_wp2_with fail
          have h12 := ((((((HA0c0c1c2b.out.set 0 (.int .i64 (x1.1 : Int))).set 1 (.slice none 0 0)).set 2 (.int .i64 (x2.1 : Int))).set 3 (.slice none 0 0)).set 4 (.slice none 0 0)).set 5 (.int .i64 (x3.1 : Int)))
          simp only [List.setIfInBounds_toArray, List.set_cons_zero, List.set_cons_succ] at h12
          have HF := Lib.hid h12
          clear h12 z0 f0 z1 f1 z2 f2 z3 f3 z4 f4 z5 f5
          refine hK.out _ _ (cell_of HF.out.a.b4 0) (fun hHeld => ?_)
          clear hK K
          (try simp only [Act.put, List.getElem_toArray, List.getElem_cons_succ, List.getElem_cons_zero, List.setIfInBounds_toArray, List.set_cons_zero, List.set_cons_succ])
          refine wpAnyH_done (by kernel_rfl) ?_ _
          go_wp2_with fail
          go_meet
          exact ⟨_, rfl, HF⟩
        · go_simp
          go_wp2_with fail
          have HA0c0c1b := Lib.hid (show RpB w ((wc1).alloc (.cells #[.int .i64 0, .slice none 0 0, .int .i64 0, .slice none 0 0, .slice none 0 0, .int .i64 0] 29)) lo g q2 q4 _ _ _ #[.int .i64 0, .slice none 0 0, .int .i64 0, .slice none 0 0, .slice none 0 0, .int .i64 0] from ⟨HA0c0c1.out.below (bel1 _ (.cells #[.int .i64 0, .slice none 0 0, .int .i64 0, .slice none 0 0, .slice none 0 0, .int .i64 0] 29)), heap_alloc_new _ _, (Array.getElem?_eq_some_iff.1 HA0c0c1.out.b4).1⟩)
          refine hK.out _ _ (cell_of HA0c0c1b.out.a.b4 0) (fun hHeld => ?_)
          clear hK K
          (try simp only [Act.put, List.getElem_toArray, List.getElem_cons_succ, List.getElem_cons_zero, List.setIfInBounds_toArray, List.set_cons_zero, List.set_cons_succ])
          obtain ⟨Wb, hWb⟩ : ∃ W, W = (wc1).alloc (.cells #[.int .i64 0, .slice none 0 0, .int .i64 0, .slice none 0 0, .slice none 0 0, .int .i64 0] 29) := ⟨_, rfl⟩
          change wpAnyH _ _ _ _ _ _ _ _ ((wc1).alloc (.cells #[.int .i64 0, .slice none 0 0, .int .i64 0, .slice none 0 0, .slice none 0 0, .int .i64 0] 29))
          rw [← hWb] at HA0c0c1b ⊢
          clear hWb hHeld
          have hHeld := cell_of HA0c0c1b.out.a.b4 0
          simp at hHeld
          obtain ⟨q5, hq5⟩ : ∃ q, q = (wc1).heap.size := ⟨_, rfl⟩
          skip
          rw [← hq5] at HA0c0c1b
          rw [← hq5]
          clear hq5
          refine wpAnyH_ready (rs := [8]) (by kernel_rfl) (by simp) ?_
          refine AllReadyH.cons rfl (fun K hK => ?_) AllReadyH.nil
          go_simp
          go_at_call 19
          refine (rdU_any HA0c0c1b.out.a.rd).mono ?_
          rw [← Hx3.out]
          rintro r wc2 ⟨rfl, hr, hg⟩
          have HA0c0c1bc2 := Lib.hid (HA0c0c1b.out.read hr hg)
          clear hr hg
          go_wp2_with fail
          refine hK.out _ _ (cell_of HA0c0c1bc2.out.a.b4 0) (fun hHeld => ?_)
          clear hK K
          (try simp only [Act.put, List.getElem_toArray, List.getElem_cons_succ, List.getElem_cons_zero, List.setIfInBounds_toArray, List.set_cons_zero, List.set_cons_succ])
          refine' take_val (i := 9) (d := 18) (v := _) rfl rfl (by kernel_rfl) (by kernel_rfl) (by kernel_rfl) (fun _ _ _ h => h) (by rfl) ?_ (by assumption) ?_
          rotate_left
          · (intro w hSw; (try dsimp only at hSw); go_simp; (try with_reducible rfl))
          (try simp only [Act.put, List.setIfInBounds_toArray, List.set_cons_zero, List.set_cons_succ])
          have z0 := cell_of HA0c0c1bc2.out.b5 0
          have z1 := cell_of HA0c0c1bc2.out.b5 1
          have z2 := cell_of HA0c0c1bc2.out.b5 2
          have z3 := cell_of HA0c0c1bc2.out.b5 3
          have z4 := cell_of HA0c0c1bc2.out.b5 4
          have z5 := cell_of HA0c0c1bc2.out.b5 5
          have f0 := frozen_of HA0c0c1bc2.out.b5 0
          have f1 := frozen_of HA0c0c1bc2.out.b5 1
          have f2 := frozen_of HA0c0c1bc2.out.b5 2
          have f3 := frozen_of HA0c0c1bc2.out.b5 3
          have f4 := frozen_of HA0c0c1bc2.out.b5 4
          have f5 := frozen_of HA0c0c1bc2.out.b5 5
          simp at z0 z1 z2 z3 z4 z5
          have hn45 := Nat.ne_of_lt HA0c0c1bc2.out.n45
          refine wpAnyH_ready (rs := [11]) (by kernel_rfl) (by simp) ?_
          refine AllReadyH.cons rfl (fun K hK => ?_) AllReadyH.nil
          go_simp
          go_wp2_with fail
          have h12 := ((((((HA0c0c1bc2.out.set 0 (.int .i64 (x1.1 : Int))).set 1 (.slice none 0 0)).set 2 (.int .i64 (x2.1 : Int))).set 3 (.slice none 0 0)).set 4 (.slice none 0 0)).set 5 (.int .i64 (x3.1 : Int)))
          simp only [List.setIfInBounds_toArray, List.set_cons_zero, List.set_cons_succ] at h12
          have HF := Lib.hid h12
          clear h12 z0 f0 z1 f1 z2 f2 z3 f3 z4 f4 z5 f5
          refine hK.out _ _ (cell_of HF.out.a.b4 0) (fun hHeld => ?_)
          clear hK K
          (try simp only [Act.put, List.getElem_toArray, List.getElem_cons_succ, List.getElem_cons_zero, List.setIfInBounds_toArray, List.set_cons_zero, List.set_cons_succ])
          refine wpAnyH_done (by kernel_rfl) ?_ _
          go_wp2_with fail
          go_meet
          exact ⟨_, rfl, HF⟩
      · go_simp
        go_wp2_with fail
        have HA0c0b := Lib.hid (show RpB w ((wc0).alloc (.cells #[.int .i64 0, .slice none 0 0, .int .i64 0, .slice none 0 0, .slice none 0 0, .int .i64 0] 29)) lo g q2 q4 _ _ _ #[.int .i64 0, .slice none 0 0, .int .i64 0, .slice none 0 0, .slice none 0 0, .int .i64 0] from ⟨HA0c0.out.below (bel1 _ (.cells #[.int .i64 0, .slice none 0 0, .int .i64 0, .slice none 0 0, .slice none 0 0, .int .i64 0] 29)), heap_alloc_new _ _, (Array.getElem?_eq_some_iff.1 HA0c0.out.b4).1⟩)
        refine hK.out _ _ (cell_of HA0c0b.out.a.b4 0) (fun hHeld => ?_)
        clear hK K
        (try simp only [Act.put, List.getElem_toArray, List.getElem_cons_succ, List.getElem_cons_zero, List.setIfInBounds_toArray, List.set_cons_zero, List.set_cons_succ])
        obtain ⟨Wb, hWb⟩ : ∃ W, W = (wc0).alloc (.cells #[.int .i64 0, .slice none 0 0, .int .i64 0, .slice none 0 0, .slice none 0 0, .int .i64 0] 29) := ⟨_, rfl⟩
        change wpAnyH _ _ _ _ _ _ _ _ ((wc0).alloc (.cells #[.int .i64 0, .slice none 0 0, .int .i64 0, .slice none 0 0, .slice none 0 0, .int .i64 0] 29))
        rw [← hWb] at HA0c0b ⊢
        clear hWb hHeld
        have hHeld := cell_of HA0c0b.out.a.b4 0
        simp at hHeld
        obtain ⟨q5, hq5⟩ : ∃ q, q = (wc0).heap.size := ⟨_, rfl⟩
        skip
        rw [← hq5] at HA0c0b
        rw [← hq5]
        clear hq5
        refine wpAnyH_ready (rs := [5]) (by kernel_rfl) (by simp) ?_
        refine AllReadyH.cons rfl (fun K hK => ?_) AllReadyH.nil
        go_simp
        go_at_call 19
        refine (rdU_any HA0c0b.out.a.rd).mono ?_
        rw [← Hx2.out]
        rintro r wc1 ⟨rfl, hr, hg⟩
        have HA0c0bc1 := Lib.hid (HA0c0b.out.read hr hg)
        clear hr hg
        go_wp2_with fail
        refine hK.out _ _ (cell_of HA0c0bc1.out.a.b4 0) (fun hHeld => ?_)
        clear hK K
        (try simp only [Act.put, List.getElem_toArray, List.getElem_cons_succ, List.getElem_cons_zero, List.setIfInBounds_toArray, List.set_cons_zero, List.set_cons_succ])
        refine wpAnyH_ready (rs := [8]) (by kernel_rfl) (by simp) ?_
        refine AllReadyH.cons rfl (fun K hK => ?_) AllReadyH.nil
        go_simp
        go_at_call 19
        refine (rdU_any HA0c0bc1.out.a.rd).mono ?_
        rw [← Hx3.out]
        rintro r wc2 ⟨rfl, hr, hg⟩
        have HA0c0bc1c2 := Lib.hid (HA0c0bc1.out.read hr hg)
        clear hr hg
        go_wp2_with fail
        refine hK.out _ _ (cell_of HA0c0bc1c2.out.a.b4 0) (fun hHeld => ?_)
        clear hK K
        (try simp only [Act.put, List.getElem_toArray, List.getElem_cons_succ, List.getElem_cons_zero, List.setIfInBounds_toArray, List.set_cons_zero, List.set_cons_succ])
        refine' take_val (i := 9) (d := 18) (v := _) rfl rfl (by kernel_rfl) (by kernel_rfl) (by kernel_rfl) (fun _ _ _ h => h) (by rfl) ?_ (by assumption) ?_
        rotate_left
        · (intro w hSw; (try dsimp only at hSw); go_simp; (try with_reducible rfl))
        (try simp only [Act.put, List.setIfInBounds_toArray, List.set_cons_zero, List.set_cons_succ])
        have z0 := cell_of HA0c0bc1c2.out.b5 0
        have z1 := cell_of HA0c0bc1c2.out.b5 1
        have z2 := cell_of HA0c0bc1c2.out.b5 2
        have z3 := cell_of HA0c0bc1c2.out.b5 3
        have z4 := cell_of HA0c0bc1c2.out.b5 4
        have z5 := cell_of HA0c0bc1c2.out.b5 5
        have f0 := frozen_of HA0c0bc1c2.out.b5 0
        have f1 := frozen_of HA0c0bc1c2.out.b5 1
        have f2 := frozen_of HA0c0bc1c2.out.b5 2
        have f3 := frozen_of HA0c0bc1c2.out.b5 3
        have f4 := frozen_of HA0c0bc1c2.out.b5 4
        have f5 := frozen_of HA0c0bc1c2.out.b5 5
        simp at z0 z1 z2 z3 z4 z5
        have hn45 := Nat.ne_of_lt HA0c0bc1c2.out.n45
        refine wpAnyH_ready (rs := [11]) (by kernel_rfl) (by simp) ?_
        refine AllReadyH.cons rfl (fun K hK => ?_) AllReadyH.nil
        go_simp
        go_wp2_with fail
        have h12 := ((((((HA0c0bc1c2.out.set 0 (.int .i64 (x1.1 : Int))).set 1 (.slice none 0 0)).set 2 (.int .i64 (x2.1 : Int))).set 3 (.slice none 0 0)).set 4 (.slice none 0 0)).set 5 (.int .i64 (x3.1 : Int)))
        simp only [List.setIfInBounds_toArray, List.set_cons_zero, List.set_cons_succ] at h12
        have HF := Lib.hid h12
        clear h12 z0 f0 z1 f1 z2 f2 z3 f3 z4 f4 z5 f5
        refine hK.out _ _ (cell_of HF.out.a.b4 0) (fun hHeld => ?_)
        clear hK K
        (try simp only [Act.put, List.getElem_toArray, List.getElem_cons_succ, List.getElem_cons_zero, List.setIfInBounds_toArray, List.set_cons_zero, List.set_cons_succ])
        refine wpAnyH_done (by kernel_rfl) ?_ _
        go_wp2_with fail
        go_meet
        exact ⟨_, rfl, HF⟩
    · go_simp
      go_wp2_with fail
      have HA0b := Lib.hid (show RpB w ((W0.drew).alloc (.cells #[.int .i64 0, .slice none 0 0, .int .i64 0, .slice none 0 0, .slice none 0 0, .int .i64 0] 29)) lo g q2 q4 _ _ _ #[.int .i64 0, .slice none 0 0, .int .i64 0, .slice none 0 0, .slice none 0 0, .int .i64 0] from ⟨(HA0.out.below (bel0 _).drew).below (bel1 _ (.cells #[.int .i64 0, .slice none 0 0, .int .i64 0, .slice none 0 0, .slice none 0 0, .int .i64 0] 29)), heap_alloc_new _ _, (Array.getElem?_eq_some_iff.1 (HA0.out.below (bel0 _).drew).b4).1⟩)
      refine hK.out _ _ (cell_of HA0b.out.a.b4 0) (fun hHeld => ?_)
      clear hK K
      (try simp only [Act.put, List.getElem_toArray, List.getElem_cons_succ, List.getElem_cons_zero, List.setIfInBounds_toArray, List.set_cons_zero, List.set_cons_succ])
      obtain ⟨Wb, hWb⟩ : ∃ W, W = (W0.drew).alloc (.cells #[.int .i64 0, .slice none 0 0, .int .i64 0, .slice none 0 0, .slice none 0 0, .int .i64 0] 29) := ⟨_, rfl⟩
      change wpAnyH _ _ _ _ _ _ _ _ ((W0.drew).alloc (.cells #[.int .i64 0, .slice none 0 0, .int .i64 0, .slice none 0 0, .slice none 0 0, .int .i64 0] 29))
      rw [← hWb] at HA0b ⊢
      clear hWb hHeld
      have hHeld := cell_of HA0b.out.a.b4 0
      simp at hHeld
      obtain ⟨q5, hq5⟩ : ∃ q, q = (W0.drew).heap.size := ⟨_, rfl⟩
      skip
      rw [← hq5] at HA0b
      rw [show W0.heap.size = q5 from hq5.symm]
      clear hq5
      refine wpAnyH_ready (rs := [2]) (by kernel_rfl) (by simp) ?_
      refine AllReadyH.cons rfl (fun K hK => ?_) AllReadyH.nil
      go_simp
      go_at_call 19
      refine (rdU_any HA0b.out.a.rd).mono ?_
      rw [← Hx1.out]
      rintro r wc0 ⟨rfl, hr, hg⟩
      have HA0bc0 := Lib.hid (HA0b.out.read hr hg)
      clear hr hg
      go_wp2_with fail
      refine hK.out _ _ (cell_of HA0bc0.out.a.b4 0) (fun hHeld => ?_)
      clear hK K
      (try simp only [Act.put, List.getElem_toArray, List.getElem_cons_succ, List.getElem_cons_zero, List.setIfInBounds_toArray, List.set_cons_zero, List.set_cons_succ])
      refine wpAnyH_ready (rs := [5]) (by kernel_rfl) (by simp) ?_
      refine AllReadyH.cons rfl (fun K hK => ?_) AllReadyH.nil
      go_simp
      go_at_call 19
      refine (rdU_any HA0bc0.out.a.rd).mono ?_
      rw [← Hx2.out]
      rintro r wc1 ⟨rfl, hr, hg⟩
      have HA0bc0c1 := Lib.hid (HA0bc0.out.read hr hg)
      clear hr hg
      go_wp2_with fail
      refine hK.out _ _ (cell_of HA0bc0c1.out.a.b4 0) (fun hHeld => ?_)
      clear hK K
      (try simp only [Act.put, List.getElem_toArray, List.getElem_cons_succ, List.getElem_cons_zero, List.setIfInBounds_toArray, List.set_cons_zero, List.set_cons_succ])
      refine wpAnyH_ready (rs := [8]) (by kernel_rfl) (by simp) ?_
      refine AllReadyH.cons rfl (fun K hK => ?_) AllReadyH.nil
      go_simp
      go_at_call 19
      refine (rdU_any HA0bc0c1.out.a.rd).mono ?_
      rw [← Hx3.out]
      rintro r wc2 ⟨rfl, hr, hg⟩
      have HA0bc0c1c2 := Lib.hid (HA0bc0c1.out.read hr hg)
      clear hr hg
      go_wp2_with fail
      refine hK.out _ _ (cell_of HA0bc0c1c2.out.a.b4 0) (fun hHeld => ?_)
      clear hK K
      (try simp only [Act.put, List.getElem_toArray, List.getElem_cons_succ, List.getElem_cons_zero, List.setIfInBounds_toArray, List.set_cons_zero, List.set_cons_succ])
      refine' take_val (i := 9) (d := 18) (v := _) rfl rfl (by kernel_rfl) (by kernel_rfl) (by kernel_rfl) (fun _ _ _ h => h) (by rfl) ?_ (by assumption) ?_
      rotate_left
      · (intro w hSw; (try dsimp only at hSw); go_simp; (try with_reducible rfl))
      (try simp only [Act.put, List.setIfInBounds_toArray, List.set_cons_zero, List.set_cons_succ])
      have z0 := cell_of HA0bc0c1c2.out.b5 0
      have z1 := cell_of HA0bc0c1c2.out.b5 1
      have z2 := cell_of HA0bc0c1c2.out.b5 2
      have z3 := cell_of HA0bc0c1c2.out.b5 3
      have z4 := cell_of HA0bc0c1c2.out.b5 4
      have z5 := cell_of HA0bc0c1c2.out.b5 5
      have f0 := frozen_of HA0bc0c1c2.out.b5 0
      have f1 := frozen_of HA0bc0c1c2.out.b5 1
      have f2 := frozen_of HA0bc0c1c2.out.b5 2
      have f3 := frozen_of HA0bc0c1c2.out.b5 3
      have f4 := frozen_of HA0bc0c1c2.out.b5 4
      have f5 := frozen_of HA0bc0c1c2.out.b5 5
      simp at z0 z1 z2 z3 z4 z5
      have hn45 := Nat.ne_of_lt HA0bc0c1c2.out.n45
      refine wpAnyH_ready (rs := [11]) (by kernel_rfl) (by simp) ?_
      refine AllReadyH.cons rfl (fun K hK => ?_) AllReadyH.nil
      go_simp
      go_wp2_with fail
      have h12 := ((((((HA0bc0c1c2.out.set 0 (.int .i64 (x1.1 : Int))).set 1 (.slice none 0 0)).set 2 (.int .i64 (x2.1 : Int))).set 3 (.slice none 0 0)).set 4 (.slice none 0 0)).set 5 (.int .i64 (x3.1 : Int)))
      simp only [List.setIfInBounds_toArray, List.set_cons_zero, List.set_cons_succ] at h12
      have HF := Lib.hid h12
      clear h12 z0 f0 z1 f1 z2 f2 z3 f3 z4 f4 z5 f5
      refine hK.out _ _ (cell_of HF.out.a.b4 0) (fun hHeld => ?_)
      clear hK K
      (try simp only [Act.put, List.getElem_toArray, List.getElem_cons_succ, List.getElem_cons_zero, List.setIfInBounds_toArray, List.set_cons_zero, List.set_cons_succ])
      refine wpAnyH_done (by kernel_rfl) ?_ _
      go_wp2_with fail
      go_meet
      exact ⟨_, rfl, HF⟩
  case rest =>
    obtain ⟨q5, rfl, HP⟩ := hcut
    clear HA0
    have hq5 : q5 < wc.heap.size := (Array.getElem?_eq_some_iff.1 HP.out.b5).1
    have hgq : g < wc.heap.size := HP.out.a.rd.lt.2
    have hn45 : q4 ≠ q5 := by have := HP.out.n45; omega
    have HP0 := Lib.hid (show q2 < wc.heap.size by have h1 := HP.out.n45; have h2 := HP.out.a.n2; have h3 := HP.out.a.g4; have h4 := HP.out.a.rd.lt; omega)
    have hn25 : q2 ≠ q5 := by have h1 := HP.out.n45; have h2 := HP.out.a.n2; have h3 := HP.out.a.g4; have h4 := HP.out.a.rd.lt; omega
    have hln1 : y1.1.length ≤ 1000 := by rw [Hy1.out]; exact tkLm_len _ _ _ _
    have hln2 : y2.1.length ≤ 20 := by rw [Hy2.out]; exact tkLm_len _ _ _ _
    have hln3 : y3.1.length ≤ 10000 := by rw [Hy3.out]; exact tkLm_len _ _ _ _
    have k4 := cell_of HP.out.a.b4 0
    simp at k4
    go_wp2_with fail
    refine (rtakeSn_any HP.out.a.rd).mono ?_
    rw [← Hy1.out]
    rintro r t1 ⟨v1, rfl, ho, hr, hg⟩
    have R1 := Lib.hid (HP.out.read hr hg)
    have HO1 := Lib.hid (ho.base (base' := wc.heap.size) (by exact Nat.le_refl _))
    obtain ⟨A1, c1, e1⟩ := ho.len
    subst e1
    have HS1 := Lib.hid (show wc.heap.size ≤ t1.heap.size from hg.size)
    clear ho hr hg k4
    have z := cell_of R1.out.b5 1
    have f := frozen_of R1.out.b5 1
    have k4 := cell_of R1.out.a.b4 0
    simp at z k4
    have P1 := Lib.hid (R1.out.set 1 (.slice A1 y1.1.length c1))
    replace HO1 := Lib.hid (HO1.out.far hq5 1 (.slice A1 y1.1.length c1))
    have hs1 : (t1.setCell ⟨q5, 1, none⟩ (.slice A1 y1.1.length c1)).heap.size = t1.heap.size := World.size_setCell _ _ _
    replace HS1 := Lib.hid (show wc.heap.size ≤ (t1.setCell ⟨q5, 1, none⟩ (.slice A1 y1.1.length c1)).heap.size by rw [hs1]; exact HS1.out)
    clear hs1
    go_wp2_with fail
    refine (rtakeCe_any P1.out.a.rd).mono ?_
    rw [← Hy2.out]
    rintro r t2 ⟨v2, rfl, ho, hr, hg⟩
    have R2 := Lib.hid (P1.out.read hr hg)
    have HO2 := Lib.hid (ho.base (base' := wc.heap.size) (by have := HS1.out; omega))
    obtain ⟨A2, c2, e2⟩ := ho.len
    subst e2
    have HS2 := Lib.hid (show wc.heap.size ≤ t2.heap.size from Nat.le_trans HS1.out hg.size)
    replace HO1 := Lib.hid (HO1.out.grown hg (fun k hk => by injection hk with hk; omega))
    clear ho hr hg k4
    have z := cell_of R2.out.b5 3
    have f := frozen_of R2.out.b5 3
    have k4 := cell_of R2.out.a.b4 0
    simp at z k4
    have P2 := Lib.hid (R2.out.set 3 (.slice A2 y2.1.length c2))
    replace HO1 := Lib.hid (HO1.out.far hq5 3 (.slice A2 y2.1.length c2))
    replace HO2 := Lib.hid (HO2.out.far hq5 3 (.slice A2 y2.1.length c2))
    have hs2 : (t2.setCell ⟨q5, 3, none⟩ (.slice A2 y2.1.length c2)).heap.size = t2.heap.size := World.size_setCell _ _ _
    replace HS2 := Lib.hid (show wc.heap.size ≤ (t2.setCell ⟨q5, 3, none⟩ (.slice A2 y2.1.length c2)).heap.size by rw [hs2]; exact HS2.out)
    clear hs2
    go_wp2_with fail
    refine (rtakeEd_any P2.out.a.rd).mono ?_
    rw [← Hy3.out]
    rintro r t3 ⟨v3, rfl, ho, hr, hg⟩
    have R3 := Lib.hid (P2.out.read hr hg)
    have HO3 := Lib.hid (ho.base (base' := wc.heap.size) (by have := HS2.out; omega))
    obtain ⟨A3, c3, e3⟩ := ho.len
    subst e3
    have HS3 := Lib.hid (show wc.heap.size ≤ t3.heap.size from Nat.le_trans HS2.out hg.size)
    replace HO1 := Lib.hid (HO1.out.grown hg (fun k hk => by injection hk with hk; omega))
    replace HO2 := Lib.hid (HO2.out.grown hg (fun k hk => by injection hk with hk; omega))
    clear ho hr hg k4
    have z := cell_of R3.out.b5 4
    have f := frozen_of R3.out.b5 4
    have k4 := cell_of R3.out.a.b4 0
    simp at z k4
    have P3 := Lib.hid (R3.out.set 4 (.slice A3 y3.1.length c3))
    replace HO1 := Lib.hid (HO1.out.far hq5 4 (.slice A3 y3.1.length c3))
    replace HO2 := Lib.hid (HO2.out.far hq5 4 (.slice A3 y3.1.length c3))
    replace HO3 := Lib.hid (HO3.out.far hq5 4 (.slice A3 y3.1.length c3))
    have hs3 : (t3.setCell ⟨q5, 4, none⟩ (.slice A3 y3.1.length c3)).heap.size = t3.heap.size := World.size_setCell _ _ _
    replace HS3 := Lib.hid (show wc.heap.size ≤ (t3.setCell ⟨q5, 4, none⟩ (.slice A3 y3.1.length c3)).heap.size by rw [hs3]; exact HS3.out)
    clear hs3
    go_upto_region 6 with (fail)
    obtain ⟨W6, hW⟩ : ∃ W, W = t3.setCell ⟨q5, 4, none⟩ (.slice A3 y3.1.length c3) := ⟨_, rfl⟩
    rw [← hW] at P3 HO1 HO2 HO3 HS3 ⊢
    clear hW z f k4 R3
    have PF := Lib.hid (show RpB w W6 lo g q2 q4 q5 y3.2.1 y3.2.2 #[.int .i64 (x1.1 : Int), .slice A1 y1.1.length c1, .int .i64 (x2.1 : Int), .slice A2 y2.1.length c2, .slice A3 y3.1.length c3, .int .i64 (x3.1 : Int)] by have := P3.out; simpa using this)
    clear P3
    have HAO := Lib.hid (show AnO W6 wc.heap.size ⟨(x1.1 : Int), y1.1, (x2.1 : Int), y2.1, y3.1, (x3.1 : Int)⟩ (.slice A1 y1.1.length c1) (.slice A2 y2.1.length c2) (.slice A3 y3.1.length c3) from ⟨HO1.out, HO2.out, HO3.out⟩)
    have LL := Lib.hid (fun (W : World) (h : AnO W wc.heap.size ⟨(x1.1 : Int), y1.1, (x2.1 : Int), y2.1, y3.1, (x3.1 : Int)⟩ (.slice A1 y1.1.length c1) (.slice A2 y2.1.length c2) (.slice A3 y3.1.length c3)) => h.l (fun x hx => ⟨(HATS.out x hx).1, by have := (HATS.out x hx).2; omega⟩) (by show y1.1.length ≤ _; omega) (by show y2.1.length ≤ _; omega) (by show y3.1.length ≤ _; omega))
    have NO := Lib.hid (fun (W W' : World) (hW : W' = (((((W.setCell ⟨q2, 0, none⟩ (.int .i64 0)).setCell ⟨q2, 1, none⟩ (.slice none 0 0)).setCell ⟨q2, 2, none⟩ (.int .i64 0)).setCell ⟨q2, 3, none⟩ (.slice none 0 0)).setCell ⟨q2, 4, none⟩ (.slice none 0 0)).setCell ⟨q2, 5, none⟩ (.int .i64 0)) (hb : Below w.heap.size w W) (hq : W.heap[q2]? = some (.cells #[.int .i64 0, .slice none 0 0, .int .i64 0, .slice none 0 0, .slice none 0 0, .int .i64 0] 29 (0, 0))) => show W'.heap[q2]? = some (.cells #[.int .i64 0, .slice none 0 0, .int .i64 0, .slice none 0 0, .slice none 0 0, .int .i64 0] 29 (0, 0)) ∧ Below w.heap.size w W' by
      rw [hW]
      have hle : w.heap.size ≤ q2 := by rw [HQ2.out]; exact Nat.le_refl _
      exact ⟨heap_set (heap_set (heap_set (heap_set (heap_set (heap_set hq 0 _) 1 _) 2 _) 3 _) 4 _) 5 _, (((((hb.setCell (p := ⟨q2, 0, none⟩) hle _).setCell (p := ⟨q2, 1, none⟩) hle _).setCell (p := ⟨q2, 2, none⟩) hle _).setCell (p := ⟨q2, 3, none⟩) hle _).setCell (p := ⟨q2, 4, none⟩) hle _).setCell (p := ⟨q2, 5, none⟩) hle _⟩)
    clear HO1 HO2 HO3
    have hq2b : q2 < wc.heap.size := by have h1 := HP0.out; omega
    have k4 := cell_of PF.out.a.b4 0
    have hz := an_block PF.out.b5
    obtain ⟨z0, z1, z2, z3, z4, z5⟩ := hz
    simp at k4
    obtain ⟨er3, he3⟩ : ∃ e, e = y3.2.1 := ⟨_, rfl⟩
    obtain ⟨lf3, hl3⟩ : ∃ e, e = y3.2.2 := ⟨_, rfl⟩
    rw [← he3, ← hl3] at PF
    have HT2 := Lib.hid (show tkAn l = (⟨(x1.1 : Int), y1.1, (x2.1 : Int), y2.1, y3.1, (x3.1 : Int)⟩, er3, lf3) by rw [HT.out, he3, hl3])
    clear he3 hl3 HT
    by_cases he : er3 = 0
    case neg =>
      have HX := Lib.hid (show prAn l = (noAns, 270) by
        unfold prAn
        rw [HT2.out, if_neg (fun h => he h.1)])
      have he2 : (er3 == 0) = false := by simpa using he
      have he4 : (er3 != 0) = true := by rw [bne, he2]; rfl
      go_wp2_with fail
      refine (Err_any PF.out.a.rd).mono ?_
      rintro e t ⟨rfl, rfl⟩
      have PG := PF
      have hb2 := PG.out.a.b2
      obtain ⟨d0, d1, d2, d3, d4, d5⟩ := an_block hb2
      have f0 := frozen_of hb2 0
      have f1 := frozen_of hb2 1
      have f2 := frozen_of hb2 2
      have f3 := frozen_of hb2 3
      have f4 := frozen_of hb2 4
      have f5 := frozen_of hb2 5
      clear hb2
      go_wp2_with fail
      obtain ⟨W, hW⟩ : ∃ W, W = (((((W6.setCell ⟨q2, 0, none⟩ (.int .i64 0)).setCell ⟨q2, 1, none⟩ (.slice none 0 0)).setCell ⟨q2, 2, none⟩ (.int .i64 0)).setCell ⟨q2, 3, none⟩ (.slice none 0 0)).setCell ⟨q2, 4, none⟩ (.slice none 0 0)).setCell ⟨q2, 5, none⟩ (.int .i64 0) := ⟨_, rfl⟩
      obtain ⟨B4, hBW⟩ := NO.out _ _ hW PG.out.a.bel PG.out.a.b2
      rw [← hW]
      clear hW d0 d1 d2 d3 d4 d5 f0 f1 f2 f3 f4 f5
      obtain ⟨d0, d1, d2, d3, d4, d5⟩ := an_block B4
      refine bodyPost_ret (by simp [results, Tryz.results6, go_sem, d0, d1, d2, d3, d4, d5]; try rfl) rfl ?_
      rw [HX.out]
      exact ⟨_, _, _, rfl, ⟨⟨_, _, rfl, EL.zero _ _⟩, ⟨_, _, rfl, EL.zero _ _⟩, ⟨_, _, rfl, EL.zero _ _⟩⟩, hBW⟩
    subst he
    go_wp2_with fail
    refine (Err_any PF.out.a.rd).mono ?_
    rintro e t ⟨rfl, rfl⟩
    go_wp2_with fail
    refine (Left_any PF.out.a.rd).mono ?_
    rintro e t ⟨rfl, rfl⟩
    by_cases hr0 : lf3 = []
    case neg =>
      have HX := Lib.hid (show prAn l = (noAns, 270) by
        unfold prAn
        rw [HT2.out, if_neg (fun h => hr0 h.2.1)])
      have hrl : 0 < lf3.length := List.length_pos_iff.2 hr0
      have hrl2 : (0 : Int) < (lf3.length : Int) := by omega
      have PG := PF
      have hb2 := PG.out.a.b2
      obtain ⟨d0, d1, d2, d3, d4, d5⟩ := an_block hb2
      have f0 := frozen_of hb2 0
      have f1 := frozen_of hb2 1
      have f2 := frozen_of hb2 2
      have f3 := frozen_of hb2 3
      have f4 := frozen_of hb2 4
      have f5 := frozen_of hb2 5
      clear hb2
      go_wp2_with fail
      obtain ⟨W, hW⟩ : ∃ W, W = (((((W6.setCell ⟨q2, 0, none⟩ (.int .i64 0)).setCell ⟨q2, 1, none⟩ (.slice none 0 0)).setCell ⟨q2, 2, none⟩ (.int .i64 0)).setCell ⟨q2, 3, none⟩ (.slice none 0 0)).setCell ⟨q2, 4, none⟩ (.slice none 0 0)).setCell ⟨q2, 5, none⟩ (.int .i64 0) := ⟨_, rfl⟩
      obtain ⟨B4, hBW⟩ := NO.out _ _ hW PG.out.a.bel PG.out.a.b2
      rw [← hW]
      clear hW d0 d1 d2 d3 d4 d5 f0 f1 f2 f3 f4 f5
      obtain ⟨d0, d1, d2, d3, d4, d5⟩ := an_block B4
      refine bodyPost_ret (by simp [results, Tryz.results6, go_sem, d0, d1, d2, d3, d4, d5]; try rfl) rfl ?_
      rw [HX.out]
      exact ⟨_, _, _, rfl, ⟨⟨_, _, rfl, EL.zero _ _⟩, ⟨_, _, rfl, EL.zero _ _⟩, ⟨_, _, rfl, EL.zero _ _⟩⟩, hBW⟩
    subst hr0
    go_wp2_with fail
    refine (rCheck_any (LL.out _ HAO.out)).mono ?_
    rintro e t9 ⟨rfl, hb9⟩
    have PG := Lib.hid (PF.out.below hb9)
    have HAO9 := Lib.hid (HAO.out.below hb9)
    clear hb9 k4 z0 z1 z2 z3 z4 z5
    obtain ⟨z0, z1, z2, z3, z4, z5⟩ := an_block PG.out.b5
    by_cases hok : OkAn ⟨(x1.1 : Int), y1.1, (x2.1 : Int), y2.1, y3.1, (x3.1 : Int)⟩
    case neg =>
      have HX := Lib.hid (show prAn l = (noAns, 270) by
        unfold prAn
        rw [HT2.out, if_neg (fun h => hok h.2.2)])
      rw [anP_no hok]
      clear hok
      have hb2 := PG.out.a.b2
      obtain ⟨d0, d1, d2, d3, d4, d5⟩ := an_block hb2
      have f0 := frozen_of hb2 0
      have f1 := frozen_of hb2 1
      have f2 := frozen_of hb2 2
      have f3 := frozen_of hb2 3
      have f4 := frozen_of hb2 4
      have f5 := frozen_of hb2 5
      clear hb2
      go_wp2_with fail
      obtain ⟨W, hW⟩ : ∃ W, W = (((((t9.setCell ⟨q2, 0, none⟩ (.int .i64 0)).setCell ⟨q2, 1, none⟩ (.slice none 0 0)).setCell ⟨q2, 2, none⟩ (.int .i64 0)).setCell ⟨q2, 3, none⟩ (.slice none 0 0)).setCell ⟨q2, 4, none⟩ (.slice none 0 0)).setCell ⟨q2, 5, none⟩ (.int .i64 0) := ⟨_, rfl⟩
      obtain ⟨B4, hBW⟩ := NO.out _ _ hW PG.out.a.bel PG.out.a.b2
      rw [← hW]
      clear hW d0 d1 d2 d3 d4 d5 f0 f1 f2 f3 f4 f5
      obtain ⟨d0, d1, d2, d3, d4, d5⟩ := an_block B4
      refine bodyPost_ret (by simp [results, Tryz.results6, go_sem, d0, d1, d2, d3, d4, d5]; try rfl) rfl ?_
      rw [HX.out]
      exact ⟨_, _, _, rfl, ⟨⟨_, _, rfl, EL.zero _ _⟩, ⟨_, _, rfl, EL.zero _ _⟩, ⟨_, _, rfl, EL.zero _ _⟩⟩, hBW⟩
    have HX := Lib.hid (show prAn l = (⟨(x1.1 : Int), y1.1, (x2.1 : Int), y2.1, y3.1, (x3.1 : Int)⟩, 0) by
      unfold prAn
      rw [HT2.out, if_pos ⟨rfl, rfl, hok⟩])
    rw [anP_yes hok]
    have hb2 := PG.out.a.b2
    obtain ⟨d0, d1, d2, d3, d4, d5⟩ := an_block hb2
    have f0 := frozen_of hb2 0
    have f1 := frozen_of hb2 1
    have f2 := frozen_of hb2 2
    have f3 := frozen_of hb2 3
    have f4 := frozen_of hb2 4
    have f5 := frozen_of hb2 5
    clear hb2 hok
    go_wp2_with fail
    obtain ⟨W, hW⟩ : ∃ W, W = (((((t9.setCell ⟨q2, 0, none⟩ (.int .i64 (x1.1 : Int))).setCell ⟨q2, 1, none⟩ (.slice A1 y1.1.length c1)).setCell ⟨q2, 2, none⟩ (.int .i64 (x2.1 : Int))).setCell ⟨q2, 3, none⟩ (.slice A2 y2.1.length c2)).setCell ⟨q2, 4, none⟩ (.slice A3 y3.1.length c3)).setCell ⟨q2, 5, none⟩ (.int .i64 (x3.1 : Int)) := ⟨_, rfl⟩
    have B4 : W.heap[q2]? = some (.cells #[.int .i64 (x1.1 : Int), .slice A1 y1.1.length c1, .int .i64 (x2.1 : Int), .slice A2 y2.1.length c2, .slice A3 y3.1.length c3, .int .i64 (x3.1 : Int)] 29 (0, 0)) := by
      rw [hW]
      exact heap_set (heap_set (heap_set (heap_set (heap_set (heap_set PG.out.a.b2 0 _) 1 _) 2 _) 3 _) 4 _) 5 _
    have hBW : Below w.heap.size w W := by
      rw [hW]
      have hle : w.heap.size ≤ q2 := by rw [HQ2.out]; exact Nat.le_refl _
      have hb := PG.out.a.bel
      exact (((((hb.setCell (p := ⟨q2, 0, none⟩) hle _).setCell (p := ⟨q2, 1, none⟩) hle _).setCell (p := ⟨q2, 2, none⟩) hle _).setCell (p := ⟨q2, 3, none⟩) hle _).setCell (p := ⟨q2, 4, none⟩) hle _).setCell (p := ⟨q2, 5, none⟩) hle _
    have hAW : AnL W ⟨(x1.1 : Int), y1.1, (x2.1 : Int), y2.1, y3.1, (x3.1 : Int)⟩ (.slice A1 y1.1.length c1) (.slice A2 y2.1.length c2) (.slice A3 y3.1.length c3) := by
      rw [hW]
      exact LL.out _ ((((((HAO9.out.far hq2b 0 _).far hq2b 1 _).far hq2b 2 _).far hq2b 3 _).far hq2b 4 _).far hq2b 5 _)
    rw [← hW]
    clear hW d0 d1 d2 d3 d4 d5 f0 f1 f2 f3 f4 f5 z0 z1 z2 z3 z4 z5
    obtain ⟨d0, d1, d2, d3, d4, d5⟩ := an_block B4
    refine bodyPost_ret (by simp [results, Tryz.results6, go_sem, d0, d1, d2, d3, d4, d5]; try rfl) rfl ?_
    rw [HX.out]
    exact ⟨_, _, _, rfl, hAW, hBW⟩
end Go.Proofs.YtfedgjahbmcpoaaGreat
