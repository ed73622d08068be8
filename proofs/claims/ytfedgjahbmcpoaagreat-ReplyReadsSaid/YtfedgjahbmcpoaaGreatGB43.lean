/- The document's Take of a value: its contract. No conditions. -/
import Derived.Test.YtfedgjahbmcpoaaGreatGB20
import Derived.Test.YtfedgjahbmcpoaaGreatGB21
set_option linter.unusedSimpArgs false
set_option linter.unusedVariables false
namespace Go.Proofs.YtfedgjahbmcpoaaGreat
open Go.RowKit

/-- .. in memory. -/
def RTkR (w w' : World) (r : Ending) (lo g : Nat) (v : Value) (e : Int) (l : List Nat) : Prop :=
  r = .returned v ∧ Rfr w' lo g e l ∧ w.grownBy w' (some g)

theorem BV.rput {w w0 : World} {q : Nat} {x : Val} {row : Option Nat} (h : BV w q x) (hg : w0.grownBy w row) (hq : w0.heap.size ≤ q) (y : Val) :
    ∃ W, W = ((w.setCell ⟨q, 0, none⟩ (.int .i64 y.k)).setCell ⟨q, 1, none⟩ (.int .i64 y.n)).setCell ⟨q, 2, none⟩ (.string y.b) ∧ BV W q y ∧ w0.grownBy W row ∧
      (∀ lo g e l, Rfr w lo g e l → (q < lo ∨ g < q) → Rfr W lo g e l) :=
  ⟨_, rfl, ((h.set0 y.k).set1 y.n).set2 y.b, gset (gset (gset hg hq) hq) hq, fun lo g e l hr ho =>
    ((hr.grown (grown_set _ _ _ _) (fun j hj => by cases hj; exact ho)).grown (grown_set _ _ _ _) (fun j hj => by cases hj; exact ho)).grown (grown_set _ _ _ _) (fun j hj => by cases hj; exact ho)⟩

set_option maxHeartbeats 16000000 in
set_option maxRecDepth 100000 in
theorem refTakeV_any {lo g : Nat} {e : Int} {l : List Nat} {w : World} (h : Rfr w lo g e l) :
    Calls Tryz.prog 76 #[.pointer (some ⟨g, 0, none⟩)] w fun r w' => RTkR w w' r lo g (tkV e l).1.v (tkV e l).2.1 (tkV e l).2.2 := by
  obtain ⟨X, hX⟩ : ∃ X, X = tkV e l := ⟨_, rfl⟩
  rw [← hX]
  have HX := Lib.hid hX
  have hlt := h.lt.2
  have hrw : rawV e l = rawV e l := rfl
  conv at hrw => rhs; unfold rawV
  have HH := Lib.hid h
  clear h hX
  generalize hx1 : nb 9007199254740991 e l = x1 at *
  obtain ⟨k, e1, l1⟩ := x1
  have HN1 := Lib.hid hx1
  simp only at hrw
  have HRW0 := Lib.hid hrw
  clear hx1 hrw
  obtain ⟨q, hq⟩ : ∃ q, q = w.heap.size := ⟨_, rfl⟩
  have hgq : g < q := by omega
  have HQ2 := Lib.hid (show w.heap.size ≤ q by omega)
  have HQ := Lib.hid hq
  clear hq hlt
  go_enter Tryz.func76, Tryz.ntmps76
  go_wp2_with fail
  obtain ⟨wa, hwa⟩ : ∃ wa, wa = w.alloc (.cells #[.int .i64 0, .int .i64 0, .string ⟨#[]⟩] 99) := ⟨_, rfl⟩
  rw [← hwa, ← HQ.out]
  have BA : BV wa q ⟨0, 0, ⟨#[]⟩⟩ := by rw [hwa, HQ.out]; exact heap_alloc_new w _
  have GA : w.grownBy wa (some g) := by rw [hwa]; exact World.grownBy_alloc _ _ _
  have RA : Rfr wa lo g e l := by rw [hwa]; exact HH.out.grown (World.grownBy_alloc _ _ none) (fun j hj => by cases hj)
  clear hwa
  refine (rfU_any RA).mono ?_
  rw [HN1.out]
  rintro r w1 ⟨rfl, hr, hg⟩
  simp only at hr ⊢
  have G1 := Lib.hid (GA.trans hg)
  have B1 := BA.grown hg (fun j hj => by cases hj; omega)
  have R1 := Lib.hid hr
  have HB1 := Lib.hid B1
  obtain ⟨c0, c1, c2⟩ := B1.cells
  obtain ⟨z0, z1, z2⟩ := B1.thaw
  have hlt1 := hr.lt.2
  clear BA GA RA hr hg HN1 B1
  have hp := Lib.hid (show g < w1.heap.size ∧ q ≠ w1.heap.size from ⟨hlt1, by have := (Array.getElem?_eq_some_iff.1 HB1.out).1; omega⟩)
  have hp2 := Lib.hid (show w.heap.size ≤ w1.heap.size from G1.out.size)
  clear hlt1
  by_cases k1 : k = 1
  · subst k1
    obtain ⟨w2, hw2⟩ : ∃ W, W = w1.alloc (.cells #[.int .i64 1, .int .i64 0, .string ⟨#[]⟩] 99) := ⟨_, rfl⟩
    have B2 := Lib.hid (show BV w2 w1.heap.size ⟨1, 0, ⟨#[]⟩⟩ by rw [hw2]; exact heap_alloc_new w1 _)
    have Q2 := Lib.hid (show BV w2 q ⟨0, 0, ⟨#[]⟩⟩ by rw [hw2]; exact HB1.out.below ((bel0 w1).alloc (Nat.le_refl _) _))
    have R2 := Lib.hid (show Rfr w2 lo g e1 l1 by rw [hw2]; exact R1.out.below ((bel0 w1).alloc (Nat.le_refl _) _))
    have G2 := Lib.hid (show w.grownBy w2 (some g) by rw [hw2]; exact galloc G1.out _)
    have hrw : rawV e l = (⟨1, zag (nb 18014398509481982 e1 l1).1, ⟨#[]⟩⟩, (nb 18014398509481982 e1 l1).2) := HRW0.out.trans (if_pos rfl)
    generalize hx2 : nb 18014398509481982 e1 l1 = x2 at *
    obtain ⟨z, e2, l2⟩ := x2
    simp only at hrw
    have HN2 := Lib.hid hx2
    have HRW := Lib.hid hrw
    clear hx2 hrw HRW0
    have hx : X = if failE e2 (wrongE (chkV (⟨1, zag z, ⟨#[]⟩⟩ : Val))) = 0 then ((⟨1, zag z, ⟨#[]⟩⟩ : Val), 0, l2) else (⟨0, 0, ⟨#[]⟩⟩, failE e2 (wrongE (chkV (⟨1, zag z, ⟨#[]⟩⟩ : Val))), l2) := HX.out.trans (by unfold tkV; rw [HRW.out])
    have hcv0 := refCheck_any (⟨1, zag z, ⟨#[]⟩⟩ : Val)
    unfold Val.v at hcv0
    simp only at hcv0
    obtain ⟨cv, hcv⟩ : ∃ c, c = chkV (⟨1, zag z, ⟨#[]⟩⟩ : Val) := ⟨_, rfl⟩
    rw [← hcv] at hx hcv0
    have HX0 := Lib.hid hx
    have HCV := Lib.hid hcv0
    clear hx hcv hcv0 HX HRW
    clear c0 c1 c2 z0 z1 z2
    go_wp2_with fail
    rw [← hw2]
    clear hw2
    refine (rfS_any R2.out).mono ?_
    rw [HN2.out]
    rintro r w3 ⟨rfl, hr, hg⟩
    simp only at hr ⊢
    have Bx := B2.out.grown hg (fun j hj => by cases hj; have := hp.out; omega)
    have HBx := Lib.hid Bx
    have Qx := Lib.hid (Q2.out.grown hg (fun j hj => by cases hj; omega))
    have Gx := Lib.hid (G2.out.trans hg)
    have Rx := Lib.hid hr
    obtain ⟨c0, c1, c2⟩ := Bx.cells
    obtain ⟨z0, z1, z2⟩ := Bx.thaw
    simp only at c0 c1 c2
    clear hr hg Bx B2 Q2 R2 G2
    obtain ⟨w4, hw4⟩ : ∃ W, W = w3.setCell ⟨w1.heap.size, 1, none⟩ (.int .i64 (zag z)) := ⟨_, rfl⟩
    have B3 : Hid (BV w4 w1.heap.size (⟨1, zag z, ⟨#[]⟩⟩ : Val)) := Lib.hid (by rw [hw4]; exact HBx.out.set1 (zag z))
    have Q3 := Lib.hid (show BV w4 q ⟨0, 0, ⟨#[]⟩⟩ by rw [hw4]; exact Qx.out.grown (grown_set _ _ _ _) (fun j hj => by cases hj; exact hp.out.2))
    have G3 := Lib.hid (show w.grownBy w4 (some g) by rw [hw4]; exact gset Gx.out hp2.out)
    have R3 := Lib.hid (show Rfr w4 lo g e2 l2 by rw [hw4]; exact Rx.out.grown (grown_set _ _ _ _) (fun j hj => by cases hj; exact .inr hp.out.1))
    go_wp2_with fail
    rw [← hw4]
    clear hw4 HBx Qx Gx Rx
    refine (HCV.out _).mono ?_
    rintro r w4 ⟨rfl, hb4⟩
    have Bk := Lib.hid (B3.out.below hb4)
    have Qk := Lib.hid (Q3.out.below hb4)
    have Rk := Lib.hid (R3.out.below hb4)
    have Gk := Lib.hid (gbelow G3.out hb4)
    have hpk : g < w1.heap.size ∧ q ≠ w1.heap.size := hp.out
    clear B3 Q3 R3 G3 hb4 c0 c1 c2 z0 z1 z2
    by_cases hc0 : cv = 0
    · subst hc0
      have B4 := Bk
      have Q4 := Qk
      have R4 := Rk
      have G4 := Gk
      by_cases he : e2 = 0
      · have HX1 : Hid (X = ((⟨1, zag z, ⟨#[]⟩⟩ : Val), 0, l2)) := Lib.hid (HX0.out.trans (if_pos (by rw [he]; rfl)))
        rw [he] at R4
        clear he HX0
        have HV4 := B4.out.cells
        have HVz := B4.out.thaw
        obtain ⟨c0, c1, c2⟩ := HV4
        obtain ⟨z0, z1, z2⟩ := HVz
        simp only at c0 c1 c2
        obtain ⟨m0, m1, m2⟩ := Q4.out.cells
        simp only at m0 m1 m2
        have y0 := Q4.out.thaw.1
        have y1 := Q4.out.thaw.2.1
        have y2 := Q4.out.thaw.2.2
        obtain ⟨_, _, _, _, _, ce, _⟩ := R4.out.open
        go_wp2_with fail
        obtain ⟨W, hW, BW, GW, RW⟩ := Q4.out.rput G4.out HQ2.out (⟨1, zag z, ⟨#[]⟩⟩ : Val)
        rw [← hW]
        clear hW
        obtain ⟨d0, d1, d2⟩ := BW.cells
        refine bodyPost_ret (by simp [results, Tryz.results76, go_sem, d0, d1, d2]; try rfl) rfl ?_
        rw [HX1.out]
        exact ⟨rfl, RW _ _ _ _ R4.out (by omega), GW⟩
      · have HX1 : Hid (X = (⟨0, 0, ⟨#[]⟩⟩, e2, l2)) := Lib.hid (HX0.out.trans ((if_neg (by unfold failE wrongE; rw [if_neg he]; exact he)).trans (by unfold failE; rw [if_neg he])))
        have he' : (e2 != 0) = true := by simp; exact he
        clear HX0
        have HV4 := B4.out.cells
        have HVz := B4.out.thaw
        obtain ⟨c0, c1, c2⟩ := HV4
        obtain ⟨z0, z1, z2⟩ := HVz
        simp only at c0 c1 c2
        obtain ⟨m0, m1, m2⟩ := Q4.out.cells
        simp only at m0 m1 m2
        have y0 := Q4.out.thaw.1
        have y1 := Q4.out.thaw.2.1
        have y2 := Q4.out.thaw.2.2
        obtain ⟨_, _, _, _, _, ce, _⟩ := R4.out.open
        go_wp2_with fail
        obtain ⟨W, hW, BW, GW, RW⟩ := Q4.out.rput G4.out HQ2.out ⟨0, 0, ⟨#[]⟩⟩
        rw [← hW]
        clear hW
        obtain ⟨d0, d1, d2⟩ := BW.cells
        refine bodyPost_ret (by simp [results, Tryz.results76, go_sem, d0, d1, d2]; try rfl) rfl ?_
        rw [HX1.out]
        exact ⟨rfl, RW _ _ _ _ R4.out (by omega), GW⟩
    · have hc0' : (cv != 0) = true := by simp; exact hc0
      go_wp2_with fail
      refine (refFail_any 4 Rk.out).mono ?_
      rintro r w5 ⟨rfl, hr, hg⟩
      have B4 := Lib.hid (Bk.out.grown hg (fun j hj => by cases hj; omega))
      have Q4 := Lib.hid (Qk.out.grown hg (fun j hj => by cases hj; omega))
      have R4 := Lib.hid hr
      have G4 := Lib.hid (Gk.out.trans hg)
      have HX1 : Hid (X = (⟨0, 0, ⟨#[]⟩⟩, if e2 = 0 then 4 else e2, l2)) := Lib.hid (HX0.out.trans (by unfold failE wrongE; rw [if_neg hc0]; exact if_neg (by split <;> omega)))
      obtain ⟨en, hen⟩ : ∃ en, en = if e2 = 0 then (4 : Int) else e2 := ⟨_, rfl⟩
      have he : en ≠ 0 := by rw [hen]; split <;> omega
      rw [← hen] at R4 HX1
      have he' : (en != 0) = true := by simp; exact he
      clear HX0 hr hg Bk Qk Rk Gk hen
      have HV4 := B4.out.cells
      have HVz := B4.out.thaw
      obtain ⟨c0, c1, c2⟩ := HV4
      obtain ⟨z0, z1, z2⟩ := HVz
      simp only at c0 c1 c2
      obtain ⟨m0, m1, m2⟩ := Q4.out.cells
      simp only at m0 m1 m2
      have y0 := Q4.out.thaw.1
      have y1 := Q4.out.thaw.2.1
      have y2 := Q4.out.thaw.2.2
      obtain ⟨_, _, _, _, _, ce, _⟩ := R4.out.open
      go_wp2_with fail
      obtain ⟨W, hW, BW, GW, RW⟩ := Q4.out.rput G4.out HQ2.out ⟨0, 0, ⟨#[]⟩⟩
      rw [← hW]
      clear hW
      obtain ⟨d0, d1, d2⟩ := BW.cells
      refine bodyPost_ret (by simp [results, Tryz.results76, go_sem, d0, d1, d2]; try rfl) rfl ?_
      rw [HX1.out]
      exact ⟨rfl, RW _ _ _ _ R4.out (by omega), GW⟩
  · have k1' : ((k : Int) == 1) = false := by simp; omega
    by_cases k2 : k = 2
    · subst k2
      obtain ⟨w2, hw2⟩ : ∃ W, W = w1.alloc (.cells #[.int .i64 2, .int .i64 0, .string ⟨#[]⟩] 99) := ⟨_, rfl⟩
      have B2 := Lib.hid (show BV w2 w1.heap.size ⟨2, 0, ⟨#[]⟩⟩ by rw [hw2]; exact heap_alloc_new w1 _)
      have Q2 := Lib.hid (show BV w2 q ⟨0, 0, ⟨#[]⟩⟩ by rw [hw2]; exact HB1.out.below ((bel0 w1).alloc (Nat.le_refl _) _))
      have R2 := Lib.hid (show Rfr w2 lo g e1 l1 by rw [hw2]; exact R1.out.below ((bel0 w1).alloc (Nat.le_refl _) _))
      have G2 := Lib.hid (show w.grownBy w2 (some g) by rw [hw2]; exact galloc G1.out _)
      have hrw : rawV e l = (⟨2, 0, bs (txt 64 e1 l1).1⟩, (txt 64 e1 l1).2) := HRW0.out.trans ((if_neg (by decide)).trans (if_pos rfl))
      generalize hx2 : txt 64 e1 l1 = x2 at *
      obtain ⟨z, e2, l2⟩ := x2
      simp only at hrw
      have HN2 := Lib.hid hx2
      have HRW := Lib.hid hrw
      clear hx2 hrw HRW0
      have hx : X = if failE e2 (wrongE (chkV (⟨2, 0, bs z⟩ : Val))) = 0 then ((⟨2, 0, bs z⟩ : Val), 0, l2) else (⟨0, 0, ⟨#[]⟩⟩, failE e2 (wrongE (chkV (⟨2, 0, bs z⟩ : Val))), l2) := HX.out.trans (by unfold tkV; rw [HRW.out])
      have hcv0 := refCheck_any (⟨2, 0, bs z⟩ : Val)
      unfold Val.v at hcv0
      simp only at hcv0
      obtain ⟨cv, hcv⟩ : ∃ c, c = chkV (⟨2, 0, bs z⟩ : Val) := ⟨_, rfl⟩
      rw [← hcv] at hx hcv0
      have HX0 := Lib.hid hx
      have HCV := Lib.hid hcv0
      clear hx hcv hcv0 HX HRW
      clear c0 c1 c2 z0 z1 z2
      go_wp2_with fail
      rw [← hw2]
      clear hw2
      refine (rfText_any 64 R2.out).mono ?_
      rw [HN2.out]
      rintro r w3 ⟨rfl, _, _, hr, hg⟩
      simp only at hr ⊢
      have Bx := B2.out.grown hg (fun j hj => by cases hj; have := hp.out; omega)
      have HBx := Lib.hid Bx
      have Qx := Lib.hid (Q2.out.grown hg (fun j hj => by cases hj; omega))
      have Gx := Lib.hid (G2.out.trans hg)
      have Rx := Lib.hid hr
      obtain ⟨c0, c1, c2⟩ := Bx.cells
      obtain ⟨z0, z1, z2⟩ := Bx.thaw
      simp only at c0 c1 c2
      clear hr hg Bx B2 Q2 R2 G2
      obtain ⟨w4, hw4⟩ : ∃ W, W = w3.setCell ⟨w1.heap.size, 2, none⟩ (.string (bs z)) := ⟨_, rfl⟩
      have B3 : Hid (BV w4 w1.heap.size (⟨2, 0, bs z⟩ : Val)) := Lib.hid (by rw [hw4]; exact HBx.out.set2 (bs z))
      have Q3 := Lib.hid (show BV w4 q ⟨0, 0, ⟨#[]⟩⟩ by rw [hw4]; exact Qx.out.grown (grown_set _ _ _ _) (fun j hj => by cases hj; exact hp.out.2))
      have G3 := Lib.hid (show w.grownBy w4 (some g) by rw [hw4]; exact gset Gx.out hp2.out)
      have R3 := Lib.hid (show Rfr w4 lo g e2 l2 by rw [hw4]; exact Rx.out.grown (grown_set _ _ _ _) (fun j hj => by cases hj; exact .inr hp.out.1))
      go_wp2_with fail
      rw [← hw4]
      clear hw4 HBx Qx Gx Rx
      refine (HCV.out _).mono ?_
      rintro r w4 ⟨rfl, hb4⟩
      have Bk := Lib.hid (B3.out.below hb4)
      have Qk := Lib.hid (Q3.out.below hb4)
      have Rk := Lib.hid (R3.out.below hb4)
      have Gk := Lib.hid (gbelow G3.out hb4)
      have hpk : g < w1.heap.size ∧ q ≠ w1.heap.size := hp.out
      clear B3 Q3 R3 G3 hb4 c0 c1 c2 z0 z1 z2
      by_cases hc0 : cv = 0
      · subst hc0
        have B4 := Bk
        have Q4 := Qk
        have R4 := Rk
        have G4 := Gk
        by_cases he : e2 = 0
        · have HX1 : Hid (X = ((⟨2, 0, bs z⟩ : Val), 0, l2)) := Lib.hid (HX0.out.trans (if_pos (by rw [he]; rfl)))
          rw [he] at R4
          clear he HX0
          have HV4 := B4.out.cells
          have HVz := B4.out.thaw
          obtain ⟨c0, c1, c2⟩ := HV4
          obtain ⟨z0, z1, z2⟩ := HVz
          simp only at c0 c1 c2
          obtain ⟨m0, m1, m2⟩ := Q4.out.cells
          simp only at m0 m1 m2
          have y0 := Q4.out.thaw.1
          have y1 := Q4.out.thaw.2.1
          have y2 := Q4.out.thaw.2.2
          obtain ⟨_, _, _, _, _, ce, _⟩ := R4.out.open
          go_wp2_with fail
          obtain ⟨W, hW, BW, GW, RW⟩ := Q4.out.rput G4.out HQ2.out (⟨2, 0, bs z⟩ : Val)
          rw [← hW]
          clear hW
          obtain ⟨d0, d1, d2⟩ := BW.cells
          refine bodyPost_ret (by simp [results, Tryz.results76, go_sem, d0, d1, d2]; try rfl) rfl ?_
          rw [HX1.out]
          exact ⟨rfl, RW _ _ _ _ R4.out (by omega), GW⟩
        · have HX1 : Hid (X = (⟨0, 0, ⟨#[]⟩⟩, e2, l2)) := Lib.hid (HX0.out.trans ((if_neg (by unfold failE wrongE; rw [if_neg he]; exact he)).trans (by unfold failE; rw [if_neg he])))
          have he' : (e2 != 0) = true := by simp; exact he
          clear HX0
          have HV4 := B4.out.cells
          have HVz := B4.out.thaw
          obtain ⟨c0, c1, c2⟩ := HV4
          obtain ⟨z0, z1, z2⟩ := HVz
          simp only at c0 c1 c2
          obtain ⟨m0, m1, m2⟩ := Q4.out.cells
          simp only at m0 m1 m2
          have y0 := Q4.out.thaw.1
          have y1 := Q4.out.thaw.2.1
          have y2 := Q4.out.thaw.2.2
          obtain ⟨_, _, _, _, _, ce, _⟩ := R4.out.open
          go_wp2_with fail
          obtain ⟨W, hW, BW, GW, RW⟩ := Q4.out.rput G4.out HQ2.out ⟨0, 0, ⟨#[]⟩⟩
          rw [← hW]
          clear hW
          obtain ⟨d0, d1, d2⟩ := BW.cells
          refine bodyPost_ret (by simp [results, Tryz.results76, go_sem, d0, d1, d2]; try rfl) rfl ?_
          rw [HX1.out]
          exact ⟨rfl, RW _ _ _ _ R4.out (by omega), GW⟩
      · have hc0' : (cv != 0) = true := by simp; exact hc0
        go_wp2_with fail
        refine (refFail_any 4 Rk.out).mono ?_
        rintro r w5 ⟨rfl, hr, hg⟩
        have B4 := Lib.hid (Bk.out.grown hg (fun j hj => by cases hj; omega))
        have Q4 := Lib.hid (Qk.out.grown hg (fun j hj => by cases hj; omega))
        have R4 := Lib.hid hr
        have G4 := Lib.hid (Gk.out.trans hg)
        have HX1 : Hid (X = (⟨0, 0, ⟨#[]⟩⟩, if e2 = 0 then 4 else e2, l2)) := Lib.hid (HX0.out.trans (by unfold failE wrongE; rw [if_neg hc0]; exact if_neg (by split <;> omega)))
        obtain ⟨en, hen⟩ : ∃ en, en = if e2 = 0 then (4 : Int) else e2 := ⟨_, rfl⟩
        have he : en ≠ 0 := by rw [hen]; split <;> omega
        rw [← hen] at R4 HX1
        have he' : (en != 0) = true := by simp; exact he
        clear HX0 hr hg Bk Qk Rk Gk hen
        have HV4 := B4.out.cells
        have HVz := B4.out.thaw
        obtain ⟨c0, c1, c2⟩ := HV4
        obtain ⟨z0, z1, z2⟩ := HVz
        simp only at c0 c1 c2
        obtain ⟨m0, m1, m2⟩ := Q4.out.cells
        simp only at m0 m1 m2
        have y0 := Q4.out.thaw.1
        have y1 := Q4.out.thaw.2.1
        have y2 := Q4.out.thaw.2.2
        obtain ⟨_, _, _, _, _, ce, _⟩ := R4.out.open
        go_wp2_with fail
        obtain ⟨W, hW, BW, GW, RW⟩ := Q4.out.rput G4.out HQ2.out ⟨0, 0, ⟨#[]⟩⟩
        rw [← hW]
        clear hW
        obtain ⟨d0, d1, d2⟩ := BW.cells
        refine bodyPost_ret (by simp [results, Tryz.results76, go_sem, d0, d1, d2]; try rfl) rfl ?_
        rw [HX1.out]
        exact ⟨rfl, RW _ _ _ _ R4.out (by omega), GW⟩
    · have k2' : ((k : Int) == 2) = false := by simp; omega
      by_cases k3 : k = 3
      · subst k3
        obtain ⟨w2, hw2⟩ : ∃ W, W = w1.alloc (.cells #[.int .i64 3, .int .i64 0, .string ⟨#[]⟩] 99) := ⟨_, rfl⟩
        have B2 := Lib.hid (show BV w2 w1.heap.size ⟨3, 0, ⟨#[]⟩⟩ by rw [hw2]; exact heap_alloc_new w1 _)
        have Q2 := Lib.hid (show BV w2 q ⟨0, 0, ⟨#[]⟩⟩ by rw [hw2]; exact HB1.out.below ((bel0 w1).alloc (Nat.le_refl _) _))
        have R2 := Lib.hid (show Rfr w2 lo g e1 l1 by rw [hw2]; exact R1.out.below ((bel0 w1).alloc (Nat.le_refl _) _))
        have G2 := Lib.hid (show w.grownBy w2 (some g) by rw [hw2]; exact galloc G1.out _)
        have hrw : rawV e l = (⟨3, ((nb 9007199254740991 e1 l1).1 : Int), ⟨#[]⟩⟩, (nb 9007199254740991 e1 l1).2) := HRW0.out.trans ((if_neg (by decide)).trans ((if_neg (by decide)).trans (if_pos rfl)))
        generalize hx2 : nb 9007199254740991 e1 l1 = x2 at *
        obtain ⟨z, e2, l2⟩ := x2
        simp only at hrw
        have HN2 := Lib.hid hx2
        have HRW := Lib.hid hrw
        clear hx2 hrw HRW0
        have hx : X = if failE e2 (wrongE (chkV (⟨3, (z : Int), ⟨#[]⟩⟩ : Val))) = 0 then ((⟨3, (z : Int), ⟨#[]⟩⟩ : Val), 0, l2) else (⟨0, 0, ⟨#[]⟩⟩, failE e2 (wrongE (chkV (⟨3, (z : Int), ⟨#[]⟩⟩ : Val))), l2) := HX.out.trans (by unfold tkV; rw [HRW.out])
        have hcv0 := refCheck_any (⟨3, (z : Int), ⟨#[]⟩⟩ : Val)
        unfold Val.v at hcv0
        simp only at hcv0
        obtain ⟨cv, hcv⟩ : ∃ c, c = chkV (⟨3, (z : Int), ⟨#[]⟩⟩ : Val) := ⟨_, rfl⟩
        rw [← hcv] at hx hcv0
        have HX0 := Lib.hid hx
        have HCV := Lib.hid hcv0
        clear hx hcv hcv0 HX HRW
        clear c0 c1 c2 z0 z1 z2
        go_wp2_with fail
        rw [← hw2]
        clear hw2
        refine (rfU_any R2.out).mono ?_
        rw [HN2.out]
        rintro r w3 ⟨rfl, hr, hg⟩
        simp only at hr ⊢
        have Bx := B2.out.grown hg (fun j hj => by cases hj; have := hp.out; omega)
        have HBx := Lib.hid Bx
        have Qx := Lib.hid (Q2.out.grown hg (fun j hj => by cases hj; omega))
        have Gx := Lib.hid (G2.out.trans hg)
        have Rx := Lib.hid hr
        obtain ⟨c0, c1, c2⟩ := Bx.cells
        obtain ⟨z0, z1, z2⟩ := Bx.thaw
        simp only at c0 c1 c2
        clear hr hg Bx B2 Q2 R2 G2
        obtain ⟨w4, hw4⟩ : ∃ W, W = w3.setCell ⟨w1.heap.size, 1, none⟩ (.int .i64 (z : Int)) := ⟨_, rfl⟩
        have B3 : Hid (BV w4 w1.heap.size (⟨3, (z : Int), ⟨#[]⟩⟩ : Val)) := Lib.hid (by rw [hw4]; exact HBx.out.set1 (z : Int))
        have Q3 := Lib.hid (show BV w4 q ⟨0, 0, ⟨#[]⟩⟩ by rw [hw4]; exact Qx.out.grown (grown_set _ _ _ _) (fun j hj => by cases hj; exact hp.out.2))
        have G3 := Lib.hid (show w.grownBy w4 (some g) by rw [hw4]; exact gset Gx.out hp2.out)
        have R3 := Lib.hid (show Rfr w4 lo g e2 l2 by rw [hw4]; exact Rx.out.grown (grown_set _ _ _ _) (fun j hj => by cases hj; exact .inr hp.out.1))
        go_wp2_with fail
        rw [← hw4]
        clear hw4 HBx Qx Gx Rx
        refine (HCV.out _).mono ?_
        rintro r w4 ⟨rfl, hb4⟩
        have Bk := Lib.hid (B3.out.below hb4)
        have Qk := Lib.hid (Q3.out.below hb4)
        have Rk := Lib.hid (R3.out.below hb4)
        have Gk := Lib.hid (gbelow G3.out hb4)
        have hpk : g < w1.heap.size ∧ q ≠ w1.heap.size := hp.out
        clear B3 Q3 R3 G3 hb4 c0 c1 c2 z0 z1 z2
        by_cases hc0 : cv = 0
        · subst hc0
          have B4 := Bk
          have Q4 := Qk
          have R4 := Rk
          have G4 := Gk
          by_cases he : e2 = 0
          · have HX1 : Hid (X = ((⟨3, (z : Int), ⟨#[]⟩⟩ : Val), 0, l2)) := Lib.hid (HX0.out.trans (if_pos (by rw [he]; rfl)))
            rw [he] at R4
            clear he HX0
            have HV4 := B4.out.cells
            have HVz := B4.out.thaw
            obtain ⟨c0, c1, c2⟩ := HV4
            obtain ⟨z0, z1, z2⟩ := HVz
            simp only at c0 c1 c2
            obtain ⟨m0, m1, m2⟩ := Q4.out.cells
            simp only at m0 m1 m2
            have y0 := Q4.out.thaw.1
            have y1 := Q4.out.thaw.2.1
            have y2 := Q4.out.thaw.2.2
            obtain ⟨_, _, _, _, _, ce, _⟩ := R4.out.open
            go_wp2_with fail
            obtain ⟨W, hW, BW, GW, RW⟩ := Q4.out.rput G4.out HQ2.out (⟨3, (z : Int), ⟨#[]⟩⟩ : Val)
            rw [← hW]
            clear hW
            obtain ⟨d0, d1, d2⟩ := BW.cells
            refine bodyPost_ret (by simp [results, Tryz.results76, go_sem, d0, d1, d2]; try rfl) rfl ?_
            rw [HX1.out]
            exact ⟨rfl, RW _ _ _ _ R4.out (by omega), GW⟩
          · have HX1 : Hid (X = (⟨0, 0, ⟨#[]⟩⟩, e2, l2)) := Lib.hid (HX0.out.trans ((if_neg (by unfold failE wrongE; rw [if_neg he]; exact he)).trans (by unfold failE; rw [if_neg he])))
            have he' : (e2 != 0) = true := by simp; exact he
            clear HX0
            have HV4 := B4.out.cells
            have HVz := B4.out.thaw
            obtain ⟨c0, c1, c2⟩ := HV4
            obtain ⟨z0, z1, z2⟩ := HVz
            simp only at c0 c1 c2
            obtain ⟨m0, m1, m2⟩ := Q4.out.cells
            simp only at m0 m1 m2
            have y0 := Q4.out.thaw.1
            have y1 := Q4.out.thaw.2.1
            have y2 := Q4.out.thaw.2.2
            obtain ⟨_, _, _, _, _, ce, _⟩ := R4.out.open
            go_wp2_with fail
            obtain ⟨W, hW, BW, GW, RW⟩ := Q4.out.rput G4.out HQ2.out ⟨0, 0, ⟨#[]⟩⟩
            rw [← hW]
            clear hW
            obtain ⟨d0, d1, d2⟩ := BW.cells
            refine bodyPost_ret (by simp [results, Tryz.results76, go_sem, d0, d1, d2]; try rfl) rfl ?_
            rw [HX1.out]
            exact ⟨rfl, RW _ _ _ _ R4.out (by omega), GW⟩
        · have hc0' : (cv != 0) = true := by simp; exact hc0
          go_wp2_with fail
          refine (refFail_any 4 Rk.out).mono ?_
          rintro r w5 ⟨rfl, hr, hg⟩
          have B4 := Lib.hid (Bk.out.grown hg (fun j hj => by cases hj; omega))
          have Q4 := Lib.hid (Qk.out.grown hg (fun j hj => by cases hj; omega))
          have R4 := Lib.hid hr
          have G4 := Lib.hid (Gk.out.trans hg)
          have HX1 : Hid (X = (⟨0, 0, ⟨#[]⟩⟩, if e2 = 0 then 4 else e2, l2)) := Lib.hid (HX0.out.trans (by unfold failE wrongE; rw [if_neg hc0]; exact if_neg (by split <;> omega)))
          obtain ⟨en, hen⟩ : ∃ en, en = if e2 = 0 then (4 : Int) else e2 := ⟨_, rfl⟩
          have he : en ≠ 0 := by rw [hen]; split <;> omega
          rw [← hen] at R4 HX1
          have he' : (en != 0) = true := by simp; exact he
          clear HX0 hr hg Bk Qk Rk Gk hen
          have HV4 := B4.out.cells
          have HVz := B4.out.thaw
          obtain ⟨c0, c1, c2⟩ := HV4
          obtain ⟨z0, z1, z2⟩ := HVz
          simp only at c0 c1 c2
          obtain ⟨m0, m1, m2⟩ := Q4.out.cells
          simp only at m0 m1 m2
          have y0 := Q4.out.thaw.1
          have y1 := Q4.out.thaw.2.1
          have y2 := Q4.out.thaw.2.2
          obtain ⟨_, _, _, _, _, ce, _⟩ := R4.out.open
          go_wp2_with fail
          obtain ⟨W, hW, BW, GW, RW⟩ := Q4.out.rput G4.out HQ2.out ⟨0, 0, ⟨#[]⟩⟩
          rw [← hW]
          clear hW
          obtain ⟨d0, d1, d2⟩ := BW.cells
          refine bodyPost_ret (by simp [results, Tryz.results76, go_sem, d0, d1, d2]; try rfl) rfl ?_
          rw [HX1.out]
          exact ⟨rfl, RW _ _ _ _ R4.out (by omega), GW⟩
      · have k3' : ((k : Int) == 3) = false := by simp; omega
        obtain ⟨w2, hw2⟩ : ∃ W, W = w1.alloc (.cells #[.int .i64 (k : Int), .int .i64 0, .string ⟨#[]⟩] 99) := ⟨_, rfl⟩
        have B2 := Lib.hid (show BV w2 w1.heap.size ⟨(k : Int), 0, ⟨#[]⟩⟩ by rw [hw2]; exact heap_alloc_new w1 _)
        have Q2 := Lib.hid (show BV w2 q ⟨0, 0, ⟨#[]⟩⟩ by rw [hw2]; exact HB1.out.below ((bel0 w1).alloc (Nat.le_refl _) _))
        have R2 := Lib.hid (show Rfr w2 lo g e1 l1 by rw [hw2]; exact R1.out.below ((bel0 w1).alloc (Nat.le_refl _) _))
        have G2 := Lib.hid (show w.grownBy w2 (some g) by rw [hw2]; exact galloc G1.out _)
        have hrw : rawV e l = ((⟨(k : Int), 0, ⟨#[]⟩⟩ : Val), e1, l1) := HRW0.out.trans ((if_neg k1).trans ((if_neg k2).trans (if_neg k3)))
        have HRW := Lib.hid hrw
        clear hrw HRW0
        have hx : X = if failE e1 (wrongE (chkV (⟨(k : Int), 0, ⟨#[]⟩⟩ : Val))) = 0 then ((⟨(k : Int), 0, ⟨#[]⟩⟩ : Val), 0, l1) else (⟨0, 0, ⟨#[]⟩⟩, failE e1 (wrongE (chkV (⟨(k : Int), 0, ⟨#[]⟩⟩ : Val))), l1) := HX.out.trans (by unfold tkV; rw [HRW.out])
        have hcv0 := refCheck_any (⟨(k : Int), 0, ⟨#[]⟩⟩ : Val)
        unfold Val.v at hcv0
        simp only at hcv0
        obtain ⟨cv, hcv⟩ : ∃ c, c = chkV (⟨(k : Int), 0, ⟨#[]⟩⟩ : Val) := ⟨_, rfl⟩
        rw [← hcv] at hx hcv0
        have HX0 := Lib.hid hx
        have HCV := Lib.hid hcv0
        clear hx hcv hcv0 HX HRW
        have B3 := B2
        have Q3 := Q2
        have R3 := R2
        have G3 := G2
        go_wp2_with fail
        rw [← hw2]
        clear hw2 B2 Q2 R2 G2
        refine (HCV.out _).mono ?_
        rintro r w4 ⟨rfl, hb4⟩
        have Bk := Lib.hid (B3.out.below hb4)
        have Qk := Lib.hid (Q3.out.below hb4)
        have Rk := Lib.hid (R3.out.below hb4)
        have Gk := Lib.hid (gbelow G3.out hb4)
        have hpk : g < w1.heap.size ∧ q ≠ w1.heap.size := hp.out
        clear B3 Q3 R3 G3 hb4 c0 c1 c2 z0 z1 z2
        by_cases hc0 : cv = 0
        · subst hc0
          have B4 := Bk
          have Q4 := Qk
          have R4 := Rk
          have G4 := Gk
          by_cases he : e1 = 0
          · have HX1 : Hid (X = ((⟨(k : Int), 0, ⟨#[]⟩⟩ : Val), 0, l1)) := Lib.hid (HX0.out.trans (if_pos (by rw [he]; rfl)))
            rw [he] at R4
            clear he HX0
            have HV4 := B4.out.cells
            have HVz := B4.out.thaw
            obtain ⟨c0, c1, c2⟩ := HV4
            obtain ⟨z0, z1, z2⟩ := HVz
            simp only at c0 c1 c2
            obtain ⟨m0, m1, m2⟩ := Q4.out.cells
            simp only at m0 m1 m2
            have y0 := Q4.out.thaw.1
            have y1 := Q4.out.thaw.2.1
            have y2 := Q4.out.thaw.2.2
            obtain ⟨_, _, _, _, _, ce, _⟩ := R4.out.open
            go_wp2_with fail
            obtain ⟨W, hW, BW, GW, RW⟩ := Q4.out.rput G4.out HQ2.out (⟨(k : Int), 0, ⟨#[]⟩⟩ : Val)
            rw [← hW]
            clear hW
            obtain ⟨d0, d1, d2⟩ := BW.cells
            refine bodyPost_ret (by simp [results, Tryz.results76, go_sem, d0, d1, d2]; try rfl) rfl ?_
            rw [HX1.out]
            exact ⟨rfl, RW _ _ _ _ R4.out (by omega), GW⟩
          · have HX1 : Hid (X = (⟨0, 0, ⟨#[]⟩⟩, e1, l1)) := Lib.hid (HX0.out.trans ((if_neg (by unfold failE wrongE; rw [if_neg he]; exact he)).trans (by unfold failE; rw [if_neg he])))
            have he' : (e1 != 0) = true := by simp; exact he
            clear HX0
            have HV4 := B4.out.cells
            have HVz := B4.out.thaw
            obtain ⟨c0, c1, c2⟩ := HV4
            obtain ⟨z0, z1, z2⟩ := HVz
            simp only at c0 c1 c2
            obtain ⟨m0, m1, m2⟩ := Q4.out.cells
            simp only at m0 m1 m2
            have y0 := Q4.out.thaw.1
            have y1 := Q4.out.thaw.2.1
            have y2 := Q4.out.thaw.2.2
            obtain ⟨_, _, _, _, _, ce, _⟩ := R4.out.open
            go_wp2_with fail
            obtain ⟨W, hW, BW, GW, RW⟩ := Q4.out.rput G4.out HQ2.out ⟨0, 0, ⟨#[]⟩⟩
            rw [← hW]
            clear hW
            obtain ⟨d0, d1, d2⟩ := BW.cells
            refine bodyPost_ret (by simp [results, Tryz.results76, go_sem, d0, d1, d2]; try rfl) rfl ?_
            rw [HX1.out]
            exact ⟨rfl, RW _ _ _ _ R4.out (by omega), GW⟩
        · have hc0' : (cv != 0) = true := by simp; exact hc0
          go_wp2_with fail
          refine (refFail_any 4 Rk.out).mono ?_
          rintro r w5 ⟨rfl, hr, hg⟩
          have B4 := Lib.hid (Bk.out.grown hg (fun j hj => by cases hj; omega))
          have Q4 := Lib.hid (Qk.out.grown hg (fun j hj => by cases hj; omega))
          have R4 := Lib.hid hr
          have G4 := Lib.hid (Gk.out.trans hg)
          have HX1 : Hid (X = (⟨0, 0, ⟨#[]⟩⟩, if e1 = 0 then 4 else e1, l1)) := Lib.hid (HX0.out.trans (by unfold failE wrongE; rw [if_neg hc0]; exact if_neg (by split <;> omega)))
          obtain ⟨en, hen⟩ : ∃ en, en = if e1 = 0 then (4 : Int) else e1 := ⟨_, rfl⟩
          have he : en ≠ 0 := by rw [hen]; split <;> omega
          rw [← hen] at R4 HX1
          have he' : (en != 0) = true := by simp; exact he
          clear HX0 hr hg Bk Qk Rk Gk hen
          have HV4 := B4.out.cells
          have HVz := B4.out.thaw
          obtain ⟨c0, c1, c2⟩ := HV4
          obtain ⟨z0, z1, z2⟩ := HVz
          simp only at c0 c1 c2
          obtain ⟨m0, m1, m2⟩ := Q4.out.cells
          simp only at m0 m1 m2
          have y0 := Q4.out.thaw.1
          have y1 := Q4.out.thaw.2.1
          have y2 := Q4.out.thaw.2.2
          obtain ⟨_, _, _, _, _, ce, _⟩ := R4.out.open
          go_wp2_with fail
          obtain ⟨W, hW, BW, GW, RW⟩ := Q4.out.rput G4.out HQ2.out ⟨0, 0, ⟨#[]⟩⟩
          rw [← hW]
          clear hW
          obtain ⟨d0, d1, d2⟩ := BW.cells
          refine bodyPost_ret (by simp [results, Tryz.results76, go_sem, d0, d1, d2]; try rfl) rfl ?_
          rw [HX1.out]
          exact ⟨rfl, RW _ _ _ _ R4.out (by omega), GW⟩
end Go.Proofs.YtfedgjahbmcpoaaGreat
