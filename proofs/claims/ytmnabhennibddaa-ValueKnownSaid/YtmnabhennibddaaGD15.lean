/- veil.Take: its contract. No conditions. -/
import Derived.Test.YtmnabhennibddaaGD14
set_option linter.unusedSimpArgs false
set_option linter.unusedVariables false
namespace Go.Proofs.Ytmnabhennibddaa
open Go.RowKit

/-- A label off a reader. -/
def tkL (e : Int) (l : List Nat) : Lab × Int × List Nat :=
  let a := nb 9007199254740991 e l
  let b := nb 9007199254740991 a.2.1 a.2.2
  let e3 := if 7 < a.1 ∨ 4294967295 < b.1 then failE b.2.1 4 else b.2.1
  if e3 = 0 then (⟨(a.1 : Int), b.1⟩, 0, b.2.2) else (⟨0, 0⟩, e3, b.2.2)
theorem BL.set0 {w : World} {q : Nat} {x : Lab} (h : BL w q x) (k : Int) : BL (w.setCell ⟨q, 0, none⟩ (.int .i64 k)) q ⟨k, x.p⟩ := heap_set h 0 _
theorem BL.set1 {w : World} {q : Nat} {x : Lab} (h : BL w q x) (k : Nat) : BL (w.setCell ⟨q, 1, none⟩ (.int .u32 (k : Int))) q ⟨x.l, k⟩ := heap_set h 1 _
theorem BL.thaw {w : World} {q : Nat} {x : Lab} (h : BL w q x) : w.frozen? ⟨q, 0, none⟩ = false ∧ w.frozen? ⟨q, 1, none⟩ = false := ⟨frozen_of h 0, frozen_of h 1⟩
theorem BL.grown {w w' : World} {q : Nat} {x : Lab} {row : Option Nat} (h : BL w q x) (hg : w.grownBy w' row) (hr : ∀ j, row = some j → q ≠ j) : BL w' q x := by
  have hlt := (Array.getElem?_eq_some_iff.1 h).1
  unfold BL
  rw [hg.block q hlt (fun e => hr q e.symm rfl)]
  exact h
theorem BL.put {w w0 : World} {q : Nat} {x : Lab} {row : Option Nat} (h : BL w q x) (hg : w0.grownBy w row) (hq : w0.heap.size ≤ q) (y : Lab) :
    ∃ W, W = (w.setCell ⟨q, 0, none⟩ (.int .i64 y.l)).setCell ⟨q, 1, none⟩ (.int .u32 (y.p : Int)) ∧ BL W q y ∧ w0.grownBy W row ∧
      (∀ lo g e l, Rdr w lo g e l → (q < lo ∨ g < q) → Rdr W lo g e l) :=
  ⟨_, rfl, (h.set0 y.l).set1 y.p, gset (gset hg hq) hq, fun lo g e l hr ho =>
    (hr.grown (grown_set _ _ _ _) (fun j hj => by cases hj; exact ho)).grown (grown_set _ _ _ _) (fun j hj => by cases hj; exact ho)⟩

set_option maxHeartbeats 16000000 in
set_option maxRecDepth 100000 in
theorem takeL_any {lo g : Nat} {e : Int} {l : List Nat} {w : World} (h : Rdr w lo g e l) :
    Calls Try.prog 58 #[.pointer (some ⟨g, 0, none⟩)] w fun r w' => TkR w w' r lo g (tkL e l).1.v (tkL e l).2.1 (tkL e l).2.2 := by
  obtain ⟨X, hX⟩ : ∃ X, X = tkL e l := ⟨_, rfl⟩
  rw [← hX]
  unfold tkL at hX
  have hlt := h.lt
  have HH := Lib.hid h
  have hle1 := nb_le 9007199254740991 e l
  clear h
  generalize hx1 : nb 9007199254740991 e l = x1 at *
  obtain ⟨k, e1, l1⟩ := x1
  have HN1 := Lib.hid hx1
  simp only at hX
  have hle2 := nb_le 9007199254740991 e1 l1
  generalize hx2 : nb 9007199254740991 e1 l1 = x2 at *
  obtain ⟨p, e2, l2⟩ := x2
  have HN2 := Lib.hid hx2
  simp only at hX hle1 hle2
  have HX := Lib.hid hX
  have HFE := Lib.hid (show failE e2 4 = if e2 = 0 then 4 else e2 from rfl)
  clear hx1 hx2 hX
  obtain ⟨q, hq⟩ : ∃ q, q = w.heap.size := ⟨_, rfl⟩
  have hgq : g < q := by omega
  have HQ2 := Lib.hid (show w.heap.size ≤ q by omega)
  have HQ := Lib.hid hq
  clear hq hlt
  go_enter Try.func58, Try.ntmps58
  go_wp2_with fail
  obtain ⟨wa, hwa⟩ : ∃ wa, wa = w.alloc (.cells #[.int .i64 0, .int .u32 0] 47) := ⟨_, rfl⟩
  rw [← hwa, ← HQ.out]
  have BA : BL wa q ⟨0, 0⟩ := by rw [hwa, HQ.out]; exact heap_alloc_new w _
  have GA : w.grownBy wa (some g) := by rw [hwa]; exact World.grownBy_alloc _ _ _
  have RA : Rdr wa lo g e l := by rw [hwa]; exact HH.out.grown (World.grownBy_alloc _ _ none) (fun j hj => by cases hj)
  clear hwa
  refine (rdU_any RA).mono ?_
  rw [HN1.out]
  rintro r w1 ⟨rfl, hr, hg⟩
  simp only at hr ⊢
  have G1 := Lib.hid (GA.trans hg)
  have B1 := Lib.hid (BA.grown hg (fun j hj => by cases hj; omega))
  have R1 := Lib.hid hr
  clear BA GA RA hr hg HN1
  go_wp2_with fail
  refine (rdU_any R1.out).mono ?_
  rw [HN2.out]
  rintro r w2 ⟨rfl, hr, hg⟩
  simp only at hr ⊢
  have G2 := Lib.hid (G1.out.trans hg)
  have B2 := B1.out.grown hg (fun j hj => by cases hj; omega)
  have R2 := Lib.hid hr
  have HB2 := Lib.hid B2
  obtain ⟨c0, c1⟩ := B2.cells
  obtain ⟨z0, z1⟩ := B2.thaw
  simp only at c0 c1
  clear hr hg HN2 B2 B1 G1 R1
  by_cases hk : 7 < k
  · have zk : (7 : Int) < (k : Int) := by omega
    have hbad : 7 < k ∨ 4294967295 < p := .inl hk
    have HX1 := Lib.hid (HX.out.trans (by rw [if_pos hbad]))
    clear HX hbad
    go_wp2_with fail
    refine (Fail_any 4 R2.out).mono ?_
    rintro r w3 ⟨rfl, hr, hg⟩
    rw [← HFE.out] at hr
    have Rf := Lib.hid hr
    have Gf := Lib.hid (G2.out.trans hg)
    have B3 := HB2.out.grown hg (fun j hj => by cases hj; omega)
    have HBf := Lib.hid B3
    clear c0 c1 z0 z1 hr hg
    obtain ⟨c0, c1⟩ := B3.cells
    obtain ⟨z0, z1⟩ := B3.thaw
    simp only at c0 c1
    clear B3
    go_wp2_with fail
    refine (Err_any Rf.out).mono ?_
    rintro r w6 ⟨rfl, rfl⟩
    have hz : ¬ failE e2 4 = 0 := by unfold failE; split <;> omega
    have hz' : (failE e2 4 != 0) = true := by simp; exact hz
    have HX2 := Lib.hid (HX1.out.trans (if_neg hz))
    clear hz HX1
    go_wp2_with fail
    obtain ⟨W, hW, BW, GW, RW⟩ := HBf.out.put Gf.out HQ2.out ⟨0, 0⟩
    rw [show ((⟨0, 0⟩ : Lab).p : Int) = 0 from rfl] at hW
    rw [← hW]
    clear hW
    obtain ⟨d0, d1⟩ := BW.cells
    refine bodyPost_ret (by simp [results, Try.results58, go_sem, d0, d1]; try rfl) rfl ?_
    rw [HX2.out]
    exact ⟨rfl, RW _ _ _ _ Rf.out (by omega), GW⟩
  · have zk : ¬ (7 : Int) < (k : Int) := by omega
    by_cases hp : 4294967295 < p
    · have zp : (4294967295 : Int) < (p : Int) := by omega
      have hbad : 7 < k ∨ 4294967295 < p := .inr hp
      have HX1 := Lib.hid (HX.out.trans (by rw [if_pos hbad]))
      clear HX hbad
      go_wp2_with fail
      refine (Fail_any 4 R2.out).mono ?_
      rintro r w3 ⟨rfl, hr, hg⟩
      rw [← HFE.out] at hr
      have Rf := Lib.hid hr
      have Gf := Lib.hid (G2.out.trans hg)
      have B3 := HB2.out.grown hg (fun j hj => by cases hj; omega)
      have HBf := Lib.hid B3
      clear c0 c1 z0 z1 hr hg
      obtain ⟨c0, c1⟩ := B3.cells
      obtain ⟨z0, z1⟩ := B3.thaw
      simp only at c0 c1
      clear B3
      go_wp2_with fail
      refine (Err_any Rf.out).mono ?_
      rintro r w6 ⟨rfl, rfl⟩
      have hz : ¬ failE e2 4 = 0 := by unfold failE; split <;> omega
      have hz' : (failE e2 4 != 0) = true := by simp; exact hz
      have HX2 := Lib.hid (HX1.out.trans (if_neg hz))
      clear hz HX1
      go_wp2_with fail
      obtain ⟨W, hW, BW, GW, RW⟩ := HBf.out.put Gf.out HQ2.out ⟨0, 0⟩
      rw [show ((⟨0, 0⟩ : Lab).p : Int) = 0 from rfl] at hW
      rw [← hW]
      clear hW
      obtain ⟨d0, d1⟩ := BW.cells
      refine bodyPost_ret (by simp [results, Try.results58, go_sem, d0, d1]; try rfl) rfl ?_
      rw [HX2.out]
      exact ⟨rfl, RW _ _ _ _ Rf.out (by omega), GW⟩
    · have zp : ¬ (4294967295 : Int) < (p : Int) := by omega
      have HX1 := Lib.hid (HX.out.trans (by rw [if_neg (show ¬ (7 < k ∨ 4294967295 < p) by omega)]))
      clear HX
      have Rf := R2
      have Gf := G2
      have HBf := HB2
      go_wp2_with fail
      refine (Err_any Rf.out).mono ?_
      rintro r w6 ⟨rfl, rfl⟩
      by_cases hz : e2 = 0
      · subst hz
        have HX2 := Lib.hid (HX1.out.trans (if_pos rfl))
        have zp2 : (p : Int) < 4294967296 := by omega
        clear HX1
        go_wp2_with fail
        obtain ⟨W, hW, BW, GW, RW⟩ := HBf.out.put Gf.out HQ2.out ⟨(k : Int), p⟩
        rw [← hW]
        clear hW
        obtain ⟨d0, d1⟩ := BW.cells
        refine bodyPost_ret (by simp [results, Try.results58, go_sem, d0, d1]; try rfl) rfl ?_
        rw [HX2.out]
        exact ⟨rfl, RW _ _ _ _ Rf.out (by omega), GW⟩
      · have hz' : (e2 != 0) = true := by simp; exact hz
        have HX2 := Lib.hid (HX1.out.trans (if_neg hz))
        clear HX1
        go_wp2_with fail
        obtain ⟨W, hW, BW, GW, RW⟩ := HBf.out.put Gf.out HQ2.out ⟨0, 0⟩
        rw [show ((⟨0, 0⟩ : Lab).p : Int) = 0 from rfl] at hW
        rw [← hW]
        clear hW
        obtain ⟨d0, d1⟩ := BW.cells
        refine bodyPost_ret (by simp [results, Try.results58, go_sem, d0, d1]; try rfl) rfl ?_
        rw [HX2.out]
        exact ⟨rfl, RW _ _ _ _ Rf.out (by omega), GW⟩
end Go.Proofs.Ytmnabhennibddaa
