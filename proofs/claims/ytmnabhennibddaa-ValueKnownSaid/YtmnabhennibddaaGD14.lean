/- value.wrong, veil.Take, value.Take: their contracts. No conditions. -/
import Derived.Test.YtmnabhennibddaaGD10
import Derived.Test.YtmnabhennibddaaGD11
import Derived.Test.YtmnabhennibddaaGD13
import Derived.WalkMore
set_option linter.unusedSimpArgs false
set_option linter.unusedVariables false
namespace Go.Proofs.Ytmnabhennibddaa
open Go.RowKit

theorem gset {w a : World} {row : Option Nat} {q i : Nat} {v : Value} (h : w.grownBy a row) (hq : w.heap.size ≤ q) : w.grownBy (a.setCell ⟨q, i, none⟩ v) row :=
  ⟨h.os, h.tape, h.output, by show _ ≤ (a.heap.modify _ _).size; rw [Array.size_modify]; exact h.size, fun k hk hne => by
    rw [Below.heap_setCell a ⟨q, i, none⟩ v k (by show k ≠ q; omega)]; exact h.block k hk hne⟩
theorem galloc {w a : World} {row : Option Nat} (h : w.grownBy a row) (o : Obj) : w.grownBy (a.alloc o) row := h.trans (World.grownBy_alloc a o row)
theorem gbelow {w a b : World} {row : Option Nat} (h : w.grownBy a row) (hb : Below a.heap.size a b) : w.grownBy b row := h.trans (grown_of_below hb row)
/-- What a reader is told of what may not be. -/
def wrongE (e : Int) : Int := if e = 0 then 0 else 4
set_option maxHeartbeats 4000000 in
theorem wrong_any (e : Int) (w : World) : Calls Try.prog 54 #[.int .i64 e] w fun r w' => r = .returned (.int .i64 (wrongE e)) ∧ w = w' := by
  unfold wrongE
  by_cases h : e = 0
  · subst h
    rw [if_pos rfl]
    go_enter Try.func54, Try.ntmps54
    go_wp2
    go_ret
    exact ⟨rfl, rfl⟩
  · rw [if_neg h]
    have h' : (e != 0) = true := by simp; exact h
    go_enter Try.func54, Try.ntmps54
    go_wp2
    go_ret
    exact ⟨rfl, rfl⟩
theorem BV.set0 {w : World} {q : Nat} {x : Val} (h : BV w q x) (k : Int) : BV (w.setCell ⟨q, 0, none⟩ (.int .i64 k)) q ⟨k, x.n, x.b⟩ := heap_set h 0 _
theorem BV.set1 {w : World} {q : Nat} {x : Val} (h : BV w q x) (k : Int) : BV (w.setCell ⟨q, 1, none⟩ (.int .i64 k)) q ⟨x.k, k, x.b⟩ := heap_set h 1 _
theorem BV.set2 {w : World} {q : Nat} {x : Val} (h : BV w q x) (b : ByteArray) : BV (w.setCell ⟨q, 2, none⟩ (.string b)) q ⟨x.k, x.n, b⟩ := heap_set h 2 _
theorem BV.thaw {w : World} {q : Nat} {x : Val} (h : BV w q x) : w.frozen? ⟨q, 0, none⟩ = false ∧ w.frozen? ⟨q, 1, none⟩ = false ∧ w.frozen? ⟨q, 2, none⟩ = false := ⟨frozen_of h 0, frozen_of h 1, frozen_of h 2⟩
theorem BV.grown {w w' : World} {q : Nat} {x : Val} {row : Option Nat} (h : BV w q x) (hg : w.grownBy w' row) (hr : ∀ j, row = some j → q ≠ j) : BV w' q x := by
  have hlt := (Array.getElem?_eq_some_iff.1 h).1
  unfold BV
  rw [hg.block q hlt (fun e => hr q e.symm rfl)]
  exact h
theorem BV.put {w w0 : World} {q : Nat} {x : Val} {row : Option Nat} (h : BV w q x) (hg : w0.grownBy w row) (hq : w0.heap.size ≤ q) (y : Val) :
    ∃ W, W = ((w.setCell ⟨q, 0, none⟩ (.int .i64 y.k)).setCell ⟨q, 1, none⟩ (.int .i64 y.n)).setCell ⟨q, 2, none⟩ (.string y.b) ∧ BV W q y ∧ w0.grownBy W row ∧
      (∀ lo g e l, Rdr w lo g e l → q ≠ g → (q < lo ∨ g < q) → Rdr W lo g e l) :=
  ⟨_, rfl, ((h.set0 y.k).set1 y.n).set2 y.b, gset (gset (gset hg hq) hq) hq, fun lo g e l hr hne ho =>
    ((hr.grown (grown_set _ _ _ _) (fun j hj => by cases hj; exact ho)).grown (grown_set _ _ _ _) (fun j hj => by cases hj; exact ho)).grown (grown_set _ _ _ _) (fun j hj => by cases hj; exact ho)⟩

/-- A value off a reader: as it comes; and what is told. -/
def rawV (e : Int) (l : List Nat) : Val × Int × List Nat :=
  if (nb 9007199254740991 e l).1 = 1 then
    (⟨1, zag (nb 18014398509481982 (nb 9007199254740991 e l).2.1 (nb 9007199254740991 e l).2.2).1, ⟨#[]⟩⟩, (nb 18014398509481982 (nb 9007199254740991 e l).2.1 (nb 9007199254740991 e l).2.2).2)
  else if (nb 9007199254740991 e l).1 = 2 then
    (⟨2, 0, bs (txt 64 (nb 9007199254740991 e l).2.1 (nb 9007199254740991 e l).2.2).1⟩, (txt 64 (nb 9007199254740991 e l).2.1 (nb 9007199254740991 e l).2.2).2)
  else if (nb 9007199254740991 e l).1 = 3 then
    (⟨3, ((nb 9007199254740991 (nb 9007199254740991 e l).2.1 (nb 9007199254740991 e l).2.2).1 : Int), ⟨#[]⟩⟩, (nb 9007199254740991 (nb 9007199254740991 e l).2.1 (nb 9007199254740991 e l).2.2).2)
  else (⟨((nb 9007199254740991 e l).1 : Int), 0, ⟨#[]⟩⟩, (nb 9007199254740991 e l).2)
def failE (e k : Int) : Int := if e = 0 then k else e
def tkV (e : Int) (l : List Nat) : Val × Int × List Nat :=
  if failE (rawV e l).2.1 (wrongE (chkV (rawV e l).1)) = 0 then ((rawV e l).1, 0, (rawV e l).2.2) else (⟨0, 0, ⟨#[]⟩⟩, failE (rawV e l).2.1 (wrongE (chkV (rawV e l).1)), (rawV e l).2.2)
/-- .. in memory. -/
def TkR (w w' : World) (r : Ending) (lo g : Nat) (v : Value) (e : Int) (l : List Nat) : Prop :=
  r = .returned v ∧ Rdr w' lo g e l ∧ w.grownBy w' (some g)

set_option maxHeartbeats 16000000 in
set_option maxRecDepth 100000 in
theorem takeV_any {lo g : Nat} {e : Int} {l : List Nat} {w : World} (h : Rdr w lo g e l) :
    Calls Try.prog 23 #[.pointer (some ⟨g, 0, none⟩)] w fun r w' => TkR w w' r lo g (tkV e l).1.v (tkV e l).2.1 (tkV e l).2.2 := by
  obtain ⟨X, hX⟩ : ∃ X, X = tkV e l := ⟨_, rfl⟩
  rw [← hX]
  have HX := Lib.hid hX
  have hlt := h.lt
  have hrw : rawV e l = rawV e l := rfl
  conv at hrw => rhs; unfold rawV
  have HH := Lib.hid h
  clear h hX
  generalize hx1 : nb 9007199254740991 e l = x1 at *
  obtain ⟨k, e1, l1⟩ := x1
  have HN1 := Lib.hid hx1
  simp only at hrw
  have HRW0 := Lib.hid hrw
  clear hx1 hrw
  obtain ⟨q, hq⟩ : ∃ q, q = w.heap.size := ⟨_, rfl⟩
  have hgq : g < q := by omega
  have HQ2 := Lib.hid (show w.heap.size ≤ q by omega)
  have HQ := Lib.hid hq
  clear hq hlt
  go_enter Try.func23, Try.ntmps23
  go_wp2_with fail
  obtain ⟨wa, hwa⟩ : ∃ wa, wa = w.alloc (.cells #[.int .i64 0, .int .i64 0, .string ⟨#[]⟩] 42) := ⟨_, rfl⟩
  rw [← hwa, ← HQ.out]
  have BA : BV wa q ⟨0, 0, ⟨#[]⟩⟩ := by rw [hwa, HQ.out]; exact heap_alloc_new w _
  have GA : w.grownBy wa (some g) := by rw [hwa]; exact World.grownBy_alloc _ _ _
  have RA : Rdr wa lo g e l := by rw [hwa]; exact HH.out.grown (World.grownBy_alloc _ _ none) (fun j hj => by cases hj)
  clear hwa
  refine (rdU_any RA).mono ?_
  rw [HN1.out]
  rintro r w1 ⟨rfl, hr, hg⟩
  simp only at hr ⊢
  have G1 := Lib.hid (GA.trans hg)
  have B1 := BA.grown hg (fun j hj => by cases hj; omega)
  have R1 := Lib.hid hr
  have HB1 := Lib.hid B1
  obtain ⟨c0, c1, c2⟩ := B1.cells
  obtain ⟨z0, z1, z2⟩ := B1.thaw
  clear BA GA RA hr hg HN1 B1
  by_cases k1 : k = 1
  · subst k1
    obtain ⟨w2, hw2⟩ : ∃ W, W = w1.setCell ⟨q, 0, none⟩ (.int .i64 1) := ⟨_, rfl⟩
    have B2 : BV w2 q ⟨1, 0, ⟨#[]⟩⟩ := by rw [hw2]; exact HB1.out.set0 _
    have G2 := Lib.hid (show w.grownBy w2 (some g) by rw [hw2]; exact gset G1.out HQ2.out)
    have R2 := Lib.hid (show Rdr w2 lo g e1 l1 by rw [hw2]; exact R1.out.grown (grown_set _ _ _ _) (fun j hj => by cases hj; omega))
    have HB2 := Lib.hid B2
    clear B2
    have hrw : rawV e l = (⟨1, zag (nb 18014398509481982 e1 l1).1, ⟨#[]⟩⟩, (nb 18014398509481982 e1 l1).2) := HRW0.out.trans (if_pos rfl)
    generalize hx2 : nb 18014398509481982 e1 l1 = x2 at *
    obtain ⟨z, e2, l2⟩ := x2
    simp only at hrw
    have HN2 := Lib.hid hx2
    have HRW := Lib.hid hrw
    clear hx2 hrw HRW0
    have hx : X = if failE e2 (wrongE (chkV (⟨1, zag z, ⟨#[]⟩⟩ : Val))) = 0 then ((⟨1, zag z, ⟨#[]⟩⟩ : Val), 0, l2) else (⟨0, 0, ⟨#[]⟩⟩, failE e2 (wrongE (chkV (⟨1, zag z, ⟨#[]⟩⟩ : Val))), l2) := HX.out.trans (by unfold tkV; rw [HRW.out])
    have hcv0 := check_any (⟨1, zag z, ⟨#[]⟩⟩ : Val)
    unfold Val.v at hcv0
    simp only at hcv0
    have HFE := Lib.hid (show failE e2 (wrongE (chkV (⟨1, zag z, ⟨#[]⟩⟩ : Val))) = if e2 = 0 then wrongE (chkV (⟨1, zag z, ⟨#[]⟩⟩ : Val)) else e2 from rfl)
    obtain ⟨cv, hcv⟩ : ∃ c, c = chkV (⟨1, zag z, ⟨#[]⟩⟩ : Val) := ⟨_, rfl⟩
    rw [← hcv] at hx hcv0 HFE
    have HX1 := Lib.hid hx
    have HCV := Lib.hid hcv0
    clear hx hcv hcv0 HX HRW
    go_wp2_with fail
    rw [← hw2]
    clear hw2 c0 c1 c2 z0 z1 z2
    refine (rdS_any R2.out).mono ?_
    rw [HN2.out]
    rintro r w3 ⟨rfl, hr, hg⟩
    simp only at hr ⊢
    have B3 := HB2.out.grown hg (fun j hj => by cases hj; omega)
    have HB3 := Lib.hid B3
    have G30 := Lib.hid (G2.out.trans hg)
    have R30 := Lib.hid hr
    obtain ⟨c0, c1, c2⟩ := B3.cells
    obtain ⟨z0, z1, z2⟩ := B3.thaw
    clear hr hg B3
    obtain ⟨w4, hw4⟩ : ∃ W, W = w3.setCell ⟨q, 1, none⟩ (.int .i64 (zag z)) := ⟨_, rfl⟩
    have BVv : Hid (BV w4 q (⟨1, zag z, ⟨#[]⟩⟩ : Val)) := Lib.hid (by rw [hw4]; exact HB3.out.set1 (zag z))
    have G3 := Lib.hid (show w.grownBy w4 (some g) by rw [hw4]; exact gset G30.out HQ2.out)
    have R3 := Lib.hid (show Rdr w4 lo g e2 l2 by rw [hw4]; exact R30.out.grown (grown_set _ _ _ _) (fun j hj => by cases hj; omega))
    go_wp2_with fail
    rw [← hw4]
    clear hw4 HB3 G30 R30
    refine (HCV.out _).mono ?_
    rintro r w4 ⟨rfl, hb4⟩
    go_wp2_with fail
    refine (wrong_any cv _).mono ?_
    rintro r w5 ⟨rfl, rfl⟩
    go_wp2_with fail
    refine (Fail_any (wrongE cv) (R3.out.below hb4)).mono ?_
    rintro r w5 ⟨rfl, hr, hg⟩
    rw [← HFE.out] at hr
    have R5 := Lib.hid hr
    have G5 := Lib.hid ((gbelow G3.out hb4).trans hg)
    have B5 := (BVv.out.below hb4).grown hg (fun j hj => by cases hj; omega)
    have HB5 := Lib.hid B5
    clear hr hg c0 c1 c2 z0 z1 z2
    obtain ⟨c0, c1, c2⟩ := B5.cells
    obtain ⟨z0, z1, z2⟩ := B5.thaw
    clear B5
    go_wp2_with fail
    refine (Err_any R5.out).mono ?_
    rintro r w6 ⟨rfl, rfl⟩
    by_cases hz : failE e2 (wrongE cv) = 0
    · rw [hz] at R5 HX1 ⊢
      have HX2 := Lib.hid (HX1.out.trans (if_pos rfl))
      clear hz HX1
      go_wp2_with fail
      obtain ⟨W, hW, BW, GW, RW⟩ := HB5.out.put G5.out HQ2.out (⟨1, zag z, ⟨#[]⟩⟩ : Val)
      rw [← hW]
      clear hW
      obtain ⟨d0, d1, d2⟩ := BW.cells
      refine bodyPost_ret (by simp [results, Try.results23, go_sem, d0, d1, d2]; try rfl) rfl ?_
      rw [HX2.out]
      exact ⟨rfl, RW _ _ _ _ R5.out (by omega) (by omega), GW⟩
    · have hz' : (failE e2 (wrongE cv) != 0) = true := by simp; exact hz
      have HX2 := Lib.hid (HX1.out.trans (if_neg hz))
      clear hz HX1
      go_wp2_with fail
      obtain ⟨W, hW, BW, GW, RW⟩ := HB5.out.put G5.out HQ2.out ⟨0, 0, ⟨#[]⟩⟩
      rw [← hW]
      clear hW
      obtain ⟨d0, d1, d2⟩ := BW.cells
      refine bodyPost_ret (by simp [results, Try.results23, go_sem, d0, d1, d2]; try rfl) rfl ?_
      rw [HX2.out]
      exact ⟨rfl, RW _ _ _ _ R5.out (by omega) (by omega), GW⟩
  · have k1' : ((k : Int) == 1) = false := by simp; omega
    by_cases k2 : k = 2
    · subst k2
      obtain ⟨w2, hw2⟩ : ∃ W, W = w1.setCell ⟨q, 0, none⟩ (.int .i64 2) := ⟨_, rfl⟩
      have B2 : BV w2 q ⟨2, 0, ⟨#[]⟩⟩ := by rw [hw2]; exact HB1.out.set0 _
      have G2 := Lib.hid (show w.grownBy w2 (some g) by rw [hw2]; exact gset G1.out HQ2.out)
      have R2 := Lib.hid (show Rdr w2 lo g e1 l1 by rw [hw2]; exact R1.out.grown (grown_set _ _ _ _) (fun j hj => by cases hj; omega))
      have HB2 := Lib.hid B2
      clear B2
      have hrw : rawV e l = (⟨2, 0, bs (txt 64 e1 l1).1⟩, (txt 64 e1 l1).2) := HRW0.out.trans ((if_neg (by decide)).trans (if_pos rfl))
      generalize hx2 : txt 64 e1 l1 = x2 at *
      obtain ⟨z, e2, l2⟩ := x2
      simp only at hrw
      have HN2 := Lib.hid hx2
      have HRW := Lib.hid hrw
      clear hx2 hrw HRW0
      have hx : X = if failE e2 (wrongE (chkV (⟨2, 0, bs z⟩ : Val))) = 0 then ((⟨2, 0, bs z⟩ : Val), 0, l2) else (⟨0, 0, ⟨#[]⟩⟩, failE e2 (wrongE (chkV (⟨2, 0, bs z⟩ : Val))), l2) := HX.out.trans (by unfold tkV; rw [HRW.out])
      have hcv0 := check_any (⟨2, 0, bs z⟩ : Val)
      unfold Val.v at hcv0
      simp only at hcv0
      have HFE := Lib.hid (show failE e2 (wrongE (chkV (⟨2, 0, bs z⟩ : Val))) = if e2 = 0 then wrongE (chkV (⟨2, 0, bs z⟩ : Val)) else e2 from rfl)
      obtain ⟨cv, hcv⟩ : ∃ c, c = chkV (⟨2, 0, bs z⟩ : Val) := ⟨_, rfl⟩
      rw [← hcv] at hx hcv0 HFE
      have HX1 := Lib.hid hx
      have HCV := Lib.hid hcv0
      clear hx hcv hcv0 HX HRW
      go_wp2_with fail
      rw [← hw2]
      clear hw2 c0 c1 c2 z0 z1 z2
      refine (rdText_any 64 R2.out).mono ?_
      rw [HN2.out]
      rintro r w3 ⟨rfl, _, _, hr, hg⟩
      simp only at hr ⊢
      have B3 := HB2.out.grown hg (fun j hj => by cases hj; omega)
      have HB3 := Lib.hid B3
      have G30 := Lib.hid (G2.out.trans hg)
      have R30 := Lib.hid hr
      obtain ⟨c0, c1, c2⟩ := B3.cells
      obtain ⟨z0, z1, z2⟩ := B3.thaw
      clear hr hg B3
      obtain ⟨w4, hw4⟩ : ∃ W, W = w3.setCell ⟨q, 2, none⟩ (.string (bs z)) := ⟨_, rfl⟩
      have BVv : Hid (BV w4 q (⟨2, 0, bs z⟩ : Val)) := Lib.hid (by rw [hw4]; exact HB3.out.set2 (bs z))
      have G3 := Lib.hid (show w.grownBy w4 (some g) by rw [hw4]; exact gset G30.out HQ2.out)
      have R3 := Lib.hid (show Rdr w4 lo g e2 l2 by rw [hw4]; exact R30.out.grown (grown_set _ _ _ _) (fun j hj => by cases hj; omega))
      go_wp2_with fail
      rw [← hw4]
      clear hw4 HB3 G30 R30
      refine (HCV.out _).mono ?_
      rintro r w4 ⟨rfl, hb4⟩
      go_wp2_with fail
      refine (wrong_any cv _).mono ?_
      rintro r w5 ⟨rfl, rfl⟩
      go_wp2_with fail
      refine (Fail_any (wrongE cv) (R3.out.below hb4)).mono ?_
      rintro r w5 ⟨rfl, hr, hg⟩
      rw [← HFE.out] at hr
      have R5 := Lib.hid hr
      have G5 := Lib.hid ((gbelow G3.out hb4).trans hg)
      have B5 := (BVv.out.below hb4).grown hg (fun j hj => by cases hj; omega)
      have HB5 := Lib.hid B5
      clear hr hg c0 c1 c2 z0 z1 z2
      obtain ⟨c0, c1, c2⟩ := B5.cells
      obtain ⟨z0, z1, z2⟩ := B5.thaw
      clear B5
      go_wp2_with fail
      refine (Err_any R5.out).mono ?_
      rintro r w6 ⟨rfl, rfl⟩
      by_cases hz : failE e2 (wrongE cv) = 0
      · rw [hz] at R5 HX1 ⊢
        have HX2 := Lib.hid (HX1.out.trans (if_pos rfl))
        clear hz HX1
        go_wp2_with fail
        obtain ⟨W, hW, BW, GW, RW⟩ := HB5.out.put G5.out HQ2.out (⟨2, 0, bs z⟩ : Val)
        rw [← hW]
        clear hW
        obtain ⟨d0, d1, d2⟩ := BW.cells
        refine bodyPost_ret (by simp [results, Try.results23, go_sem, d0, d1, d2]; try rfl) rfl ?_
        rw [HX2.out]
        exact ⟨rfl, RW _ _ _ _ R5.out (by omega) (by omega), GW⟩
      · have hz' : (failE e2 (wrongE cv) != 0) = true := by simp; exact hz
        have HX2 := Lib.hid (HX1.out.trans (if_neg hz))
        clear hz HX1
        go_wp2_with fail
        obtain ⟨W, hW, BW, GW, RW⟩ := HB5.out.put G5.out HQ2.out ⟨0, 0, ⟨#[]⟩⟩
        rw [← hW]
        clear hW
        obtain ⟨d0, d1, d2⟩ := BW.cells
        refine bodyPost_ret (by simp [results, Try.results23, go_sem, d0, d1, d2]; try rfl) rfl ?_
        rw [HX2.out]
        exact ⟨rfl, RW _ _ _ _ R5.out (by omega) (by omega), GW⟩
    · have k2' : ((k : Int) == 2) = false := by simp; omega
      by_cases k3 : k = 3
      · subst k3
        obtain ⟨w2, hw2⟩ : ∃ W, W = w1.setCell ⟨q, 0, none⟩ (.int .i64 3) := ⟨_, rfl⟩
        have B2 : BV w2 q ⟨3, 0, ⟨#[]⟩⟩ := by rw [hw2]; exact HB1.out.set0 _
        have G2 := Lib.hid (show w.grownBy w2 (some g) by rw [hw2]; exact gset G1.out HQ2.out)
        have R2 := Lib.hid (show Rdr w2 lo g e1 l1 by rw [hw2]; exact R1.out.grown (grown_set _ _ _ _) (fun j hj => by cases hj; omega))
        have HB2 := Lib.hid B2
        clear B2
        have hrw : rawV e l = (⟨3, ((nb 9007199254740991 e1 l1).1 : Int), ⟨#[]⟩⟩, (nb 9007199254740991 e1 l1).2) := HRW0.out.trans ((if_neg (by decide)).trans ((if_neg (by decide)).trans (if_pos rfl)))
        generalize hx2 : nb 9007199254740991 e1 l1 = x2 at *
        obtain ⟨z, e2, l2⟩ := x2
        simp only at hrw
        have HN2 := Lib.hid hx2
        have HRW := Lib.hid hrw
        clear hx2 hrw HRW0
        have hx : X = if failE e2 (wrongE (chkV (⟨3, (z : Int), ⟨#[]⟩⟩ : Val))) = 0 then ((⟨3, (z : Int), ⟨#[]⟩⟩ : Val), 0, l2) else (⟨0, 0, ⟨#[]⟩⟩, failE e2 (wrongE (chkV (⟨3, (z : Int), ⟨#[]⟩⟩ : Val))), l2) := HX.out.trans (by unfold tkV; rw [HRW.out])
        have hcv0 := check_any (⟨3, (z : Int), ⟨#[]⟩⟩ : Val)
        unfold Val.v at hcv0
        simp only at hcv0
        have HFE := Lib.hid (show failE e2 (wrongE (chkV (⟨3, (z : Int), ⟨#[]⟩⟩ : Val))) = if e2 = 0 then wrongE (chkV (⟨3, (z : Int), ⟨#[]⟩⟩ : Val)) else e2 from rfl)
        obtain ⟨cv, hcv⟩ : ∃ c, c = chkV (⟨3, (z : Int), ⟨#[]⟩⟩ : Val) := ⟨_, rfl⟩
        rw [← hcv] at hx hcv0 HFE
        have HX1 := Lib.hid hx
        have HCV := Lib.hid hcv0
        clear hx hcv hcv0 HX HRW
        go_wp2_with fail
        rw [← hw2]
        clear hw2 c0 c1 c2 z0 z1 z2
        refine (rdU_any R2.out).mono ?_
        rw [HN2.out]
        rintro r w3 ⟨rfl, hr, hg⟩
        simp only at hr ⊢
        have B3 := HB2.out.grown hg (fun j hj => by cases hj; omega)
        have HB3 := Lib.hid B3
        have G30 := Lib.hid (G2.out.trans hg)
        have R30 := Lib.hid hr
        obtain ⟨c0, c1, c2⟩ := B3.cells
        obtain ⟨z0, z1, z2⟩ := B3.thaw
        clear hr hg B3
        obtain ⟨w4, hw4⟩ : ∃ W, W = w3.setCell ⟨q, 1, none⟩ (.int .i64 (z : Int)) := ⟨_, rfl⟩
        have BVv : Hid (BV w4 q (⟨3, (z : Int), ⟨#[]⟩⟩ : Val)) := Lib.hid (by rw [hw4]; exact HB3.out.set1 (z : Int))
        have G3 := Lib.hid (show w.grownBy w4 (some g) by rw [hw4]; exact gset G30.out HQ2.out)
        have R3 := Lib.hid (show Rdr w4 lo g e2 l2 by rw [hw4]; exact R30.out.grown (grown_set _ _ _ _) (fun j hj => by cases hj; omega))
        go_wp2_with fail
        rw [← hw4]
        clear hw4 HB3 G30 R30
        refine (HCV.out _).mono ?_
        rintro r w4 ⟨rfl, hb4⟩
        go_wp2_with fail
        refine (wrong_any cv _).mono ?_
        rintro r w5 ⟨rfl, rfl⟩
        go_wp2_with fail
        refine (Fail_any (wrongE cv) (R3.out.below hb4)).mono ?_
        rintro r w5 ⟨rfl, hr, hg⟩
        rw [← HFE.out] at hr
        have R5 := Lib.hid hr
        have G5 := Lib.hid ((gbelow G3.out hb4).trans hg)
        have B5 := (BVv.out.below hb4).grown hg (fun j hj => by cases hj; omega)
        have HB5 := Lib.hid B5
        clear hr hg c0 c1 c2 z0 z1 z2
        obtain ⟨c0, c1, c2⟩ := B5.cells
        obtain ⟨z0, z1, z2⟩ := B5.thaw
        clear B5
        go_wp2_with fail
        refine (Err_any R5.out).mono ?_
        rintro r w6 ⟨rfl, rfl⟩
        by_cases hz : failE e2 (wrongE cv) = 0
        · rw [hz] at R5 HX1 ⊢
          have HX2 := Lib.hid (HX1.out.trans (if_pos rfl))
          clear hz HX1
          go_wp2_with fail
          obtain ⟨W, hW, BW, GW, RW⟩ := HB5.out.put G5.out HQ2.out (⟨3, (z : Int), ⟨#[]⟩⟩ : Val)
          rw [← hW]
          clear hW
          obtain ⟨d0, d1, d2⟩ := BW.cells
          refine bodyPost_ret (by simp [results, Try.results23, go_sem, d0, d1, d2]; try rfl) rfl ?_
          rw [HX2.out]
          exact ⟨rfl, RW _ _ _ _ R5.out (by omega) (by omega), GW⟩
        · have hz' : (failE e2 (wrongE cv) != 0) = true := by simp; exact hz
          have HX2 := Lib.hid (HX1.out.trans (if_neg hz))
          clear hz HX1
          go_wp2_with fail
          obtain ⟨W, hW, BW, GW, RW⟩ := HB5.out.put G5.out HQ2.out ⟨0, 0, ⟨#[]⟩⟩
          rw [← hW]
          clear hW
          obtain ⟨d0, d1, d2⟩ := BW.cells
          refine bodyPost_ret (by simp [results, Try.results23, go_sem, d0, d1, d2]; try rfl) rfl ?_
          rw [HX2.out]
          exact ⟨rfl, RW _ _ _ _ R5.out (by omega) (by omega), GW⟩
      · have k3' : ((k : Int) == 3) = false := by simp; omega
        have hrw : rawV e l = ((⟨(k : Int), 0, ⟨#[]⟩⟩ : Val), e1, l1) := HRW0.out.trans ((if_neg k1).trans ((if_neg k2).trans (if_neg k3)))
        have HRW := Lib.hid hrw
        clear hrw HRW0
        obtain ⟨w2, hw2⟩ : ∃ W, W = w1.setCell ⟨q, 0, none⟩ (.int .i64 (k : Int)) := ⟨_, rfl⟩
        have B2 : BV w2 q ⟨(k : Int), 0, ⟨#[]⟩⟩ := by rw [hw2]; exact HB1.out.set0 _
        have G2 := Lib.hid (show w.grownBy w2 (some g) by rw [hw2]; exact gset G1.out HQ2.out)
        have R2 := Lib.hid (show Rdr w2 lo g e1 l1 by rw [hw2]; exact R1.out.grown (grown_set _ _ _ _) (fun j hj => by cases hj; omega))
        have HB2 := Lib.hid B2
        clear B2
        have hx : X = if failE e1 (wrongE (chkV (⟨(k : Int), 0, ⟨#[]⟩⟩ : Val))) = 0 then ((⟨(k : Int), 0, ⟨#[]⟩⟩ : Val), 0, l1) else (⟨0, 0, ⟨#[]⟩⟩, failE e1 (wrongE (chkV (⟨(k : Int), 0, ⟨#[]⟩⟩ : Val))), l1) := HX.out.trans (by unfold tkV; rw [HRW.out])
        have hcv0 := check_any (⟨(k : Int), 0, ⟨#[]⟩⟩ : Val)
        unfold Val.v at hcv0
        simp only at hcv0
        have HFE := Lib.hid (show failE e1 (wrongE (chkV (⟨(k : Int), 0, ⟨#[]⟩⟩ : Val))) = if e1 = 0 then wrongE (chkV (⟨(k : Int), 0, ⟨#[]⟩⟩ : Val)) else e1 from rfl)
        obtain ⟨cv, hcv⟩ : ∃ c, c = chkV (⟨(k : Int), 0, ⟨#[]⟩⟩ : Val) := ⟨_, rfl⟩
        rw [← hcv] at hx hcv0 HFE
        have HX1 := Lib.hid hx
        have HCV := Lib.hid hcv0
        clear hx hcv hcv0 HX HRW
        go_wp2_with fail
        rw [← hw2]
        clear hw2
        have BVv := HB2
        have G3 := G2
        have R3 := R2
        refine (HCV.out _).mono ?_
        rintro r w4 ⟨rfl, hb4⟩
        go_wp2_with fail
        refine (wrong_any cv _).mono ?_
        rintro r w5 ⟨rfl, rfl⟩
        go_wp2_with fail
        refine (Fail_any (wrongE cv) (R3.out.below hb4)).mono ?_
        rintro r w5 ⟨rfl, hr, hg⟩
        rw [← HFE.out] at hr
        have R5 := Lib.hid hr
        have G5 := Lib.hid ((gbelow G3.out hb4).trans hg)
        have B5 := (BVv.out.below hb4).grown hg (fun j hj => by cases hj; omega)
        have HB5 := Lib.hid B5
        clear hr hg c0 c1 c2 z0 z1 z2
        obtain ⟨c0, c1, c2⟩ := B5.cells
        obtain ⟨z0, z1, z2⟩ := B5.thaw
        clear B5
        go_wp2_with fail
        refine (Err_any R5.out).mono ?_
        rintro r w6 ⟨rfl, rfl⟩
        by_cases hz : failE e1 (wrongE cv) = 0
        · rw [hz] at R5 HX1 ⊢
          have HX2 := Lib.hid (HX1.out.trans (if_pos rfl))
          clear hz HX1
          go_wp2_with fail
          obtain ⟨W, hW, BW, GW, RW⟩ := HB5.out.put G5.out HQ2.out (⟨(k : Int), 0, ⟨#[]⟩⟩ : Val)
          rw [← hW]
          clear hW
          obtain ⟨d0, d1, d2⟩ := BW.cells
          refine bodyPost_ret (by simp [results, Try.results23, go_sem, d0, d1, d2]; try rfl) rfl ?_
          rw [HX2.out]
          exact ⟨rfl, RW _ _ _ _ R5.out (by omega) (by omega), GW⟩
        · have hz' : (failE e1 (wrongE cv) != 0) = true := by simp; exact hz
          have HX2 := Lib.hid (HX1.out.trans (if_neg hz))
          clear hz HX1
          go_wp2_with fail
          obtain ⟨W, hW, BW, GW, RW⟩ := HB5.out.put G5.out HQ2.out ⟨0, 0, ⟨#[]⟩⟩
          rw [← hW]
          clear hW
          obtain ⟨d0, d1, d2⟩ := BW.cells
          refine bodyPost_ret (by simp [results, Try.results23, go_sem, d0, d1, d2]; try rfl) rfl ?_
          rw [HX2.out]
          exact ⟨rfl, RW _ _ _ _ R5.out (by omega) (by omega), GW⟩
end Go.Proofs.Ytmnabhennibddaa
