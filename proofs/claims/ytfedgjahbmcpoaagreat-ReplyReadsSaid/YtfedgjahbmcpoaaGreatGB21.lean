/- veil.Take: its contract. No conditions. -/
import Derived.Test.YtfedgjahbmcpoaaGreatGB20
import Derived.Test.YtfedgjahbmcpoaaGreatGB19
set_option linter.unusedSimpArgs false
set_option linter.unusedVariables false
namespace Go.Proofs.YtfedgjahbmcpoaaGreat
open Go.RowKit

/-- A label off a reader. -/
def tkL (e : Int) (l : List Nat) : Lab × Int × List Nat :=
  let a := nb 9007199254740991 e l
  let b := nb 9007199254740991 a.2.1 a.2.2
  let e3 := if 7 < a.1 ∨ 4294967295 < b.1 then failE b.2.1 4 else b.2.1
  if e3 = 0 then (⟨(a.1 : Int), b.1⟩, 0, b.2.2) else (⟨0, 0⟩, e3, b.2.2)
theorem BL.set0 {w : World} {q : Nat} {x : Lab} (h : BL w q x) (k : Int) : BL (w.setCell ⟨q, 0, none⟩ (.int .i64 k)) q ⟨k, x.p⟩ := heap_set h 0 _
theorem BL.set1 {w : World} {q : Nat} {x : Lab} (h : BL w q x) (k : Nat) : BL (w.setCell ⟨q, 1, none⟩ (.int .u32 (k : Int))) q ⟨x.l, k⟩ := heap_set h 1 _
theorem BL.thaw {w : World} {q : Nat} {x : Lab} (h : BL w q x) : w.frozen? ⟨q, 0, none⟩ = false ∧ w.frozen? ⟨q, 1, none⟩ = false := ⟨frozen_of h 0, frozen_of h 1⟩
theorem BL.grown {w w' : World} {q : Nat} {x : Lab} {row : Option Nat} (h : BL w q x) (hg : w.grownBy w' row) (hr : ∀ j, row = some j → q ≠ j) : BL w' q x := by
  have hlt := (Array.getElem?_eq_some_iff.1 h).1
  unfold BL
  rw [hg.block q hlt (fun e => hr q e.symm rfl)]
  exact h
theorem BL.put {w w0 : World} {q : Nat} {x : Lab} {row : Option Nat} (h : BL w q x) (hg : w0.grownBy w row) (hq : w0.heap.size ≤ q) (y : Lab) :
    ∃ W, W = (w.setCell ⟨q, 0, none⟩ (.int .i64 y.l)).setCell ⟨q, 1, none⟩ (.int .u32 (y.p : Int)) ∧ BL W q y ∧ w0.grownBy W row ∧
      (∀ lo g e l, Rdr w lo g e l → (q < lo ∨ g < q) → Rdr W lo g e l) :=
  ⟨_, rfl, (h.set0 y.l).set1 y.p, gset (gset hg hq) hq, fun lo g e l hr ho =>
    (hr.grown (grown_set _ _ _ _) (fun j hj => by cases hj; exact ho)).grown (grown_set _ _ _ _) (fun j hj => by cases hj; exact ho)⟩

set_option maxHeartbeats 16000000 in
set_option maxRecDepth 100000 in
theorem takeL_any {lo g : Nat} {e : Int} {l : List Nat} {w : World} (h : Rdr w lo g e l) :
    Calls Tryz.prog 98 #[.pointer (some ⟨g, 0, none⟩)] w fun r w' => TkR w w' r lo g (tkL e l).1.v (tkL e l).2.1 (tkL e l).2.2 := by
  obtain ⟨X, hX⟩ : ∃ X, X = tkL e l := ⟨_, rfl⟩
  rw [← hX]
  unfold tkL at hX
  have hlt := h.lt
  have HH := Lib.hid h
  have hle1 := nb_le 9007199254740991 e l
  clear h
  generalize hx1 : nb 9007199254740991 e l = x1 at *
  obtain ⟨k, e1, l1⟩ := x1
  have HN1 := Lib.hid hx1
  simp only at hX
  have hle2 := nb_le 9007199254740991 e1 l1
  generalize hx2 : nb 9007199254740991 e1 l1 = x2 at *
  obtain ⟨p, e2, l2⟩ := x2
  have HN2 := Lib.hid hx2
  simp only at hX hle1 hle2
  have HX := Lib.hid hX
  have HFE := Lib.hid (show failE e2 4 = if e2 = 0 then 4 else e2 from rfl)
  clear hx1 hx2 hX
  obtain ⟨q, hq⟩ : ∃ q, q = w.heap.size := ⟨_, rfl⟩
  have hgq : g < q := by omega
  have HQ2 := Lib.hid (show w.heap.size ≤ q by omega)
  have HQ := Lib.hid hq
  clear hq hlt
  go_enter Tryz.func98, Tryz.ntmps98
  go_wp2_with fail
  obtain ⟨wa, hwa⟩ : ∃ wa, wa = w.alloc (.cells #[.int .i64 0, .int .u32 0] 97) := ⟨_, rfl⟩
  rw [← hwa, ← HQ.out]
  have BA : BL wa q ⟨0, 0⟩ := by rw [hwa, HQ.out]; exact heap_alloc_new w _
  have GA : w.grownBy wa (some g) := by rw [hwa]; exact World.grownBy_alloc _ _ _
  have RA : Rdr wa lo g e l := by rw [hwa]; exact HH.out.grown (World.grownBy_alloc _ _ none) (fun j hj => by cases hj)
  clear hwa
  refine (rdU_any RA).mono ?_
  rw [HN1.out]
  rintro r w1 ⟨rfl, hr, hg⟩
  simp only at hr ⊢
  have G1 := Lib.hid (GA.trans hg)
  have B1 := Lib.hid (BA.grown hg (fun j hj => by cases hj; omega))
  have R1 := Lib.hid hr
  clear BA GA RA hr hg HN1
  go_wp2_with fail
  refine (rdU_any R1.out).mono ?_
  rw [HN2.out]
  rintro r w2 ⟨rfl, hr, hg⟩
  simp only at hr ⊢
  have G2 := Lib.hid (G1.out.trans hg)
  have B2 := B1.out.grown hg (fun j hj => by cases hj; omega)
  have R2 := Lib.hid hr
  have HB2 := Lib.hid B2
  obtain ⟨c0, c1⟩ := B2.cells
  obtain ⟨z0, z1⟩ := B2.thaw
  simp only at c0 c1
  clear hr hg HN2 B2 B1 G1 R1
  by_cases hk : 7 < k
  · have zk : (7 : Int) < (k : Int) := by omega
    have hbad : 7 < k ∨ 4294967295 < p := .inl hk
    have HX1 := Lib.hid (HX.out.trans (by rw [if_pos hbad]))
    clear HX hbad
    go_wp2_with fail
    refine (Fail_any 4 R2.out).mono ?_
    rintro r w3 ⟨rfl, hr, hg⟩
    rw [← HFE.out] at hr
    have Rf := Lib.hid hr
    have Gf := Lib.hid (G2.out.trans hg)
    have B3 := HB2.out.grown hg (fun j hj => by cases hj; omega)
    have HBf := Lib.hid B3
    clear c0 c1 z0 z1 hr hg
    obtain ⟨c0, c1⟩ := B3.cells
    obtain ⟨z0, z1⟩ := B3.thaw
    simp only at c0 c1
    clear B3
    go_wp2_with fail
    refine (Err_any Rf.out).mono ?_
    rintro r w6 ⟨rfl, rfl⟩
    have hz : ¬ failE e2 4 = 0 := by unfold failE; split <;> omega
    have hz' : (failE e2 4 != 0) = true := by simp; exact hz
    have HX2 := Lib.hid (HX1.out.trans (if_neg hz))
    clear hz HX1
    go_wp2_with fail
    obtain ⟨W, hW, BW, GW, RW⟩ := HBf.out.put Gf.out HQ2.out ⟨0, 0⟩
    rw [show ((⟨0, 0⟩ : Lab).p : Int) = 0 from rfl] at hW
    rw [← hW]
    clear hW
    obtain ⟨d0, d1⟩ := BW.cells
    refine bodyPost_ret (by simp [results, Tryz.results98, go_sem, d0, d1]; try rfl) rfl ?_
    rw [HX2.out]
    exact ⟨rfl, RW _ _ _ _ Rf.out (by omega), GW⟩
  · have zk : ¬ (7 : Int) < (k : Int) := by omega
    by_cases hp : 4294967295 < p
    · have zp : (4294967295 : Int) < (p : Int) := by omega
      have hbad : 7 < k ∨ 4294967295 < p := .inr hp
      have HX1 := Lib.hid (HX.out.trans (by rw [if_pos hbad]))
      clear HX hbad
      go_wp2_with fail
      refine (Fail_any 4 R2.out).mono ?_
      rintro r w3 ⟨rfl, hr, hg⟩
      rw [← HFE.out] at hr
      have Rf := Lib.hid hr
      have Gf := Lib.hid (G2.out.trans hg)
      have B3 := HB2.out.grown hg (fun j hj => by cases hj; omega)
      have HBf := Lib.hid B3
      clear c0 c1 z0 z1 hr hg
      obtain ⟨c0, c1⟩ := B3.cells
      obtain ⟨z0, z1⟩ := B3.thaw
      simp only at c0 c1
      clear B3
      go_wp2_with fail
      refine (Err_any Rf.out).mono ?_
      rintro r w6 ⟨rfl, rfl⟩
      have hz : ¬ failE e2 4 = 0 := by unfold failE; split <;> omega
      have hz' : (failE e2 4 != 0) = true := by simp; exact hz
      have HX2 := Lib.hid (HX1.out.trans (if_neg hz))
      clear hz HX1
      go_wp2_with fail
      obtain ⟨W, hW, BW, GW, RW⟩ := HBf.out.put Gf.out HQ2.out ⟨0, 0⟩
      rw [show ((⟨0, 0⟩ : Lab).p : Int) = 0 from rfl] at hW
      rw [← hW]
      clear hW
      obtain ⟨d0, d1⟩ := BW.cells
      refine bodyPost_ret (by simp [results, Tryz.results98, go_sem, d0, d1]; try rfl) rfl ?_
      rw [HX2.out]
      exact ⟨rfl, RW _ _ _ _ Rf.out (by omega), GW⟩
    · have zp : ¬ (4294967295 : Int) < (p : Int) := by omega
      have HX1 := Lib.hid (HX.out.trans (by rw [if_neg (show ¬ (7 < k ∨ 4294967295 < p) by omega)]))
      clear HX
      have Rf := R2
      have Gf := G2
      have HBf := HB2
      go_wp2_with fail
      refine (Err_any Rf.out).mono ?_
      rintro r w6 ⟨rfl, rfl⟩
      by_cases hz : e2 = 0
      · subst hz
        have HX2 := Lib.hid (HX1.out.trans (if_pos rfl))
        have zp2 : (p : Int) < 4294967296 := by omega
        clear HX1
        go_wp2_with fail
        obtain ⟨W, hW, BW, GW, RW⟩ := HBf.out.put Gf.out HQ2.out ⟨(k : Int), p⟩
        rw [← hW]
        clear hW
        obtain ⟨d0, d1⟩ := BW.cells
        refine bodyPost_ret (by simp [results, Tryz.results98, go_sem, d0, d1]; try rfl) rfl ?_
        rw [HX2.out]
        exact ⟨rfl, RW _ _ _ _ Rf.out (by omega), GW⟩
      · have hz' : (e2 != 0) = true := by simp; exact hz
        have HX2 := Lib.hid (HX1.out.trans (if_neg hz))
        clear HX1
        go_wp2_with fail
        obtain ⟨W, hW, BW, GW, RW⟩ := HBf.out.put Gf.out HQ2.out ⟨0, 0⟩
        rw [show ((⟨0, 0⟩ : Lab).p : Int) = 0 from rfl] at hW
        rw [← hW]
        clear hW
        obtain ⟨d0, d1⟩ := BW.cells
        refine bodyPost_ret (by simp [results, Tryz.results98, go_sem, d0, d1]; try rfl) rfl ?_
        rw [HX2.out]
        exact ⟨rfl, RW _ _ _ _ Rf.out (by omega), GW⟩
end Go.Proofs.YtfedgjahbmcpoaaGreat
/- Contracts of the document's own reader: U, S, Raw, Text. No conditions. -/
set_option linter.unusedSimpArgs false
set_option linter.unusedVariables false
namespace Go.Proofs.YtfedgjahbmcpoaaGreat
open Go.RowKit

/-- A number off the document's reader. -/
def RIntR (w w' : World) (r : Ending) (lo g : Nat) (n : Int) (e : Int) (l : List Nat) : Prop :=
  r = .returned (.int .i64 n) ∧ Rfr w' lo g e l ∧ w.grownBy w' (some g)
set_option maxHeartbeats 4000000 in
theorem rfU_any {lo g : Nat} {e : Int} {l : List Nat} {w : World} (h : Rfr w lo g e l) :
    Calls Tryz.prog 29 #[.pointer (some ⟨g, 0, none⟩)] w fun r w' => RIntR w w' r lo g ((nb 9007199254740991 e l).1 : Int) (nb 9007199254740991 e l).2.1 (nb 9007199254740991 e l).2.2 := by
  have HH := Lib.hid h
  generalize hx : nb 9007199254740991 e l = x at *
  have HX := Lib.hid hx
  clear h hx
  obtain ⟨z, e2, l2⟩ := x
  simp only
  go_enter Tryz.func29, Tryz.ntmps29
  go_wp2_with fail
  refine (refNumber_any 9007199254740991 (by omega) HH.out).mono ?_
  rw [HX.out]
  rintro e1 w1 ⟨rfl, hr, hg⟩
  have HR := Lib.hid hr
  have HG := Lib.hid hg
  clear hr hg HH
  go_wp2_with fail
  go_ret
  exact ⟨rfl, HR.out, HG.out⟩
set_option maxHeartbeats 4000000 in
theorem rfS_any {lo g : Nat} {e : Int} {l : List Nat} {w : World} (h : Rfr w lo g e l) :
    Calls Tryz.prog 32 #[.pointer (some ⟨g, 0, none⟩)] w fun r w' => RIntR w w' r lo g (zag (nb 18014398509481982 e l).1) (nb 18014398509481982 e l).2.1 (nb 18014398509481982 e l).2.2 := by
  have HH := Lib.hid h
  have hle := nb_le 18014398509481982 e l
  generalize hx : nb 18014398509481982 e l = x at *
  have HX := Lib.hid hx
  clear h hx
  obtain ⟨z, e2, l2⟩ := x
  simp only at hle ⊢
  unfold zag
  by_cases hz : z % 2 = 1
  · have hzi : (z : Int) % 2 = 1 := by omega
    have hq : (-((z : Int) + 1)) / 2 = -(((z : Int) + 1) / 2) := by omega
    have hd : (2 : Int) ∣ -((z : Int) + 1) := by omega
    have ht : (-((z : Int) + 1)).tdiv 2 = -(((z : Int) + 1) / 2) := by rw [Int.tdiv_eq_ediv_of_dvd hd]; exact hq
    have hb1 : -9223372036854775808 ≤ -(((z : Int) + 1) / 2) := by omega
    have hb2 : -(((z : Int) + 1) / 2) ≤ 9223372036854775807 := by omega
    rw [if_pos hz]
    generalize hX : -(((z : Int) + 1) / 2) = X at *
    have HXX := Lib.hid hX
    clear hX hd hz hq
    go_enter Tryz.func32, Tryz.ntmps32
    go_wp2_with fail
    refine (refNumber_any 18014398509481982 (by omega) HH.out).mono ?_
    rw [HX.out]
    rintro e1 w1 ⟨rfl, hr, hg⟩
    have HR := Lib.hid hr
    have HG := Lib.hid hg
    clear hr hg HH
    go_wp2_with fail
    go_ret
    exact ⟨rfl, HR.out, HG.out⟩
  · have hzi : ¬ (z : Int) % 2 = 1 := by omega
    rw [if_neg hz]
    clear hz
    go_enter Tryz.func32, Tryz.ntmps32
    go_wp2_with fail
    refine (refNumber_any 18014398509481982 (by omega) HH.out).mono ?_
    rw [HX.out]
    rintro e1 w1 ⟨rfl, hr, hg⟩
    have HR := Lib.hid hr
    have HG := Lib.hid hg
    clear hr hg HH
    go_wp2_with fail
    go_ret
    exact ⟨rfl, HR.out, HG.out⟩

/-- Bytes off the document's reader, as a new slice. -/
def RRawR (w w' : World) (r : Ending) (lo g : Nat) (x : Bool × List Nat × Int × List Nat) : Prop :=
  ∃ v, r = .returned v ∧ w'.ownsRow w.heap.size 5 1 v x.2.1.length (bv x.2.1) ∧ Byt x.2.1 ∧ x.2.1.length ≤ 140737488354304 ∧ Rfr w' lo g x.2.2.1 x.2.2.2 ∧ w.grownBy w' (some g)
theorem rraw_no {w w' : World} {lo g : Nat} {e : Int} {l : List Nat} (h : Rfr w' lo g e l) (hg : w.grownBy w' (some g)) : RRawR w w' (.returned (.slice none 0 0)) lo g (false, [], e, l) :=
  ⟨_, rfl, World.ownsRow_nil .., (fun x hx => absurd hx (by simp)), by simp, h, hg⟩
set_option maxHeartbeats 8000000 in
theorem rfRaw_any {lo g : Nat} {e : Int} {l : List Nat} {w : World} (n : Int) (h : Rfr w lo g e l) :
    Calls Tryz.prog 73 #[.pointer (some ⟨g, 0, none⟩), .int .i64 n] w fun r w' => RRawR w w' r lo g (tk e n l) := by
  have HH := Lib.hid h
  by_cases hn : n < 0
  · by_cases he : e = 0
    · subst he
      have ht : tk 0 n l = (false, [], 2, l) := by unfold tk; rw [if_neg (by simp), if_pos hn]
      have HT := Lib.hid ht
      clear ht h
      go_enter Tryz.func73, Tryz.ntmps73
      go_wp2_with fail
      refine (refFail_any 2 HH.out).mono ?_
      rintro e1 w1 ⟨rfl, hr, hg⟩
      rw [if_pos rfl] at hr
      obtain ⟨A, k, c, m, c0, c1, f0, f1, hb, hl, h5⟩ := hr.open
      have HR := Lib.hid hr
      have HG := Lib.hid hg
      clear hr hg hb hl h5 HH
      go_wp2_with fail
      go_ret
      rw [HT.out]
      exact rraw_no HR.out HG.out
    · have ht : tk e n l = (false, [], e, l) := if_pos he
      have HT := Lib.hid ht
      clear ht h
      go_enter Tryz.func73, Tryz.ntmps73
      go_wp2_with fail
      refine (refFail_any 2 HH.out).mono ?_
      rintro e1 w1 ⟨rfl, hr, hg⟩
      rw [if_neg he] at hr
      obtain ⟨A, k, c, m, c0, c1, f0, f1, hb, hl, h5⟩ := hr.open
      have HR := Lib.hid hr
      have HG := Lib.hid hg
      clear hr hg hb hl h5 HH
      go_wp2_with fail
      go_ret
      rw [HT.out]
      exact rraw_no HR.out HG.out
  · obtain ⟨A, k, c, m, c0, c1, f0, f1, hb, hl, h5⟩ := h.open
    have hk := hb.len
    have hle := hb.le
    have HB := Lib.hid hb
    clear h hb h5
    by_cases he : e = 0
    · subst he
      have := hl rfl
      subst this
      clear hl
      by_cases hx : (m.length : Int) < n
      · have hx' : (k : Int) < n := by omega
        have ht : tk 0 n m = (false, [], 3, m) := by unfold tk; rw [if_neg (by simp), if_neg hn, if_pos hx]
        have HT := Lib.hid ht
        clear ht
        go_enter Tryz.func73, Tryz.ntmps73
        go_wp2_with fail
        go_ret
        rw [HT.out]
        exact rraw_no (HH.out.set1 3 m (by simp)) (grown_set _ _ _ _)
      · obtain ⟨j, rfl⟩ := Int.eq_ofNat_of_zero_le (show 0 ≤ n by omega)
        have ht : tk 0 (j : Int) m = (true, m.take j, 0, m.drop j) := by
          unfold tk
          rw [if_neg (by simp), if_neg hn, if_neg hx, Int.toNat_natCast]
        have HT := Lib.hid ht
        have hjc : (j : Int) ≤ (c : Int) := by omega
        have hjk : (j : Int) ≤ (k : Int) := by omega
        clear ht hn
        go_enter Tryz.func73, Tryz.ntmps73
        go_wp2_with fail
        refine (copyBytes_any A j c _ _ (HB.out.cutN (by omega))).mono ?_
        rintro e1 w1 ⟨v, rfl, ho, hb⟩
        have HO := Lib.hid ho
        have HR := Lib.hid (HH.out.below hb)
        have HG := Lib.hid (grown_of_below hb (some g))
        have c0' : w1.cell? ⟨g, 0, none⟩ = some (.slice A k c) := (hb.cell (p := ⟨g, 0, none⟩) HH.out.lt.2).trans c0
        have f0' : w1.frozen? ⟨g, 0, none⟩ = false := (hb.frozen (p := ⟨g, 0, none⟩) HH.out.lt.2).trans f0
        have hd := HR.out.drop (k := j) c0' (by omega)
        have HBY := Lib.hid (HB.out.byt.take j)
        have HLM := Lib.hid (HB.out.cutN (k := j) (by omega)).lim
        have HGL := Lib.hid HH.out.lt.2
        clear c0 f0 c1 f1 ho hb HH
        have hlt := HR.out.lt
        have hglt : g < w.heap.size := HGL.out
        have HH1 := Lib.hid hd
        clear hd hlt
        go_wp2_with fail
        · have hd := HH1.out
          rw [show dropA A c j = A from if_pos (by assumption), hk, show c - j = 0 by omega] at hd
          go_ret
          rw [HT.out]
          exact ⟨v, rfl, ownsRow_setCell_below HO.out hglt _, HBY.out, HLM.out, hd, HG.out.trans (grown_set _ _ _ _)⟩
        · have hd := HH1.out
          rw [show dropA A c j = Option.map (fun x => x.add j) A from if_neg (by assumption), hk] at hd
          go_ret
          rw [HT.out]
          exact ⟨v, rfl, ownsRow_setCell_below HO.out hglt _, HBY.out, HLM.out, hd, HG.out.trans (grown_set _ _ _ _)⟩
    · have ht : tk e n l = (false, [], e, l) := if_pos he
      have HT := Lib.hid ht
      clear ht hl
      go_enter Tryz.func73, Tryz.ntmps73
      go_wp2_with fail
      go_ret
      rw [HT.out]
      exact rraw_no HH.out (grown_refl _ _)

/-- A text off the document's reader. -/
def RTxtR (w w' : World) (r : Ending) (lo g : Nat) (x : List Nat × Int × List Nat) : Prop :=
  r = .returned (.string (bs x.1)) ∧ Byt x.1 ∧ x.1.length ≤ 140737488354304 ∧ Rfr w' lo g x.2.1 x.2.2 ∧ w.grownBy w' (some g)
set_option maxHeartbeats 4000000 in
theorem rfText_any {lo g : Nat} {e : Int} {l : List Nat} {w : World} (most : Int) (h : Rfr w lo g e l) :
    Calls Tryz.prog 30 #[.pointer (some ⟨g, 0, none⟩), .int .i64 most] w fun r w' => RTxtR w w' r lo g (txt most e l) := by
  have HH := Lib.hid h
  unfold txt
  generalize hx : nb 9007199254740991 e l = x
  have HX := Lib.hid hx
  clear h hx
  obtain ⟨z, e2, l2⟩ := x
  simp only
  generalize hR : (tk (if e2 = 0 ∧ most < (z : Int) then (5 : Int) else e2) (z : Int) l2).2 = R
  have HR := Lib.hid hR
  clear hR
  go_enter Tryz.func30, Tryz.ntmps30
  go_wp2_with fail
  refine (rfU_any HH.out).mono ?_
  rw [HX.out]
  rintro e1 w1 ⟨rfl, hr, hg⟩
  obtain ⟨A, k, c, m, c0, c1, f0, f1, _⟩ := hr.open
  have H1 := Lib.hid hr
  have G1 := Lib.hid hg
  clear hr hg HH c0 f0
  by_cases he : e2 = 0
  · subst he
    by_cases hm : most < (z : Int)
    · have hR' : R = ([], 5, l2) := by
        rw [← HR.out, if_pos ⟨rfl, hm⟩]; rfl
      have HR2 := Lib.hid hR'
      clear hR' HR
      go_wp2_with fail
      go_ret
      rw [HR2.out]
      exact ⟨rfl, (fun x hx => absurd hx (by simp)), by simp, H1.out.set1 5 l2 (by simp), G1.out.trans (grown_set _ _ _ _)⟩
    · have hR' : R = (tk 0 (z : Int) l2).2 := by
        rw [← HR.out, if_neg (fun h => hm h.2)]
      have HR2 := Lib.hid hR'
      clear hR' HR
      go_wp2_with fail
      refine (rfRaw_any z H1.out).mono ?_
      rintro e1 w2 ⟨v, rfl, ho, hbt, hlm, hr, hg⟩
      obtain ⟨A2, n2, c2, rfl, h2, _⟩ := ownsRow_bs ho hbt hlm
      have hcv := conv_back h2
      have H3 := Lib.hid hr
      have H4 := Lib.hid hbt
      have H5 := Lib.hid hlm
      have G2 := Lib.hid (G1.out.trans hg)
      clear h2 ho hr hbt hlm hg
      go_wp2_with fail
      go_ret
      rw [HR2.out]
      exact ⟨rfl, H4.out, H5.out, H3.out, G2.out⟩
  · have hR' : R = ([], e2, l2) := by
      rw [← HR.out, if_neg (fun h => he h.1)]
      unfold tk
      rw [if_pos he]
    have HR2 := Lib.hid hR'
    clear hR' HR
    go_wp2_with fail
    go_ret
    rw [HR2.out]
    exact ⟨rfl, (fun x hx => absurd hx (by simp)), by simp, H1.out, G1.out⟩
end Go.Proofs.YtfedgjahbmcpoaaGreat
