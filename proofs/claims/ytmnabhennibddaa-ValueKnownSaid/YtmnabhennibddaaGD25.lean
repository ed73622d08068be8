/- The closure of value.TakeAttrs: its contract. No conditions. -/
import Derived.Test.YtmnabhennibddaaGD15
import Derived.Test.YtmnabhennibddaaGD24
import Derived.Deep.RegionHeld3
set_option linter.unusedSimpArgs false
set_option linter.unusedVariables false
namespace Go.Proofs.Ytmnabhennibddaa
open Go.RowKit

/-- An attribute off a reader. -/
def tkA (e : Int) (l : List Nat) : Att × Int × List Nat :=
  (⟨bs (txt 24 e l).1, (tkL (txt 24 e l).2.1 (txt 24 e l).2.2).1, (tkV (tkL (txt 24 e l).2.1 (txt 24 e l).2.2).2.1 (tkL (txt 24 e l).2.1 (txt 24 e l).2.2).2.2).1⟩,
    (tkV (tkL (txt 24 e l).2.1 (txt 24 e l).2.2).2.1 (tkL (txt 24 e l).2.1 (txt 24 e l).2.2).2.2).2)
theorem tkA_keep {W a : World} {qb q g : Nat} (hb : W.heap[qb]? = some (.cells #[.pointer (some ⟨g, 0, none⟩)] 53 (0, 0)))
    (hq : W.heap[q]? = some (.cells #[.string ⟨#[]⟩, .int .i64 0, .int .u32 0, .int .i64 0, .int .i64 0, .string ⟨#[]⟩] 49 (0, 0))) (nb : qb ≠ g) (nq : q ≠ g) (hg : W.grownBy a (some g)) :
    W.grownBy a (some g) ∧ a.cell? ⟨qb, 0, none⟩ = some (.pointer (some ⟨g, 0, none⟩)) ∧
      a.cell? ⟨q, 0, none⟩ = some (.string ⟨#[]⟩) ∧ a.cell? ⟨q, 1, none⟩ = some (.int .i64 0) ∧ a.cell? ⟨q, 2, none⟩ = some (.int .u32 0) ∧ a.cell? ⟨q, 3, none⟩ = some (.int .i64 0) ∧ a.cell? ⟨q, 4, none⟩ = some (.int .i64 0) ∧ a.cell? ⟨q, 5, none⟩ = some (.string ⟨#[]⟩) ∧
      a.frozen? ⟨q, 0, none⟩ = false ∧ a.frozen? ⟨q, 1, none⟩ = false ∧ a.frozen? ⟨q, 2, none⟩ = false ∧ a.frozen? ⟨q, 3, none⟩ = false ∧ a.frozen? ⟨q, 4, none⟩ = false ∧ a.frozen? ⟨q, 5, none⟩ = false := by
  have e1 := (hg.block qb (Array.getElem?_eq_some_iff.1 hb).1 (fun e => nb (by injection e))).trans hb
  have e2 := (hg.block q (Array.getElem?_eq_some_iff.1 hq).1 (fun e => nq (by injection e))).trans hq
  exact ⟨hg, cell_of e1 0, cell_of e2 0, cell_of e2 1, cell_of e2 2, cell_of e2 3, cell_of e2 4, cell_of e2 5, frozen_of e2 0, frozen_of e2 1, frozen_of e2 2, frozen_of e2 3, frozen_of e2 4, frozen_of e2 5⟩

theorem BA.put {w : World} {q : Nat} {x0 : Att} (h : BA w q x0) (x : Att) :
    ∃ W, W = (((((w.setCell ⟨q, 0, none⟩ (.string x.name)).setCell ⟨q, 1, none⟩ (.int .i64 x.lab.l)).setCell ⟨q, 2, none⟩ (.int .u32 (x.lab.p : Int))).setCell ⟨q, 3, none⟩ (.int .i64 x.val.k)).setCell ⟨q, 4, none⟩ (.int .i64 x.val.n)).setCell ⟨q, 5, none⟩ (.string x.val.b) ∧ BA W q x ∧
      (∀ lo g e l, Rdr w lo g e l → (q < lo ∨ g < q) → Rdr W lo g e l) := by
  refine ⟨_, rfl, ?_, fun lo g e l hr ho => ?_⟩
  · unfold BA at h ⊢
    rw [heap_set (heap_set (heap_set (heap_set (heap_set (heap_set h 0 _) 1 _) 2 _) 3 _) 4 _) 5 _]
    rfl
  · have st : ∀ (a : World) (i : Nat) (v : Value), Rdr a lo g e l → Rdr (a.setCell ⟨q, i, none⟩ v) lo g e l := fun a i v hr => hr.grown (grown_set _ _ _ _) (fun j hj => by cases hj; exact ho)
    exact st _ _ _ (st _ _ _ (st _ _ _ (st _ _ _ (st _ _ _ (st _ _ _ hr)))))
theorem tkS {w a : World} {qb g : Nat} (hb : w.heap[qb]? = some (.cells #[.pointer (some ⟨g, 0, none⟩)] 53 (0, 0))) (nb : qb ≠ g) (hg : w.grownBy a (some g)) :
    w.grownBy a (some g) ∧ a.cell? ⟨qb, 0, none⟩ = some (.pointer (some ⟨g, 0, none⟩)) := by
  have e1 := (hg.block qb (Array.getElem?_eq_some_iff.1 hb).1 (fun e => nb (by injection e))).trans hb
  exact ⟨hg, cell_of e1 0⟩
set_option maxHeartbeats 16000000 in
set_option maxRecDepth 100000 in
theorem takeA_any {lo g qb : Nat} {e : Int} {l : List Nat} {w : World} (h : Rdr w lo g e l) (hb : w.heap[qb]? = some (.cells #[.pointer (some ⟨g, 0, none⟩)] 53 (0, 0))) (hn : qb ≠ g) :
    Calls Try.prog 57 #[.pointer (some ⟨qb, 0, none⟩)] w fun r w' => TkR w w' r lo g (tkA e l).1.v (tkA e l).2.1 (tkA e l).2.2 := by
  obtain ⟨X, hX⟩ : ∃ X, X = tkA e l := ⟨_, rfl⟩
  rw [← hX]
  unfold tkA at hX
  have hlt := h.lt
  have HH := Lib.hid h
  have HB := Lib.hid hb
  clear h hb
  generalize hx1 : txt 24 e l = x1 at *
  obtain ⟨s, e1, l1⟩ := x1
  simp only at hX
  generalize hx2 : tkL e1 l1 = x2 at *
  obtain ⟨lab, e2, l2⟩ := x2
  simp only at hX
  generalize hx3 : tkV e2 l2 = x3 at *
  obtain ⟨val, e3, l3⟩ := x3
  simp only at hX
  have HX := Lib.hid hX
  have C1 : Hid (∀ w, Rdr w lo g e l → Calls Try.prog 52 #[.pointer (some ⟨g, 0, none⟩), .int .i64 24] w fun r w' => TxtR w w' r lo g (s, e1, l1)) := Lib.hid (fun w h => by rw [← hx1]; exact rdText_any 24 h)
  have C2 : Hid (∀ w, Rdr w lo g e1 l1 → Calls Try.prog 58 #[.pointer (some ⟨g, 0, none⟩)] w fun r w' => TkR w w' r lo g (.agg #[.int .i64 lab.l, .int .u32 (lab.p : Int)]) e2 l2) := Lib.hid (fun w h => by have := takeL_any h; rw [hx2] at this; exact this)
  have C3 : Hid (∀ w, Rdr w lo g e2 l2 → Calls Try.prog 23 #[.pointer (some ⟨g, 0, none⟩)] w fun r w' => TkR w w' r lo g (.agg #[.int .i64 val.k, .int .i64 val.n, .string val.b]) e3 l3) := Lib.hid (fun w h => by have := takeV_any h; rw [hx3] at this; exact this)
  clear hX hx1 hx2 hx3
  go_enter Try.func57, Try.ntmps57
  go_wp2_with fail
  obtain ⟨wa, hwa⟩ : ∃ wa, wa = w.alloc (.cells #[.string ⟨#[]⟩, .int .i64 0, .int .u32 0, .int .i64 0, .int .i64 0, .string ⟨#[]⟩] 49) := ⟨_, rfl⟩
  obtain ⟨q, hq⟩ : ∃ q, q = w.heap.size := ⟨_, rfl⟩
  rw [← hwa, ← hq]
  have hqb : qb < w.heap.size := (Array.getElem?_eq_some_iff.1 HB.out).1
  have RA : Rdr wa lo g e l := by rw [hwa]; exact HH.out.grown (World.grownBy_alloc _ _ none) (fun j hj => by cases hj)
  have GA : w.grownBy wa (some g) := by rw [hwa]; exact World.grownBy_alloc _ _ _
  have hbA : wa.heap[qb]? = some (.cells #[.pointer (some ⟨g, 0, none⟩)] 53 (0, 0)) := by rw [hwa]; exact (Below.heap_alloc _ _ _ hqb).trans HB.out
  have hqA : wa.heap[q]? = some (.cells #[.string ⟨#[]⟩, .int .i64 0, .int .u32 0, .int .i64 0, .int .i64 0, .string ⟨#[]⟩] 49 (0, 0)) := by rw [hwa, hq]; exact heap_alloc_new w _
  have hqg : q ≠ g := by omega
  have HQ2 := Lib.hid (show w.heap.size ≤ q by omega)
  have TK := Lib.hid (fun a hg => tkA_keep (a := a) hbA hqA hn hqg hg)
  have HQA := Lib.hid hqA
  have SO := Lib.hid (fun a (hg : w.grownBy a (some g)) => tkS HB.out hn hg)
  have RAH := Lib.hid RA
  have GAH := Lib.hid GA
  have hgq : g < q := by omega
  clear hwa hq hqA hbA RA GA hlt
  go_region_held3 (fun a => w.grownBy a (some g) ∧ a.cell? ⟨qb, 0, none⟩ = some (.pointer (some ⟨g, 0, none⟩)))
    (first | (with_reducible exact SO.out _ (gset (gset (gset (gset (gset (gset (And.left (b := _) (by assumption)) HQ2.out) HQ2.out) HQ2.out) HQ2.out) HQ2.out) HQ2.out)) | (with_reducible exact SO.out _ (World.grownBy.trans (And.left (b := _) (by assumption)) (by assumption))) | exact SO.out _ (gbelow GAH.out (bel0 _).drew))
    (first
      | (go_at_call 52; (with_reducible refine (C1.out _ (RAH.out.below (bel0 _).drew)).mono ?_); rintro r w1 ⟨rfl, _, _, hr1, hg1⟩)
      | (go_at_call 58; (with_reducible refine (C2.out _ hr1).mono ?_); rintro r w2 ⟨rfl, hr2, hg2⟩)
      | (go_at_call 23; (with_reducible refine (C3.out _ hr2).mono ?_); rintro r w3 ⟨rfl, hr3, hg3⟩; obtain ⟨_, _, c0, c1, c2, c3, c4, c5, f0, f1, f2, f3, f4, f5⟩ := TK.out _ ((grown_of_below (bel0 _).drew (some g)).trans (hg1.trans (hg2.trans hg3)))))
  rename_i hK
  have hG := And.left (b := _) hK
  have hB3 : BA w3 q ⟨⟨#[]⟩, ⟨0, 0⟩, ⟨0, 0, ⟨#[]⟩⟩⟩ := (((grown_of_below (bel0 _).drew (some g)).trans (hg1.trans (hg2.trans hg3))).block q (Array.getElem?_eq_some_iff.1 HQA.out).1 (fun e => hqg (by injection e))).trans HQA.out
  obtain ⟨W, hW, BW, RW⟩ := hB3.put ⟨bs s, lab, val⟩
  simp only at hW
  have hRW := RW _ _ _ _ hr3 (by omega)
  rw [← hW] at hG ⊢
  clear hK hW RW hB3 c0 c1 c2 c3 c4 c5 f0 f1 f2 f3 f4 f5
  obtain ⟨d0, d1, d2, d3, d4, d5⟩ := BW.cells
  simp only at d0 d1 d2 d3 d4 d5
  go_wp2_with fail
  refine bodyPost_ret (by simp [results, Try.results57, go_sem, d0, d1, d2, d3, d4, d5]; try rfl) rfl ?_
  rw [HX.out]
  exact ⟨rfl, hRW, hG⟩
end Go.Proofs.Ytmnabhennibddaa
