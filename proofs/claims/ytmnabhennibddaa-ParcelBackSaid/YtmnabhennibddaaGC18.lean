/- parcel.first: its contract. No conditions. -/
import Derived.Test.YtmnabhennibddaaGC17
import Derived.Test.YtmnabhennibddaaGC16
import Derived.Deep.RegionHeld3
import Derived.WalkMore
import Derived.Handy
set_option linter.unusedSimpArgs false
set_option linter.unusedVariables false
namespace Go.Proofs.Ytmnabhennibddaa
open Go.RowKit

/-- What first answers behind its two numbers. -/
def fstR (l : List Nat) (k n : Nat) (m : List Nat) : (Nat × List Nat × Nat) × Int :=
  if m.length < n + 4 then ((0, [], 0), 3)
  else if (l.drop (l.length - m.length + n)).take 4 = Crc.row (Crc.on 0 (l.take (l.length - m.length + n))) then ((k, m.take n, l.length - m.length + n + 4), 0)
  else ((0, [], 0), 30)
def fstQ (l : List Nat) (k : Nat) (m : List Nat) : (Nat × List Nat × Nat) × Int :=
  if (numP 65536 m).2.1 = 0 then fstR l k (numP 65536 m).1 (numP 65536 m).2.2 else ((0, [], 0), (numP 65536 m).2.1)
/-- What first answers. -/
def fstP (l : List Nat) : (Nat × List Nat × Nat) × Int :=
  if (numP 127 l).2.1 = 0 then fstQ l (numP 127 l).1 (numP 127 l).2.2 else ((0, [], 0), (numP 127 l).2.1)
/-- .. in memory. -/
def FstR (w w' : World) (r : Ending) (x : (Nat × List Nat × Nat) × Int) : Prop :=
  ∃ v, r = .returned (.tuple #[.agg #[.int .i64 (x.1.1 : Int), v, .int .i64 (x.1.2.2 : Int)], .int .i64 x.2]) ∧ w'.ownsRow w.heap.size 5 1 v x.1.2.1.length (bv x.1.2.1) ∧ Below w.heap.size w w'

/-- A frame in memory. -/
def FR (w : World) (q : Nat) (k : Int) (v : Value) (s : Int) : Prop := w.heap[q]? = some (.cells #[.int .i64 k, v, .int .i64 s] 59 (0, 0))
theorem FR.grown {w w' : World} {q : Nat} {k : Int} {v : Value} {s : Int} {row : Option Nat} (h : FR w q k v s) (hg : w.grownBy w' row) (hr : ∀ j, row = some j → q ≠ j) : FR w' q k v s := by
  have hlt := (Array.getElem?_eq_some_iff.1 h).1
  unfold FR
  rw [hg.block q hlt (fun e => hr q e.symm rfl)]
  exact h
theorem FR.set0 {w : World} {q : Nat} {k : Int} {v : Value} {s : Int} (h : FR w q k v s) (j : Int) : FR (w.setCell ⟨q, 0, none⟩ (.int .i64 j)) q j v s := heap_set h 0 _
theorem FR.cells {w : World} {q : Nat} {k : Int} {v : Value} {s : Int} (h : FR w q k v s) : w.cell? ⟨q, 0, none⟩ = some (.int .i64 k) ∧ w.cell? ⟨q, 1, none⟩ = some v ∧ w.cell? ⟨q, 2, none⟩ = some (.int .i64 s) :=
  ⟨(cell_of h 0).trans rfl, (cell_of h 1).trans rfl, (cell_of h 2).trans rfl⟩
theorem FR.thaw {w : World} {q : Nat} {k : Int} {v : Value} {s : Int} (h : FR w q k v s) : w.frozen? ⟨q, 0, none⟩ = false ∧ w.frozen? ⟨q, 1, none⟩ = false ∧ w.frozen? ⟨q, 2, none⟩ = false :=
  ⟨frozen_of h 0, frozen_of h 1, frozen_of h 2⟩

theorem FR.set1 {w : World} {q : Nat} {k : Int} {v : Value} {s : Int} (h : FR w q k v s) (u : Value) : FR (w.setCell ⟨q, 1, none⟩ u) q k u s := heap_set h 1 _
theorem FR.set2 {w : World} {q : Nat} {k : Int} {v : Value} {s : Int} (h : FR w q k v s) (j : Int) : FR (w.setCell ⟨q, 2, none⟩ (.int .i64 j)) q k v j := heap_set h 2 _
/-- A frame stored whole. -/
theorem FR.put {w w0 : World} {q : Nat} {k : Int} {v : Value} {s : Int} (h : FR w q k v s) (hb : Below w0.heap.size w0 w) (hq : w0.heap.size ≤ q) (j : Int) (u : Value) (r : Int) :
    ∃ W, W = ((w.setCell ⟨q, 0, none⟩ (.int .i64 j)).setCell ⟨q, 1, none⟩ u).setCell ⟨q, 2, none⟩ (.int .i64 r) ∧ FR W q j u r ∧ Below w0.heap.size w0 W :=
  ⟨_, rfl, ((h.set0 j).set1 u).set2 r, ((hb.setCell (p := ⟨q, 0, none⟩) hq _).setCell (p := ⟨q, 1, none⟩) hq _).setCell (p := ⟨q, 2, none⟩) hq _⟩
set_option maxRecDepth 100000 in
theorem slice_mid {w : World} {A : Option Addr} {n c : Nat} {i j : Nat} (hij : i ≤ j) (hj : j ≤ c) :
    (Instr.slice 22 (.slice A n c) (some (.int .i64 (i : Int))) (some (.int .i64 (j : Int))) none).run Try.prog w = .ok (.slice (dropA A c i) (j - i) (c - i)) w := by
  have h1 : (i : Int) ≤ (j : Int) := by omega
  have h2 : (j : Int) ≤ (c : Int) := by omega
  rw [run_slice_lh w 22 A n c Try.underlying22 .i64 .i64 i j (by omega) h1 h2]
  rw [size_u8]
  simp only [sliced, Result.andThen, Int.toNat_natCast, dropA, Nat.mul_one]
theorem BS.mid {w : World} {A : Option Addr} {n c : Nat} {l : List Nat} (h : BS w A n c l) {i j : Nat} (hij : i ≤ j) (hj : j ≤ l.length) : BS w (Go.Proofs.Ytmnabhennibddaa.dropA A c i) (j - i) (c - i) ((l.drop i).take (j - i)) :=
  (h.dropA (k := i) (by omega)).cutN (by rw [List.length_drop]; omega)
/-- What number takes off. -/
theorem numP_ok {most : Nat} {l : List Nat} (hl : Byt l) (h : (numP most l).2.1 = 0) : l = Dig.enc (numP most l).1 ++ (numP most l).2.2 ∧ (numP most l).1 ≤ most := by
  unfold numP at h ⊢
  split at h
  · simp at h
  · split at h
    · simp at h
    · rename_i h1 h2
      rw [if_neg h1, if_neg h2]
      simp only at h ⊢
      have h3 : (nb 9007199254740991 0 l).2.1 = 0 := by omega
      refine ⟨?_, by omega⟩
      unfold nb at h3 ⊢
      rw [if_neg (by simp)] at h3 ⊢
      simp only at h3 ⊢
      exact (Dig.num1_ok 9007199254740991 _ l _ hl (Prod.ext rfl (Prod.ext (by simpa using h3) rfl))).1

set_option maxHeartbeats 8000000 in
set_option maxRecDepth 100000 in
theorem first_any {A : Option Addr} {n c : Nat} {l : List Nat} {w : World} (h : BS w A n c l) :
    Calls Try.prog 27 #[.slice A n c] w fun r w' => FstR w w' r (fstP l) := by
  obtain ⟨X, hX⟩ : ∃ X, X = fstP l := ⟨_, rfl⟩
  rw [← hX]
  unfold fstP at hX
  obtain rfl := h.len
  have hcl := h.le
  have hlim := h.lim
  have hok := numP_ok (most := 127) h.byt
  have HL := Lib.hid h
  clear h
  generalize hx : numP 127 l = x at *
  obtain ⟨k, e, m⟩ := x
  have HX := Lib.hid hx
  clear hx
  simp only at hok hX
  have HX0 := Lib.hid hX
  clear hX
  have HOK := Lib.hid hok
  clear hok
  obtain ⟨q, hq⟩ : ∃ q, q = w.heap.size := ⟨_, rfl⟩
  have hQ2 : w.heap.size ≤ q := by omega
  have HQ := Lib.hid hq
  have HQ2 := Lib.hid hQ2
  clear hq hQ2
  go_enter Try.func27, Try.ntmps27
  go_wp2_with fail
  refine (New_any A _ c l _ (HL.out.newBlock _)).mono ?_
  rintro r w2 ⟨g, rfl, hr, hb2⟩
  have F2 : FR w2 q 0 (.slice none 0 0) 0 := by
    rw [HQ.out]
    exact (hb2.block _ (by simp)).trans (heap_alloc_new w _)
  rw [← HQ.out]
  obtain ⟨lo, hlo⟩ : ∃ lo, lo = (w.alloc (.cells #[.int .i64 0, .slice none 0 0, .int .i64 0] 59)).heap.size := ⟨_, rfl⟩
  have hqlo : q < lo := by rw [HQ.out, hlo]; simp
  rw [← hlo] at hr
  have hqg : q < g := by have := hr.lt.1; omega
  have B2 := Lib.hid (show Below w.heap.size w w2 from nxA (bel0 w) hb2)
  have R2 := Lib.hid hr
  have HF2 := Lib.hid F2
  clear hr hb2 F2 hlo
  go_wp2_with fail
  refine (parNumber_any 127 R2.out).mono ?_
  rw [HX.out]
  rintro r w3 ⟨rfl, hr, hg⟩
  simp only at hr ⊢
  have F3 := HF2.out.grown hg (fun j hj => by cases hj; omega)
  have B3 := Lib.hid (grown_bel B2.out hg (by have := HQ2.out; omega))
  obtain ⟨c30, c31, c32⟩ := F3.cells
  obtain ⟨z30, z31, z32⟩ := F3.thaw
  have HF3 := Lib.hid F3
  have HR3 := Lib.hid hr
  clear F3 hr hg
  by_cases h1 : e = 0
  · subst h1
    obtain ⟨w4, hw4⟩ : ∃ W, W = w3.setCell ⟨q, 0, none⟩ (.int .i64 (k : Int)) := ⟨_, rfl⟩
    have F4 : FR w4 q k (.slice none 0 0) 0 := by rw [hw4]; exact HF3.out.set0 _
    have B4 := Lib.hid (show Below w.heap.size w w4 by rw [hw4]; exact B3.out.setCell (p := ⟨q, 0, none⟩) HQ2.out _)
    have R4 := Lib.hid (show Rdr w4 lo g 0 m by rw [hw4]; exact (HR3.out rfl).grown (grown_set _ _ _ _) (fun j hj => by cases hj; omega))
    have HF4 := Lib.hid F4
    have hx0 : X = fstQ l k m := HX0.out.trans (if_pos rfl)
    clear HX0 HX
    have hkm := HOK.out rfl
    clear HOK B3 HR3 HF3 B2 R2 HF2
    unfold fstQ at hx0
    have hok2 := numP_ok (most := 65536) (l := m) (by have h := HL.out.byt; rw [hkm.1] at h; exact fun x hx => h x (List.mem_append_right _ hx))
    generalize hx2 : numP 65536 m = x2 at *
    obtain ⟨n, e2, m2⟩ := x2
    have HX2 := Lib.hid hx2
    have HX0 := Lib.hid hx0
    have HKM := Lib.hid hkm
    have HOK2 := Lib.hid hok2
    clear hx2 hx0 hkm hok2 F4
    simp only at HX0 HOK2
    go_wp2_with fail
    rw [← hw4]
    clear hw4 c30 c31 c32 z30 z31 z32
    refine (parNumber_any 65536 R4.out).mono ?_
    rw [HX2.out]
    rintro r w5 ⟨rfl, hr, hg⟩
    simp only at hr ⊢
    have F5 := HF4.out.grown hg (fun j hj => by cases hj; omega)
    have B5 := Lib.hid (grown_bel B4.out hg (by have := HQ2.out; omega))
    obtain ⟨c50, c51, c52⟩ := F5.cells
    obtain ⟨z50, z51, z52⟩ := F5.thaw
    have HF5 := Lib.hid F5
    have HR5 := Lib.hid hr
    clear F5 hr hg B4 R4 HF4 HX2
    by_cases h2 : e2 = 0
    · subst h2
      have hx0 : X = fstR l k n m2 := HX0.out.trans (if_pos rfl)
      have hkm := HKM.out
      have hnm := HOK2.out rfl
      unfold fstR at hx0
      have HX1 := Lib.hid hx0
      have hH : l.length - m2.length = (Dig.enc k).length + (Dig.enc n).length := by
        rw [hkm.1, hnm.1, List.length_append, List.length_append]; omega
      have R5 := Lib.hid (HR5.out rfl)
      obtain ⟨H, hHe⟩ : ∃ H, H = l.length - m2.length := ⟨_, rfl⟩
      have hHl : H + m2.length = l.length := by
        have := congrArg List.length hkm.1
        have := congrArg List.length hnm.1
        simp only [List.length_append] at *
        omega
      have hn5 := hnm.2
      clear hx0 HX0 HKM HOK2 HR5 hkm hnm hH
      rw [← hHe] at HX1
      clear hHe
      go_wp2_with fail
      refine (Left_any R5.out).mono ?_
      rintro r w6 ⟨rfl, rfl⟩
      rw [if_pos rfl]
      by_cases h3 : m2.length < n + 4
      · have h3' : (m2.length : Int) < (n : Int) + 4 := by omega
        have hx0 : X = ((0, [], 0), 3) := HX1.out.trans (if_pos h3)
        have HX0 := Lib.hid hx0
        clear hx0 HX1
        go_wp2_with fail
        obtain ⟨W, hW, FW, BW⟩ := HF5.out.put B5.out HQ2.out 0 (.slice none 0 0) 0
        rw [← hW]
        clear hW
        obtain ⟨c40, c41, c42⟩ := FW.cells
        refine bodyPost_ret (by simp [results, Try.results27, go_sem, c40, c41, c42]; try rfl) rfl ?_
        rw [HX0.out]
        exact ⟨_, rfl, World.ownsRow_nil _ _ _ _, BW⟩
      · have h3' : ¬ (m2.length : Int) < (n : Int) + 4 := by omega
        have HX2 := Lib.hid (HX1.out.trans (if_neg h3))
        clear HX1
        obtain ⟨E, hE⟩ : ∃ E, E = H + n := ⟨_, rfl⟩
        obtain ⟨E4, hE4⟩ : ∃ E4, E4 = E + 4 := ⟨_, rfl⟩
        have hEl : E4 ≤ l.length := by omega
        have hh1 : (l.length : Int) - (m2.length : Int) = (H : Int) := by omega
        have hh2 : (H : Int) + (n : Int) = (E : Int) := by omega
        have hh3 : (E : Int) + 4 = (E4 : Int) := by omega
        rw [← hE] at HX2
        have hs1 : ∀ w : World, (Instr.slice 22 (.slice A l.length c) (some (.int .i64 (E : Int))) (some (.int .i64 (E4 : Int))) none).run Try.prog w = .ok (.slice (dropA A c E) 4 (c - E)) w := fun w => by
          rw [slice_mid (by omega) (by omega), show E4 - E = 4 by omega]
        have hs2 : ∀ w : World, (Instr.slice 22 (.slice A l.length c) none (some (.int .i64 (E : Int))) none).run Try.prog w = .ok (.slice A E c) w := fun w => slice_take (by omega)
        have K1 := Lib.hid ((HL.out.below B5.out).mid (i := E) (j := E4) (by omega) hEl)
        have K2 := Lib.hid ((HL.out.below B5.out).cutN (k := E) (by omega))
        rw [show E4 - E = 4 by omega] at K1
        have HE4 := Lib.hid hE4
        have HE := Lib.hid hE
        have zb1 : (0 : Int) ≤ (E : Int) := by omega
        have zb2 : (E : Int) ≤ (E4 : Int) := by omega
        have zb3 : (E4 : Int) ≤ (c : Int) := by omega
        have zb4 : (E : Int) ≤ (c : Int) := by omega
        have zb7 : (E4 : Int) ≤ 140737488354304 := by omega
        have zb8 : IntKind.i64.wrap (E4 : Int) = (E4 : Int) := by rw [IntKind.wrap_i64]; omega
        have zb5 : (c == E) = false := by simp; omega
        have zb6 : ¬ c = E := by omega
        generalize dropA A c E = D at *
        clear hE4 hE
        go_wp2_with fail
        refine (Left_any R5.out).mono ?_
        rintro r w6 ⟨rfl, rfl⟩
        rw [if_pos rfl]
        go_wp2_with fail
        go_region_held3 (fun w' => Below w5.heap.size w5 w')
          (first | exact (bel0 _).drew | exact nx (by assumption) (by assumption))
          (first
            | (go_at_call 36; (with_reducible refine (of_any A E c (l.take E) _ (K2.out.below (by assumption))).mono ?_); rintro e wb ⟨rfl, hbb⟩)
            | (go_at_call 35; (with_reducible refine (row_any (Crc.on 0 (l.take E)) (Crc.on_lt _ _) _).mono ?_); rintro e wc ⟨u, rfl, hoc, hbc⟩; obtain ⟨A2, n2, c2, rfl, hs2, _⟩ := ownsRow_bs hoc (Crc.row_byt _) (by rw [Crc.length_row]; decide))
            | (go_at_call 63; (with_reducible refine (equal_any D A2 4 (c - E) n2 c2 _ _ _ (K1.out.below (by assumption)) hs2).mono ?_); rintro e wd ⟨rfl, hbd⟩))
        rename_i hK6
        have B6 := Lib.hid (nx B5.out hK6)
        have R6 := Lib.hid (R5.out.below hK6)
        have F6 := HF5.out.grown (grown_of_below hK6 none) (fun j hj => by cases hj)
        obtain ⟨c60, c61, c62⟩ := F6.cells
        obtain ⟨z60, z61, z62⟩ := F6.thaw
        have HF6 := Lib.hid F6
        have HQW := Lib.hid (Array.getElem?_eq_some_iff.1 F6).1
        clear K1 K2 R5 B5 HF5 hbb hbc hbd hoc hs1 hs2 hK6 F6 c50 c51 c52 z50 z51 z52 zb1 zb2 zb3 zb4 zb5 zb6
        by_cases hs : List.take 4 (List.drop E l) = Crc.row (Crc.on 0 (List.take E l))
        · have hx0 : X = ((k, m2.take n, E + 4), 0) := HX2.out.trans (if_pos hs)
          have HX3 := Lib.hid hx0
          rw [show decide (List.take 4 (List.drop E l) = Crc.row (Crc.on 0 (List.take E l))) = true from decide_eq_true hs]
          have hm2 : tk 0 (n : Int) m2 = (true, m2.take n, 0, m2.drop n) := by
            unfold tk
            rw [if_neg (by simp), if_neg (by omega), if_neg (by omega), Int.toNat_natCast]
          have HM2 := Lib.hid hm2
          have hE5 : (E : Int) + 4 = ((E + 4 : Nat) : Int) := by omega
          clear hx0 HX2 hs hm2
          go_wp2_with fail
          refine (Raw_any (n : Int) R6.out).mono ?_
          rw [HM2.out]
          rintro r w7 ⟨v, rfl, ho, hbt, hlm, _, hg⟩
          obtain ⟨A7, n7, c7, rfl, _, _⟩ := ownsRow_bs ho hbt hlm
          clear hbt hlm
          have F7 := HF6.out.grown hg (fun j hj => by cases hj; omega)
          have B7 := Lib.hid (grown_bel B6.out hg (by have := HQ2.out; omega))
          obtain ⟨c70, c71, c72⟩ := F7.cells
          obtain ⟨z70, z71, z72⟩ := F7.thaw
          have HF7 := Lib.hid F7
          have HO7 := Lib.hid ho
          have hq7 := B6.out.size
          have hqw := HQW.out
          clear F7 ho hg HF6 R6 B6 c60 c61 c62 z60 z61 z62
          go_wp2_with fail
          obtain ⟨W, hW, FW, BW⟩ := ((HF7.out.set1 (.slice A7 n7 c7)).set2 (E4 : Int)).put ((B7.out.setCell (p := ⟨q, 1, none⟩) HQ2.out _).setCell (p := ⟨q, 2, none⟩) HQ2.out _) HQ2.out k (.slice A7 n7 c7) E4
          have HO8 : W.ownsRow wd.heap.size 5 1 (.slice A7 n7 c7) (List.take n m2).length (bv (List.take n m2)) := by
            rw [hW]
            exact ownsRow_setCell_below (ownsRow_setCell_below (ownsRow_setCell_below (ownsRow_setCell_below (ownsRow_setCell_below HO7.out (a := ⟨q, 1, none⟩) hqw _) (a := ⟨q, 2, none⟩) hqw _) (a := ⟨q, 0, none⟩) hqw _) (a := ⟨q, 1, none⟩) hqw _) (a := ⟨q, 2, none⟩) hqw _
          rw [← hW]
          clear hW
          obtain ⟨c40, c41, c42⟩ := FW.cells
          refine bodyPost_ret (by simp [results, Try.results27, go_sem, c40, c41, c42]; try rfl) rfl ?_
          rw [HX3.out, ← HE4.out]
          exact ⟨_, rfl, ownsRow_base HO8 hq7, BW⟩
        · have hx0 : X = ((0, [], 0), 30) := HX2.out.trans (if_neg hs)
          have HX3 := Lib.hid hx0
          rw [show decide (List.take 4 (List.drop E l) = Crc.row (Crc.on 0 (List.take E l))) = false from decide_eq_false hs]
          clear hx0 HX2 hs
          go_wp2_with fail
          obtain ⟨W, hW, FW, BW⟩ := HF6.out.put B6.out HQ2.out 0 (.slice none 0 0) 0
          rw [← hW]
          clear hW
          obtain ⟨c40, c41, c42⟩ := FW.cells
          refine bodyPost_ret (by simp [results, Try.results27, go_sem, c40, c41, c42]; try rfl) rfl ?_
          rw [HX3.out]
          exact ⟨_, rfl, World.ownsRow_nil _ _ _ _, BW⟩
    · have h2' : (e2 != 0) = true := by simp; exact h2
      have hx0 : X = ((0, [], 0), e2) := HX0.out.trans (if_neg h2)
      have HX1 := Lib.hid hx0
      clear hx0 HX0
      go_wp2_with fail
      obtain ⟨W, hW, FW, BW⟩ := HF5.out.put B5.out HQ2.out 0 (.slice none 0 0) 0
      rw [← hW]
      clear hW
      obtain ⟨c40, c41, c42⟩ := FW.cells
      refine bodyPost_ret (by simp [results, Try.results27, go_sem, c40, c41, c42]; try rfl) rfl ?_
      rw [HX1.out]
      exact ⟨_, rfl, World.ownsRow_nil _ _ _ _, BW⟩
  · have h1' : (e != 0) = true := by simp; exact h1
    have hx0 : X = ((0, [], 0), e) := HX0.out.trans (if_neg h1)
    have HX1 := Lib.hid hx0
    clear hx0 HX0
    go_wp2_with fail
    obtain ⟨W, hW, FW, BW⟩ := (HF3.out.set0 (k : Int)).put (B3.out.setCell (p := ⟨q, 0, none⟩) HQ2.out _) HQ2.out 0 (.slice none 0 0) 0
    rw [← hW]
    clear hW
    obtain ⟨c40, c41, c42⟩ := FW.cells
    refine bodyPost_ret (by simp [results, Try.results27, go_sem, c40, c41, c42]; try rfl) rfl ?_
    rw [HX1.out]
    exact ⟨_, rfl, World.ownsRow_nil _ _ _ _, BW⟩
end Go.Proofs.Ytmnabhennibddaa
