/- The closure that ranges over frames: its contract, over whatever each round does. No conditions. -/
import Derived.Test.YtmnabhennibddaaGC24
import Derived.Deep.RegionHeld3
import Derived.TacticsIn
import Derived.TacticsInMore
import Derived.OwnWalkIn
set_option linter.unusedSimpArgs false
set_option linter.unusedVariables false
namespace Go.Proofs.Ytmnabhennibddaa
open Go.RowKit

theorem bel1' (w : World) (o : Obj) : Below w.heap.size w (w.alloc o) := (bel0 w).alloc (Nat.le_refl _) o
theorem own_ne8 {w : World} {base : Nat} {t0 : TypeId} {sz : Nat} {v : Value} {n : Nat} {xs : List Value} {q : Nat} {c : Array Value} {t : TypeId} {mk : Nat × Nat} (h : w.ownsRow base t0 sz v n xs) (hq : w.heap[q]? = some (.cells c t mk)) (ht : t ≠ t0) : v.ownBlock ≠ some q := by
  intro e
  obtain ⟨_, c2, mk2, hc⟩ := own_cells h e
  rw [hq] at hc
  injection hc with hc
  injection hc with _ h5 _
  exact ht h5
/-- Stops the walk. -/
theorem hold3 {p : Prop} (h : Hid p) : p := h.out
/-- What a round does with a frame. -/
def RoundsDo (w0 : World) (lp : Loop) : Prop := ∀ (W : World) (F : List (Nat × List Nat)) (p : Nat) (r : List Nat) (vk vb : Value) (A : Option Addr) (n c : Nat) (k : Nat) (b : List Nat) (s : Nat) (B : Option Addr) (m d : Nat),
  AS w0 W F p 0 r lp vk vb A n c → W.ownsRow (w0.heap.size + 8) 5 1 (.slice B m d) b.length (bv b) → F.length + 1 ≤ 2000000000 → p + s ≤ 1000000000000000 → 
  YieldAt Fence.wide 0 Try.prog (w0.heap.size + 7) #[.agg #[.int .i64 (k : Int), .slice B m d, .int .i64 (s : Int)]] W fun e W' => e = .returned (.bool true) ∧ (∃ vk' vb', AS w0 W' (F ++ [(k, b)]) (p + s) 0 r lp vk' vb' A n c) ∧ ∀ (q : Nat) (c : Array Value) (mk : Nat × Nat), W.heap[q]? = some (Obj.cells c 59 mk) → W'.heap[q]? = some (Obj.cells c 59 mk)
set_option maxHeartbeats 16000000 in
set_option maxRecDepth 100000 in
theorem frames1_any {w0 W : World} {l : List Nat} {lp : Loop} {vk vb : Value} {A : Option Addr} {n c : Nat} (hY : RoundsDo w0 lp) (hl : l.length ≤ 1000000000) (h0 : AS w0 W [] 0 0 l lp vk vb A n c) :
    Calls Try.prog 67 #[.func (.yield (w0.heap.size + 7)) #[] #[], .pointer (some ⟨w0.heap.size + 4, 0, none⟩), .pointer (some ⟨w0.heap.size + 5, 0, none⟩)] W fun e W' => (∃ v, e = .returned v) ∧ ∃ vk vb A n c r, AS w0 W' (allN (l.length + 1) l).1 (allN (l.length + 1) l).2.1 (allN (l.length + 1) l).2.2 r lp vk vb A n c := by
  have HY := Lib.hid hY
  have HA := Lib.hid h0
  obtain ⟨Z, hZ⟩ : ∃ Z, Z = allN (l.length + 1) l := ⟨_, rfl⟩
  rw [← hZ]
  have HZ := Lib.hid hZ
  have HL := Lib.hid hl
  have hbl := h0.bs.byt
  have HBL := Lib.hid hbl
  clear hY h0 hZ hl hbl
  obtain ⟨q2, hq2⟩ : ∃ q, q = w0.heap.size + 2 := ⟨_, rfl⟩
  obtain ⟨q4, hq4⟩ : ∃ q, q = w0.heap.size + 4 := ⟨_, rfl⟩
  obtain ⟨q5, hq5⟩ : ∃ q, q = w0.heap.size + 5 := ⟨_, rfl⟩
  obtain ⟨q7, hq7⟩ : ∃ q, q = w0.heap.size + 7 := ⟨_, rfl⟩
  have HQ2 := Lib.hid hq2
  have HQ4 := Lib.hid hq4
  have HQ5 := Lib.hid hq5
  have HQ7 := Lib.hid hq7
  rw [← hq4, ← hq5, ← hq7]
  clear hq2 hq4 hq5 hq7
  go_enter Try.func67, Try.ntmps67
  go_wp2_with fail
  go_loopg [] l.length (fun gk wr => ∃ (F : List (Nat × List Nat)) (p : Nat) (r : List Nat) (vk vb : Value) (A : Option Addr) (n c : Nat) (nf : Nat), Hid (AS w0 wr F p 0 r lp vk vb A n c) ∧ Hid (r.length ≤ gk) ∧ Hid (r.length < nf) ∧ Hid (Z = (F ++ (allN nf r).1, p + (allN nf r).2.1, (allN nf r).2.2)) ∧ Hid (F.length + r.length ≤ l.length ∧ p + r.length ≤ l.length))
  case atStart => exact ⟨[], 0, l, _, _, _, _, _, _, HA, Lib.hid (Nat.le_refl _), Lib.hid (Nat.lt_succ_self _), Lib.hid (by rw [HZ.out]; simp), Lib.hid (by simp)⟩
  case round =>
    clear HA HZ
    obtain ⟨F, p, r, vk, vb, A, n, c, nf, HA, HG, HN, HT, HP⟩ := hrel
    have hx := bel1' wr (.cells #[.int .i64 0, .slice none 0 0, .int .i64 0] 59)
    have HFZ := Lib.hid (show FR (wr.alloc (.cells #[.int .i64 0, .slice none 0 0, .int .i64 0] 59)) wr.heap.size 0 (.slice none 0 0) 0 from heap_alloc_new wr _)
    have HBX := Lib.hid hx
    have HAX := Lib.hid (HA.out.below hx)
    clear hx
    go_upto_region 1 with (fail)
    obtain ⟨W1, hW⟩ : ∃ W, W = wr.alloc (.cells #[.int .i64 0, .slice none 0 0, .int .i64 0] 59) := ⟨_, rfl⟩
    rw [← hW] at HFZ HBX HAX ⊢
    obtain ⟨q8, hq8⟩ : ∃ q, q = wr.heap.size := ⟨_, rfl⟩
    rw [← hq8] at HFZ ⊢
    have HQ8 := Lib.hid hq8
    clear hW hq8
    have c4 : W1.cell? ⟨q4, 0, none⟩ = some (.slice A n c) := by rw [HQ4.out]; exact cell_of HAX.out.lo.cB 0
    have c5 : W1.cell? ⟨q5, 0, none⟩ = some (.pointer (some ⟨q2, 0, none⟩)) := by rw [HQ5.out, HQ2.out]; exact cell_of HAX.out.lo.cE 0
    have HX0 := first_any (HAX.out.bs.below (nx HAX.out.lo.bel (bel0 W1).drew))
    have hbr := HAX.out.bs.byt
    have hbn := HAX.out.bs.len
    have hbc := HAX.out.bs.le
    have hok := fun h => fstP_ok hbr h
    have hdr := fun h => fst_drop hbr h
    have hno := fstP_no r
    have hstep := fun (m : Nat) (h : (fstP r).2 = 0) => allN_step (n := m) h
    have hstop := fun (m : Nat) (h : (fstP r).2 ≠ 0) => allN_stop (n := m) h
    generalize fstP r = x at *
    obtain ⟨⟨k, b, s⟩, e⟩ := x
    simp only at hok hdr hno hstep hstop
    have HX := Lib.hid HX0
    have HOK := Lib.hid hok
    have HDR := Lib.hid hdr
    have HNO := Lib.hid hno
    have HSTEP := Lib.hid hstep
    have HSTOP := Lib.hid hstop
    have HBC := Lib.hid hbc
    have HBR := Lib.hid hbr
    have HBN := Lib.hid hbn
    clear HX0 hok hdr hno hstep hstop hbc hbr hbn
    refine wp_region_held_drew (S := (fun w' => w'.cell? ⟨q4, 0, none⟩ = some (.slice A n c) ∧ w'.cell? ⟨q5, 0, none⟩ = some (.pointer (some ⟨q2, 0, none⟩)))) (by kernel_rfl) ⟨c4, c5⟩ (fun hHeld => ?_)
    refine' take_val (i := 0) (d := 6) (v := _) rfl rfl (by kernel_rfl) (by kernel_rfl) (by kernel_rfl) (fun _ _ _ h => h) (by rfl) ?_ (by assumption) ?_
    rotate_left
    · (intro w hSw; (try dsimp only at hSw); go_simp; (try with_reducible rfl))
    (try simp only [Act.put, List.setIfInBounds_toArray, List.set_cons_zero, List.set_cons_succ])
    refine' take_val (i := 1) (d := 7) (v := _) rfl rfl (by kernel_rfl) (by kernel_rfl) (by kernel_rfl) (fun _ _ _ h => h) (by rfl) ?_ (by assumption) ?_
    rotate_left
    · (intro w hSw; (try dsimp only at hSw); go_simp; (try with_reducible rfl))
    (try simp only [Act.put, List.setIfInBounds_toArray, List.set_cons_zero, List.set_cons_succ])
    refine wpAnyH_ready (rs := [2]) (by kernel_rfl) (by simp) ?_
    refine AllReadyH.cons rfl (fun K hK => ?_) AllReadyH.nil
    go_simp
    go_at_call 27
    refine HX.out.mono ?_
    rintro r2 w2 ⟨v, rfl, ho, hb⟩
    have HA2 := Lib.hid (HAX.out.below (nx (bel0 _).drew hb))
    have HB2 := Lib.hid (nx HBX.out (nx (bel0 _).drew hb))
    have HF2 := Lib.hid (HFZ.out.grown (grown_of_below (nx (bel0 _).drew hb) none) (fun j hj => by cases hj))
    have HO2 := Lib.hid (ownsRow_base ho (show w0.heap.size + 8 ≤ _ from HAX.out.sz))
    obtain ⟨B, m, d, rfl, hrow0⟩ : ∃ A4 n4 c4, v = .slice A4 n4 c4 ∧ True := (by rcases ho.2 with ⟨h, _⟩ | ⟨g2, cap, cur, h, _⟩ <;> exact ⟨_, _, _, h, trivial⟩)
    clear ho hb hrow0
    go_wp2_with fail
    refine hK.out _ _ ⟨by rw [HQ4.out]; exact cell_of HA2.out.lo.cB 0, by rw [HQ5.out, HQ2.out]; exact cell_of HA2.out.lo.cE 0⟩ (fun hHeld => ?_)
    clear hK K
    (try simp only [Act.put, List.setIfInBounds_toArray, List.set_cons_zero, List.set_cons_succ])
    refine' take_val (i := 3) (d := 5) (v := _) rfl rfl (by kernel_rfl) (by kernel_rfl) (by kernel_rfl) (fun _ _ _ h => h) (by rfl) ?_ (by assumption) ?_
    rotate_left
    · (intro w hSw; (try dsimp only at hSw); go_simp; (try with_reducible rfl))
    (try simp only [Act.put, List.setIfInBounds_toArray, List.set_cons_zero, List.set_cons_succ])
    refine' take_val (i := 4) (d := 9) (v := _) rfl rfl (by kernel_rfl) (by kernel_rfl) (by kernel_rfl) (fun _ _ _ h => h) (by rfl) ?_ (by assumption) ?_
    rotate_left
    · (intro w hSw; (try dsimp only at hSw); go_simp; (try with_reducible rfl))
    (try simp only [Act.put, List.setIfInBounds_toArray, List.set_cons_zero, List.set_cons_succ])
    refine' take_val (i := 5) (d := 10) (v := _) rfl rfl (by kernel_rfl) (by kernel_rfl) (by kernel_rfl) (fun _ _ _ h => h) (by rfl) ?_ (by assumption) ?_
    rotate_left
    · (intro w hSw; (try dsimp only at hSw); go_simp; (try with_reducible rfl))
    (try simp only [Act.put, List.setIfInBounds_toArray, List.set_cons_zero, List.set_cons_succ])
    refine wpAnyH_ready (rs := [6]) (by kernel_rfl) (by simp) ?_
    refine AllReadyH.cons rfl (fun K hK => ?_) AllReadyH.nil
    obtain ⟨t00, t01, t02⟩ := HF2.out.thaw
    obtain ⟨t10, t11, t12⟩ := HF2.out.cells
    go_simp
    obtain ⟨w3, hW3, hF3, hB3⟩ := HF2.out.put (w0 := wr) HB2.out (by rw [HQ8.out]; exact Nat.le_refl _) (k : Int) (.slice B m d) (s : Int)
    rw [← hW3]
    have HA3 := Lib.hid (HA.out.below hB3)
    have HO3 := Lib.hid (show w3.ownsRow (w0.heap.size + 8) 5 1 (.slice B m d) b.length (bv b) by rw [hW3]; exact ownsRow_setCell_other (ownsRow_setCell_other (ownsRow_setCell_other HO2.out (a := ⟨q8, 0, none⟩) (own_ne8 HO2.out HF2.out (by decide)) _) (a := ⟨q8, 1, none⟩) (own_ne8 HO2.out HF2.out (by decide)) _) (a := ⟨q8, 2, none⟩) (own_ne8 HO2.out HF2.out (by decide)) _)
    have HF3 := Lib.hid hF3
    clear t00 t01 t02 t10 t11 t12 hW3 hF3 hB3 HA2 HB2 HF2 HO2 hHeld HX c4 c5 HFZ HBX HAX
    refine hK.out _ _ ⟨by rw [HQ4.out]; exact cell_of HA3.out.lo.cB 0, by rw [HQ5.out, HQ2.out]; exact cell_of HA3.out.lo.cE 0⟩ (fun hHeld => ?_)
    clear hK K
    (try simp only [Act.put, List.getElem_toArray, List.getElem_cons_succ, List.getElem_cons_zero, List.setIfInBounds_toArray, List.set_cons_zero, List.set_cons_succ])
    (try simp only [Act.put, List.setIfInBounds_toArray, List.set_cons_zero, List.set_cons_succ])
    refine' take_val (i := 7) (d := 11) (v := _) rfl rfl (by kernel_rfl) (by kernel_rfl) (by kernel_rfl) (fun _ _ _ h => h) (by rfl) ?_ (by assumption) ?_
    rotate_left
    · (intro w hSw; (try dsimp only at hSw); go_simp; (try with_reducible rfl))
    (try simp only [Act.put, List.setIfInBounds_toArray, List.set_cons_zero, List.set_cons_succ])
    refine wpAnyH_ready (rs := [8]) (by kernel_rfl) (by simp) ?_
    refine AllReadyH.cons rfl (fun K hK => ?_) AllReadyH.nil
    have d0 := cell_of HA3.out.lo.ce 0
    have d1 := frozen_of HA3.out.lo.ce 0
    rw [← HQ2.out] at d0 d1
    simp at d0
    go_simp
    have HA4 := Lib.hid (HA3.out.setE e)
    have HO4 := Lib.hid (ownsRow_setCell_other HO3.out (a := ⟨w0.heap.size + 2, 0, none⟩) (own_ne8 HO3.out HA3.out.lo.ce (by decide)) (.int .i64 e))
    have HF4 := Lib.hid (HF3.out.grown (grown_set w3 (w0.heap.size + 2) 0 (.int .i64 e)) (fun j hj => by injection hj with hj; have := HA.out.sz; rw [HQ8.out]; omega))
    rw [← HQ2.out] at HA4 HO4 HF4
    clear d0 d1 HA3 HO3 HF3 hHeld
    refine hK.out _ _ ⟨by rw [HQ4.out]; exact cell_of HA4.out.lo.cB 0, by rw [HQ5.out]; have h := cell_of HA4.out.lo.cE 0; rw [← HQ2.out] at h; exact h⟩ (fun hHeld => ?_)
    clear hK K
    (try simp only [Act.put, List.getElem_toArray, List.getElem_cons_succ, List.getElem_cons_zero, List.setIfInBounds_toArray, List.set_cons_zero, List.set_cons_succ])
    (try simp only [Act.put, List.setIfInBounds_toArray, List.set_cons_zero, List.set_cons_succ])
    refine wpAnyH_done (by kernel_rfl) ?_ _

    obtain ⟨w4, hW⟩ : ∃ W, W = w3.setCell ⟨q2, 0, none⟩ (.int .i64 e) := ⟨_, rfl⟩
    have HW := Lib.hid hW
    rw [← hW] at HA4 HO4 HF4
    clear hW hHeld
    go_upto_region 2 with (fail)
    rw [← HW.out]
    clear HW
    refine (wpIn_wide (n := 0)).1 ?_
    have d0 := cell_of HA4.out.lo.ce 0
    have d5 := cell_of HA4.out.lo.cE 0
    rw [← HQ2.out] at d0
    rw [← HQ5.out, ← HQ2.out] at d5
    simp at d0 d5
    obtain ⟨t10, t11, t12⟩ := HF4.out.cells
    by_cases he : e = 0
    · subst he
      have hx := HDR.out rfl
      have hkk := HOK.out rfl
      have hp := HP.out
      have hlm := HL.out
      obtain ⟨fn, tmps, as', bd', hy, hR⟩ := HY.out w4 F p r vk vb A n c k b s B m d HA4.out HO4.out (by omega) (by omega)
      rw [← HQ7.out] at hy hR
      have HR := Lib.hid hR
      clear hR hx hkk hp hlm
      obtain ⟨nf, rfl⟩ : ∃ j, nf = j + 1 := ⟨nf - 1, by have := HN.out; omega⟩
      gi_wp2
      refine ⟨rfl, HR.out.mono ?_⟩
      rintro e W5 ⟨rfl, ⟨vk2, vb2, hA5⟩, hkeep⟩
      have HA5 := Lib.hid hA5
      have HF5 := Lib.hid (show FR W5 q8 k (.slice B m d) s from hkeep _ _ _ HF4.out)
      clear hA5 hkeep HR hy d0 d5 t10 t11 t12 HF4 HO4 HA4 HY
      have hdd := HDR.out (by trivial)
      have hle1 := hdd.1
      have hnn := HBN.out
      subst hnn
      have hbc := HBC.out
      have hs1 : ∀ w : World, (Instr.slice 22 (.slice A r.length c) (some (.int .i64 (s : Int))) none none).run Try.prog w = .ok (.slice (dropA A c s) (r.length - s) (c - s)) w := fun w => slice_drop hle1 hbc
      have hbd1 : (s : Int) ≤ (r.length : Int) := by omega
      obtain ⟨t10, t11, t12⟩ := HF5.out.cells
      have d4 := cell_of HA5.out.lo.cB 0
      have f4 := frozen_of HA5.out.lo.cB 0
      rw [← HQ4.out] at d4 f4
      simp at d4
      have HA6 := Lib.hid (HA5.out.setB (HA5.out.bs.dropA (k := s) hle1))
      rw [← HQ4.out] at HA6
      have HDD := Lib.hid hdd
      have HSTP := Lib.hid (HSTEP.out nf (by trivial))
      have HLE := Lib.hid hle1
      clear hdd hle1 hbc HSTEP HSTOP HNO HOK HDR HBC HBN
      gi_wp2
      go_wp2_with fail
      go_roundg (r.drop s).length
      case measure => have := HDD.out; have := HG.out; omega
      case rel =>
        refine ⟨F ++ [(k, b)], p + s, r.drop s, _, _, _, _, _, nf, HA6, Lib.hid (Nat.le_refl _), Lib.hid ?_, Lib.hid ?_, Lib.hid ?_⟩
        · have := HDD.out; have := HN.out; omega
        · rw [HT.out, HSTP.out]
          simp [Nat.add_assoc]
        · have h1 := HP.out
          have h2 := HDD.out
          rw [List.length_append, List.length_drop]
          simp only [List.length_cons, List.length_nil]
          omega
    · have hee : (e != 0) = true := by simp; exact he
      have he3 := (HNO.out he).2
      have HZ := Lib.hid (show Z = (F, p, e) by
        have h1 := HT.out
        obtain ⟨nf, rfl⟩ : ∃ j, nf = j + 1 := ⟨nf - 1, by have := HN.out; omega⟩
        rw [HSTOP.out nf he] at h1
        rw [h1]
        simp)
      clear he3 HSTEP HSTOP HNO HOK HDR HT HY
      gi_wp2
      refine ⟨fun _ h => (by cases h), ?_⟩
      gi_wp2
      go_wp2_with fail
      refine bodyPost_ret (results_none rfl _ _ _) rfl ?_
      rw [HZ.out]
      exact ⟨⟨_, rfl⟩, _, _, _, _, _, r, HA4.out⟩
end Go.Proofs.Ytmnabhennibddaa
