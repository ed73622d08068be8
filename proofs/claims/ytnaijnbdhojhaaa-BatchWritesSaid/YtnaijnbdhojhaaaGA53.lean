/- The walk of the law BatchWrites. No conditions. -/
import Derived.Test.YtnaijnbdhojhaaaGA45
import Derived.Test.YtnaijnbdhojhaaaGA01
import Derived.Test.YtnaijnbdhojhaaaGA49
import Derived.Test.YtnaijnbdhojhaaaGA34
set_option linter.unusedSimpArgs false
set_option linter.unusedVariables false
namespace Go.Proofs.Ytnaijnbdhojhaaa
open Go.RowKit

theorem sp_keep {W wr a : World} {A : Option Addr} {n c : Nat} {l : List Spn} (h : LS W A n c l) (hw : Below W.heap.size W wr) {k g o : Nat} {B : Option Addr} {m d : Nat} (hk : k < l.length) (hA : A = some ⟨g, o, none⟩) (h8 : W.cell? ⟨g, o + k * 9 + 8, none⟩ = some (.slice B m d)) (hb : Below wr.heap.size wr a) :
    Below wr.heap.size wr a ∧ a.cell? ⟨g, o + k * 9, none⟩ = some (.int .i64 l[k].tr) ∧ a.cell? ⟨g, o + k * 9 + 1, none⟩ = some (.int .i64 l[k].id) ∧ a.cell? ⟨g, o + k * 9 + 2, none⟩ = some (.int .i64 l[k].pa) ∧ a.cell? ⟨g, o + k * 9 + 3, none⟩ = some (.string l[k].sv) ∧ a.cell? ⟨g, o + k * 9 + 4, none⟩ = some (.string l[k].op) ∧ a.cell? ⟨g, o + k * 9 + 5, none⟩ = some (.int .i64 l[k].st) ∧ a.cell? ⟨g, o + k * 9 + 6, none⟩ = some (.int .i64 l[k].ln) ∧ a.cell? ⟨g, o + k * 9 + 7, none⟩ = some (.string l[k].sj) ∧ a.cell? ⟨g, o + k * 9 + 8, none⟩ = some (.slice B m d) := by
  obtain ⟨g', o', B', m', d', e, hS, hc⟩ := h.cellsAt (nx hw hb) hk
  rw [hA] at e
  cases e
  have h9 := ((nx hw hb).cell (p := ⟨g, o + k * 9 + 8, none⟩) (World.block_lt_of_cell? W _ h8)).trans h8
  have := hc.2.2.2.2.2.2.2.2.symm.trans h9
  cases this
  exact ⟨hb, hc⟩
theorem bats_keep {W a : World} {q1 q2 qz : Nat} {x0 x1 y0 y1 z0 z1 : Int} {x2 y2 z2 : Value} (h1 : W.heap[q1]? = some (.cells #[.int .i64 x0, .int .i64 x1, x2] 26 (0, 0))) (h2 : W.heap[q2]? = some (.cells #[.int .i64 y0, .int .i64 y1, y2] 26 (0, 0))) (h5 : W.heap[qz]? = some (.cells #[.int .i64 z0, .int .i64 z1, z2] 26 (0, 0))) (hb : Below W.heap.size W a) :
    Below W.heap.size W a ∧ a.cell? ⟨q1, 0, none⟩ = some (.int .i64 x0) ∧ a.cell? ⟨q1, 1, none⟩ = some (.int .i64 x1) ∧ a.cell? ⟨q1, 2, none⟩ = some x2 ∧ a.cell? ⟨q2, 0, none⟩ = some (.int .i64 y0) ∧ a.cell? ⟨q2, 1, none⟩ = some (.int .i64 y1) ∧ a.cell? ⟨q2, 2, none⟩ = some y2 ∧ a.cell? ⟨qz, 0, none⟩ = some (.int .i64 z0) ∧ a.cell? ⟨qz, 1, none⟩ = some (.int .i64 z1) ∧ a.cell? ⟨qz, 2, none⟩ = some z2 := by
  obtain ⟨a0, a1, a2⟩ := bat_block (blk_below h1 hb)
  obtain ⟨b0, b1, b2⟩ := bat_block (blk_below h2 hb)
  obtain ⟨c0, c1, c2⟩ := bat_block (blk_below h5 hb)
  exact ⟨hb, a0, a1, a2, b0, b1, b2, c0, c1, c2⟩
theorem btP_ok (b : Bat) (hp : PtB b) : Byt (btP b).1 ∧ (btP b).1.length ≤ 8192 := by
  by_cases h : OkB b
  · rw [btP_yes h]; exact ⟨btB_byt h.1 hp, h.2⟩
  · rw [btP_no h]; exact ⟨(by intro x hx; cases hx), Nat.zero_le _⟩
open Classical in
set_option maxHeartbeats 16000000 in
set_option maxRecDepth 100000 in
theorem batchWrites_walk (a : Bat) (A : Option Addr) (c : Nat) (b : Bat) (B : Option Addr) (d : Nat) (w : World) (h1 : I64 a.ag) (h2 : I64 a.sq) (hL : LS w A a.sp.length c a.sp) (hs : ∀ s ∈ a.sp, SpnOk s) (hn : a.sp.length * 112 ≤ 140737488351232)
    (h1' : I64 b.ag) (h2' : I64 b.sq) (hL' : LS w B b.sp.length d b.sp) (hs' : ∀ s ∈ b.sp, SpnOk s) (hn' : b.sp.length * 112 ≤ 140737488351232) :
    Calls Try.prog 6 #[.agg #[.int .i64 a.ag, .int .i64 a.sq, .slice A a.sp.length c], .agg #[.int .i64 b.ag, .int .i64 b.sq, .slice B b.sp.length d]] w fun e w' => e = .returned (.bool true) ∧ Below w.heap.size w w' := by
  have HPA := Lib.hid (show PtB a from hL.pt)
  have HAT := Lib.hid (show ∀ s ∈ a.sp, s.ats.length ≤ 2199023255552 from fun s hs' => by have := (hs s hs').lim; omega)
  have hlim : a.sp.length ≤ 1256584717421 := hL.lim
  have hle : a.sp.length ≤ c := hL.le
  have C1 := Lib.hid (fun (w : World) (A : Option Addr) (n c : Nat) (h : LS w A n c a.sp) => batBytes_any (b := a) h)
  have C2 := Lib.hid (fun (w : World) (A : Option Addr) (n c : Nat) (h : LS w A n c a.sp) => refBatBytes_any (b := a) h)
  have C3 := Lib.hid (fun (w : World) (A : Option Addr) (n c : Nat) (h : LS w A n c a.sp) => refCopy_any (b := a) h)
  have K1 := Lib.hid (fun (w : World) (A : Option Addr) (n c : Nat) (h : LS w A n c a.sp) => batCheck_any (b := a) h)
  have K2 := Lib.hid (fun (w : World) (A : Option Addr) (n c : Nat) (h : LS w A n c a.sp) => refBatCheck_any (b := a) h)
  have K3 := Lib.hid (fun (w : World) (A B : Option Addr) (n c m d : Nat) (h : LS w A n c a.sp) (h2 : LS w B m d b.sp) => batSame_any (a := a) (b := b) h h2)
  have K4 := Lib.hid (fun (w : World) (A B : Option Addr) (n c m d : Nat) (h : LS w A n c a.sp) (h2 : LS w B m d b.sp) => refBatSame_any (a := a) (b := b) h h2)
  have K5 := Lib.hid (fun (w : World) (A B : Option Addr) (n c m d : Nat) (h : LS w A n c a.sp) (h2 : LS w B m d a.sp) => refBatSame_any (a := a) (b := a) h h2)
  have hx := btP_ok a hL.pt
  generalize btP a = X at *
  obtain ⟨xs, xe⟩ := X
  simp only at hx C1 C2 K1 K2
  have HX := Lib.hid hx
  have HA := Lib.hid hL
  have HB := Lib.hid hL'
  clear h1 h2 hL hs hn h1' h2' hL' hs' hn' hx
  obtain ⟨eb, hebe⟩ : ∃ x : Bool, x = true ↔ a = b := ⟨decide (a = b), by simp⟩
  obtain ⟨aa, asq, la⟩ := a
  obtain ⟨ba, bq, lb⟩ := b
  simp only at *
  have HEB := Lib.hid hebe
  clear hebe
  obtain ⟨n, hnn⟩ : ∃ n, n = la.length := ⟨_, rfl⟩
  have HN := Lib.hid hnn
  have HAn := Lib.hid (show LS w A n c la by rw [hnn]; exact HA.out)
  rw [← hnn] at hlim hle ⊢
  clear hnn HA
  generalize hmm : lb.length = m at *
  clear hmm
  have hw1 := bel1 w (.cells #[.int .i64 aa, .int .i64 asq, .slice A n c] 26)
  have hq1 := heap_alloc_new w (.cells #[.int .i64 aa, .int .i64 asq, .slice A n c] 26)
  have hw2 := bel1 (w.alloc (.cells #[.int .i64 aa, .int .i64 asq, .slice A n c] 26)) (.cells #[.int .i64 ba, .int .i64 bq, .slice B m d] 26)
  have hq2 := heap_alloc_new (w.alloc (.cells #[.int .i64 aa, .int .i64 asq, .slice A n c] 26)) (.cells #[.int .i64 ba, .int .i64 bq, .slice B m d] 26)
  rw [World.size_alloc] at hq2
  have X0 := Lib.hid (blk_below hq1 hw2)
  have Y0 := Lib.hid hq2
  have HW := Lib.hid (nx hw1 hw2)
  have A0 := Lib.hid (HAn.out.below HW.out)
  have B0 := Lib.hid (HB.out.below HW.out)
  clear hw1 hq1 hw2 hq2 HB
  go_enter Try.func6, Try.ntmps6
  go_wp2_with fail
  obtain ⟨W0, hW⟩ : ∃ W, W = (w.alloc (.cells #[.int .i64 aa, .int .i64 asq, .slice A n c] 26)).alloc (.cells #[.int .i64 ba, .int .i64 bq, .slice B m d] 26) := ⟨_, rfl⟩
  rw [← hW] at X0 Y0 HW A0 B0 ⊢
  clear hW
  obtain ⟨q2, hqq⟩ : ∃ q, q = w.heap.size + 1 := ⟨_, rfl⟩
  rw [← hqq] at Y0 ⊢
  clear hqq
  obtain ⟨q1, hqq⟩ : ∃ q, q = w.heap.size := ⟨_, rfl⟩
  rw [← hqq] at X0 ⊢
  clear hqq
  refine (C3.out _ _ _ _ A0.out).mono ?_
  rintro e w1 ⟨v5, rfl, ho, hb1⟩
  obtain ⟨A5, n5, c5, rfl, hL5⟩ := ho.ls HPA.out HAT.out (by rw [← HN.out]; exact hlim)
  have hn5 := hL5.len.symm
  rw [← HN.out] at hn5
  subst hn5
  have A_1 := Lib.hid (A0.out.below hb1)
  have B_1 := Lib.hid (B0.out.below hb1)
  have X_1 := Lib.hid (blk_below X0.out hb1)
  have Y_1 := Lib.hid (blk_below Y0.out hb1)
  have hbw1 := nx HW.out hb1
  clear A0 B0 X0 Y0 ho
  have Z_1 := Lib.hid (hL5)
  clear hL5
  obtain ⟨d0, d1, d2⟩ := bat_block X_1.out
  have dq := (Array.getElem?_eq_some_iff.1 X_1.out).1
  go_wp2_with fail
  clear d0 d1 d2 dq
  obtain ⟨W2, hW⟩ : ∃ W, W = w1.alloc (.cells #[.int .i64 aa, .int .i64 asq, .slice A5 n c5] 26) := ⟨_, rfl⟩
  have hbx : Below w1.heap.size w1 W2 := by rw [hW]; exact bel1 _ _
  have hqx := heap_alloc_new w1 (.cells #[.int .i64 aa, .int .i64 asq, .slice A5 n c5] 26)
  rw [← hW] at hqx ⊢
  obtain ⟨qz, hqq⟩ : ∃ q, q = w1.heap.size := ⟨_, rfl⟩
  rw [← hqq] at hqx ⊢
  clear hW hqq
  have A_2 := Lib.hid (A_1.out.below hbx)
  have B_2 := Lib.hid (B_1.out.below hbx)
  have X_2 := Lib.hid (blk_below X_1.out hbx)
  have Y_2 := Lib.hid (blk_below Y_1.out hbx)
  have Z_2 := Lib.hid (Z_1.out.below hbx)
  have hbw2 := nx hbw1 hbx
  clear A_1 B_1 X_1 Y_1 Z_1
  have z_2 := Lib.hid (hqx)
  clear hqx
  refine (C1.out _ _ _ _ Z_2.out).mono ?_
  intro e w3 hh
  obtain ⟨A1, n1, c1, rfl, hB, hb3⟩ := hh.open HX.out.1 (by have := HX.out.2; show xs.length ≤ _; omega)
  have A_3 := Lib.hid (A_2.out.below hb3)
  have B_3 := Lib.hid (B_2.out.below hb3)
  have X_3 := Lib.hid (blk_below X_2.out hb3)
  have Y_3 := Lib.hid (blk_below Y_2.out hb3)
  have Z_3 := Lib.hid (Z_2.out.below hb3)
  have z_3 := Lib.hid (blk_below z_2.out hb3)
  have hbw3 := nx hbw2 hb3
  clear A_2 B_2 X_2 Y_2 Z_2 z_2 hh
  have P1_3 := Lib.hid (hB)
  clear hB
  obtain ⟨d0, d1, d2⟩ := bat_block X_3.out
  have dq := (Array.getElem?_eq_some_iff.1 X_3.out).1
  go_wp2_with fail
  clear d0 d1 d2 dq
  refine (C2.out _ _ _ _ A_3.out).mono ?_
  intro e w4 hh
  obtain ⟨A2, n2, c2, rfl, hB, hb4⟩ := hh.open HX.out.1 (by have := HX.out.2; show xs.length ≤ _; omega)
  have A_4 := Lib.hid (A_3.out.below hb4)
  have B_4 := Lib.hid (B_3.out.below hb4)
  have X_4 := Lib.hid (blk_below X_3.out hb4)
  have Y_4 := Lib.hid (blk_below Y_3.out hb4)
  have Z_4 := Lib.hid (Z_3.out.below hb4)
  have z_4 := Lib.hid (blk_below z_3.out hb4)
  have P1_4 := Lib.hid (P1_3.out.below hb4)
  have hbw4 := nx hbw3 hb4
  clear A_3 B_3 X_3 Y_3 Z_3 z_3 P1_3 hh
  have P2_4 := Lib.hid (hB)
  clear hB
  go_wp2_with fail
  have KEEP := Lib.hid (fun (a : World) (h : Below w4.heap.size w4 a) => show (a.heap[q1]? = some (.cells #[.int .i64 aa, .int .i64 asq, .slice A n c] 26 (0, 0)) ∧ a.heap[q2]? = some (.cells #[.int .i64 ba, .int .i64 bq, .slice B m d] 26 (0, 0)) ∧ a.heap[qz]? = some (.cells #[.int .i64 aa, .int .i64 asq, .slice A5 n c5] 26 (0, 0))) ∧ LS a A n c la ∧ LS a B m d lb ∧ LS a A5 n c5 la ∧ BS a A1 n1 c1 xs ∧ BS a A2 n2 c2 xs from ⟨⟨blk_below X_4.out h, blk_below Y_4.out h, blk_below z_4.out h⟩, A_4.out.below h, B_4.out.below h, Z_4.out.below h, P1_4.out.below h, P2_4.out.below h⟩)
  have HBW := Lib.hid hbw4
  obtain ⟨w5, hw5⟩ : ∃ W, W = w4 := ⟨_, rfl⟩
  rw [← hw5] at KEEP HBW ⊢
  have hb6 := bel0 w5
  clear A_4 B_4 X_4 Y_4 Z_4 z_4 P1_4 P2_4 hw5
  go_loopw [10] (fun i wr => ∃ k : Nat, k ≤ n ∧ i = .int .i64 k ∧ Below w5.heap.size w5 wr) (fun i _ => n - (intOf i).toNat)
  case atStart => exact ⟨0, Nat.zero_le _, rfl, hb6⟩
  case round =>
    clear hb6
    obtain ⟨k, hk, rfl, hbw⟩ := hrel
    have hb := nx HBW.out hbw
    obtain ⟨⟨X6, Y6, Z5⟩, L6, M6, Z6, P6, Q6⟩ := KEEP.out wr hbw
    by_cases hlt : k < n
    · have hlt' : k < la.length := by rw [← HN.out]; exact hlt
      obtain ⟨g, o, Ba, bm, bd, hA, hS, hcs⟩ := L6.cellsAt (bel0 wr) hlt'
      have AK := Lib.hid (fun (a : World) (h : Below wr.heap.size wr a) => And.intro h (And.intro (bat_block (blk_below X6 h)).2.2 (sp_keep (a := a) L6 (bel0 wr) hlt' hA hcs.2.2.2.2.2.2.2.2 h).2))
      have Q1 := Lib.hid (fun (w : World) (h : AS w Ba bm bd la[k].ats) => checkSpan_any h)
      have Q2 := Lib.hid (fun (w : World) (h : AS w Ba bm bd la[k].ats) => refCheckSpan_any h)
      have HS := Lib.hid hS
      subst hA
      have haa : (⟨g, o, none⟩ : Addr).add (k * 9) = ⟨g, o + k * 9, none⟩ := addr_add _ _ _
      have hk0 : (0 : Int) ≤ (k : Int) := by omega
      have hk1 : (k : Int) < (n : Int) := by omega
      obtain ⟨d0, d1, d2⟩ := bat_block X6
      have dq := (Array.getElem?_eq_some_iff.1 X6).1
      clear hS hcs Y6 Z5 L6 M6 Z6 P6 Q6 X6
      generalize la[k] = sp0 at *
      generalize chkS sp0 = cs at *
      have hcc : (cs != cs) = false := by simp
      obtain ⟨tr, id, pa, sv, op, st, ln, sj, ats⟩ := sp0
      unfold Spn.v at Q1 Q2
      simp only at AK Q1 Q2 HS
      clear hlt'
      go_wp2_with fail
      refine wp_region_held_drew (S := (fun w' => Below wr.heap.size wr w' ∧ w'.cell? ⟨q1, 2, none⟩ = some (.slice (some ⟨g, o, none⟩) n c) ∧ w'.cell? ⟨g, o + k * 9, none⟩ = some (.int .i64 tr) ∧ w'.cell? ⟨g, o + k * 9 + 1, none⟩ = some (.int .i64 id) ∧ w'.cell? ⟨g, o + k * 9 + 2, none⟩ = some (.int .i64 pa) ∧ w'.cell? ⟨g, o + k * 9 + 3, none⟩ = some (.string sv) ∧ w'.cell? ⟨g, o + k * 9 + 4, none⟩ = some (.string op) ∧ w'.cell? ⟨g, o + k * 9 + 5, none⟩ = some (.int .i64 st) ∧ w'.cell? ⟨g, o + k * 9 + 6, none⟩ = some (.int .i64 ln) ∧ w'.cell? ⟨g, o + k * 9 + 7, none⟩ = some (.string sj) ∧ w'.cell? ⟨g, o + k * 9 + 8, none⟩ = some (.slice Ba bm bd))) (by kernel_rfl) (AK.out _ (bel0 _).drew) (fun hHeld => ?_)
      refine' take_val (i := 0) (d := 30) (v := _) rfl rfl (by kernel_rfl) (by kernel_rfl) (by kernel_rfl) (fun _ _ _ h => h) (by rfl) ?_ (by assumption) ?_
      rotate_left
      · (intro w hSw; (try dsimp only at hSw); go_simp; (try with_reducible rfl))
      (try simp only [Act.put, List.setIfInBounds_toArray, List.set_cons_zero, List.set_cons_succ])
      refine' take_val (i := 1) (d := 31) (v := _) rfl rfl (by kernel_rfl) (by kernel_rfl) (by kernel_rfl) (fun _ _ _ h => h) (by rfl) ?_ (by assumption) ?_
      rotate_left
      · (intro w hSw; (try dsimp only at hSw); go_simp; (try with_reducible rfl))
      (try simp only [Act.put, List.setIfInBounds_toArray, List.set_cons_zero, List.set_cons_succ])
      refine' take_val (i := 2) (d := 32) (v := _) rfl rfl (by kernel_rfl) (by kernel_rfl) (by kernel_rfl) (fun _ _ _ h => h) (by rfl) ?_ (by assumption) ?_
      rotate_left
      · (intro w hSw; (try dsimp only at hSw); go_simp; (try with_reducible rfl))
      (try simp only [Act.put, List.setIfInBounds_toArray, List.set_cons_zero, List.set_cons_succ])
      refine' take_val (i := 3) (d := 33) (v := _) rfl rfl (by kernel_rfl) (by kernel_rfl) (by kernel_rfl) (fun _ _ _ h => h) (by rfl) ?_ (by assumption) ?_
      rotate_left
      · (intro w hSw; (try dsimp only at hSw); go_simp; (try with_reducible rfl))
      (try simp only [Act.put, List.setIfInBounds_toArray, List.set_cons_zero, List.set_cons_succ])
      refine' take_val (i := 4) (d := 34) (v := _) rfl rfl (by kernel_rfl) (by kernel_rfl) (by kernel_rfl) (fun _ _ _ h => h) (by rfl) ?_ (by assumption) ?_
      rotate_left
      · (intro w hSw; (try dsimp only at hSw); go_simp; (try with_reducible rfl))
      (try simp only [Act.put, List.setIfInBounds_toArray, List.set_cons_zero, List.set_cons_succ])
      refine' take_val (i := 6) (d := 36) (v := _) rfl rfl (by kernel_rfl) (by kernel_rfl) (by kernel_rfl) (fun _ _ _ h => h) (by rfl) ?_ (by assumption) ?_
      rotate_left
      · (intro w hSw; (try dsimp only at hSw); go_simp; (try with_reducible rfl))
      (try simp only [Act.put, List.setIfInBounds_toArray, List.set_cons_zero, List.set_cons_succ])
      refine' take_val (i := 7) (d := 37) (v := _) rfl rfl (by kernel_rfl) (by kernel_rfl) (by kernel_rfl) (fun _ _ _ h => h) (by rfl) ?_ (by assumption) ?_
      rotate_left
      · (intro w hSw; (try dsimp only at hSw); go_simp; (try with_reducible rfl))
      (try simp only [Act.put, List.setIfInBounds_toArray, List.set_cons_zero, List.set_cons_succ])
      refine' take_val (i := 8) (d := 38) (v := _) rfl rfl (by kernel_rfl) (by kernel_rfl) (by kernel_rfl) (fun _ _ _ h => h) (by rfl) ?_ (by assumption) ?_
      rotate_left
      · (intro w hSw; (try dsimp only at hSw); go_simp; (try with_reducible rfl))
      (try simp only [Act.put, List.setIfInBounds_toArray, List.set_cons_zero, List.set_cons_succ])
      refine' take_val (i := 9) (d := 39) (v := _) rfl rfl (by kernel_rfl) (by kernel_rfl) (by kernel_rfl) (fun _ _ _ h => h) (by rfl) ?_ (by assumption) ?_
      rotate_left
      · (intro w hSw; (try dsimp only at hSw); go_simp; (try with_reducible rfl))
      (try simp only [Act.put, List.setIfInBounds_toArray, List.set_cons_zero, List.set_cons_succ])
      refine' take_val (i := 10) (d := 40) (v := _) rfl rfl (by kernel_rfl) (by kernel_rfl) (by kernel_rfl) (fun _ _ _ h => h) (by rfl) ?_ (by assumption) ?_
      rotate_left
      · (intro w hSw; (try dsimp only at hSw); go_simp; (try with_reducible rfl))
      (try simp only [Act.put, List.setIfInBounds_toArray, List.set_cons_zero, List.set_cons_succ])
      refine wpAnyH_ready (rs := [5]) (by kernel_rfl) (by simp) ?_
      refine AllReadyH.cons rfl (fun K hK => ?_) AllReadyH.nil
      go_simp
      go_at_call 20
      refine (Q1.out _ (HS.out.below (And.left (b := _) hHeld))).mono ?_
      rintro r wb ⟨rfl, hbb⟩
      go_wp2_with fail
      refine hK.out _ _ (AK.out _ (nx (And.left (b := _) hHeld) hbb)) (fun hHeld => ?_)
      clear hK K
      (try simp only [Act.put, List.setIfInBounds_toArray, List.set_cons_zero, List.set_cons_succ])
      refine wpAnyH_ready (rs := [11]) (by kernel_rfl) (by simp) ?_
      refine AllReadyH.cons rfl (fun K hK => ?_) AllReadyH.nil
      go_simp
      go_at_call 23
      refine (Q2.out _ (HS.out.below (And.left (b := _) hHeld))).mono ?_
      rintro r wb ⟨rfl, hbb⟩
      go_wp2_with fail
      refine hK.out _ _ (AK.out _ (nx (And.left (b := _) hHeld) hbb)) (fun hHeld => ?_)
      clear hK K
      (try simp only [Act.put, List.setIfInBounds_toArray, List.set_cons_zero, List.set_cons_succ])
      refine' take_val (i := 12) (d := 42) (v := _) rfl rfl (by kernel_rfl) (by kernel_rfl) (by kernel_rfl) (fun _ _ _ h => h) (by rfl) ?_ (by assumption) ?_
      rotate_left
      · (intro w hSw; (try dsimp only at hSw); go_simp; (try with_reducible rfl))
      (try simp only [Act.put, List.setIfInBounds_toArray, List.set_cons_zero, List.set_cons_succ])
      refine wpAnyH_done (by kernel_rfl) ?_ _
      have hbk := hHeld.1
      clear hHeld AK Q1 Q2 HS d0 d1 d2 dq hk0 hk1 haa
      go_wp2_with fail
      refine ⟨⟨k + 1, by omega, by go_num, nx hbw hbk⟩, by simp [intOf]; omega⟩
    · obtain rfl : n = k := by omega
      obtain ⟨d0, d1, d2⟩ := bat_block X6
      have dq := (Array.getElem?_eq_some_iff.1 X6).1
      have VK := Lib.hid (fun a h => bats_keep (a := a) X6 Y6 Z5 h)
      replace L6 := Lib.hid L6
      replace M6 := Lib.hid M6
      replace Z6 := Lib.hid Z6
      replace P6 := Lib.hid P6
      replace Q6 := Lib.hid Q6
      have hxx : (xe == xe) = true := by simp
      clear X6 Y6 Z5
      go_wp2_with fail
      clear d0 d1 d2 dq
      refine wp_region_held_drew (S := (fun w' => Below wr.heap.size wr w' ∧ w'.cell? ⟨q1, 0, none⟩ = some (.int .i64 aa) ∧ w'.cell? ⟨q1, 1, none⟩ = some (.int .i64 asq) ∧ w'.cell? ⟨q1, 2, none⟩ = some (.slice A n c) ∧ w'.cell? ⟨q2, 0, none⟩ = some (.int .i64 ba) ∧ w'.cell? ⟨q2, 1, none⟩ = some (.int .i64 bq) ∧ w'.cell? ⟨q2, 2, none⟩ = some (.slice B m d) ∧ w'.cell? ⟨qz, 0, none⟩ = some (.int .i64 aa) ∧ w'.cell? ⟨qz, 1, none⟩ = some (.int .i64 asq) ∧ w'.cell? ⟨qz, 2, none⟩ = some (.slice A5 n c5))) (by kernel_rfl) (VK.out _ (bel0 _).drew) (fun hHeld => ?_)
      refine' take_val (i := 0) (d := 43) (v := _) rfl rfl (by kernel_rfl) (by kernel_rfl) (by kernel_rfl) (fun _ _ _ h => h) (by rfl) ?_ (by assumption) ?_
      rotate_left
      · (intro w hSw; (try dsimp only at hSw); go_simp; (try with_reducible rfl))
      (try simp only [Act.put, List.setIfInBounds_toArray, List.set_cons_zero, List.set_cons_succ])
      refine' take_val (i := 2) (d := 45) (v := _) rfl rfl (by kernel_rfl) (by kernel_rfl) (by kernel_rfl) (fun _ _ _ h => h) (by rfl) ?_ (by assumption) ?_
      rotate_left
      · (intro w hSw; (try dsimp only at hSw); go_simp; (try with_reducible rfl))
      (try simp only [Act.put, List.setIfInBounds_toArray, List.set_cons_zero, List.set_cons_succ])
      refine wpAnyH_ready (rs := [1]) (by kernel_rfl) (by simp) ?_
      refine AllReadyH.cons rfl (fun K hK => ?_) AllReadyH.nil
      go_simp
      go_at_call 18
      refine (K1.out _ _ _ _ (Z6.out.below (And.left (b := _) hHeld))).mono ?_
      rintro r wb ⟨rfl, hbb⟩
      go_wp2_with fail
      refine hK.out _ _ (VK.out _ (nx (And.left (b := _) hHeld) hbb)) (fun hHeld => ?_)
      clear hK K
      (try simp only [Act.put, List.setIfInBounds_toArray, List.set_cons_zero, List.set_cons_succ])
      refine wpAnyH_ready (rs := [3]) (by kernel_rfl) (by simp) ?_
      refine AllReadyH.cons rfl (fun K hK => ?_) AllReadyH.nil
      go_simp
      go_at_call 24
      refine (K2.out _ _ _ _ (L6.out.below (And.left (b := _) hHeld))).mono ?_
      rintro r wb ⟨rfl, hbb⟩
      go_wp2_with fail
      refine hK.out _ _ (VK.out _ (nx (And.left (b := _) hHeld) hbb)) (fun hHeld => ?_)
      clear hK K
      (try simp only [Act.put, List.setIfInBounds_toArray, List.set_cons_zero, List.set_cons_succ])
      refine' take_val (i := 4) (d := 47) (v := _) rfl rfl (by kernel_rfl) (by kernel_rfl) (by kernel_rfl) (fun _ _ _ h => h) (by rfl) ?_ (by assumption) ?_
      rotate_left
      · (intro w hSw; (try dsimp only at hSw); go_simp; (try with_reducible rfl))
      (try simp only [Act.put, List.setIfInBounds_toArray, List.set_cons_zero, List.set_cons_succ])
      refine' take_val (i := 5) (d := 48) (v := _) rfl rfl (by kernel_rfl) (by kernel_rfl) (by kernel_rfl) (fun _ _ _ h => h) (by rfl) ?_ (by assumption) ?_
      rotate_left
      · (intro w hSw; (try dsimp only at hSw); go_simp; (try with_reducible rfl))
      (try simp only [Act.put, List.setIfInBounds_toArray, List.set_cons_zero, List.set_cons_succ])
      refine' take_val (i := 6) (d := 49) (v := _) rfl rfl (by kernel_rfl) (by kernel_rfl) (by kernel_rfl) (fun _ _ _ h => h) (by rfl) ?_ (by assumption) ?_
      rotate_left
      · (intro w hSw; (try dsimp only at hSw); go_simp; (try with_reducible rfl))
      (try simp only [Act.put, List.setIfInBounds_toArray, List.set_cons_zero, List.set_cons_succ])
      refine' take_val (i := 7) (d := 50) (v := _) rfl rfl (by kernel_rfl) (by kernel_rfl) (by kernel_rfl) (fun _ _ _ h => h) (by rfl) ?_ (by assumption) ?_
      rotate_left
      · (intro w hSw; (try dsimp only at hSw); go_simp; (try with_reducible rfl))
      (try simp only [Act.put, List.setIfInBounds_toArray, List.set_cons_zero, List.set_cons_succ])
      refine wpAnyH_ready (rs := [8]) (by kernel_rfl) (by simp) ?_
      refine AllReadyH.cons rfl (fun K hK => ?_) AllReadyH.nil
      go_simp
      go_at_call 15
      refine (eqBytes_any A1 A2 n1 c1 n2 c2 xs xs _ (P6.out.below (And.left (b := _) hHeld)) (Q6.out.below (And.left (b := _) hHeld))).mono ?_
      rintro r wb ⟨rfl, hbb⟩
      (try rw [show decide (xs = xs) = true from decide_eq_true rfl])
      go_wp2_with fail
      refine hK.out _ _ (VK.out _ (nx (And.left (b := _) hHeld) hbb)) (fun hHeld => ?_)
      clear hK K
      (try simp only [Act.put, List.setIfInBounds_toArray, List.set_cons_zero, List.set_cons_succ])
      refine' take_val (i := 9) (d := 52) (v := _) rfl rfl (by kernel_rfl) (by kernel_rfl) (by kernel_rfl) (fun _ _ _ h => h) (by rfl) ?_ (by assumption) ?_
      rotate_left
      · (intro w hSw; (try dsimp only at hSw); go_simp; (try with_reducible rfl))
      (try simp only [Act.put, List.setIfInBounds_toArray, List.set_cons_zero, List.set_cons_succ])
      refine' take_val (i := 10) (d := 53) (v := _) rfl rfl (by kernel_rfl) (by kernel_rfl) (by kernel_rfl) (fun _ _ _ h => h) (by rfl) ?_ (by assumption) ?_
      rotate_left
      · (intro w hSw; (try dsimp only at hSw); go_simp; (try with_reducible rfl))
      (try simp only [Act.put, List.setIfInBounds_toArray, List.set_cons_zero, List.set_cons_succ])
      refine' take_val (i := 11) (d := 54) (v := _) rfl rfl (by kernel_rfl) (by kernel_rfl) (by kernel_rfl) (fun _ _ _ h => h) (by rfl) ?_ (by assumption) ?_
      rotate_left
      · (intro w hSw; (try dsimp only at hSw); go_simp; (try with_reducible rfl))
      (try simp only [Act.put, List.setIfInBounds_toArray, List.set_cons_zero, List.set_cons_succ])
      refine' take_val (i := 12) (d := 55) (v := _) rfl rfl (by kernel_rfl) (by kernel_rfl) (by kernel_rfl) (fun _ _ _ h => h) (by rfl) ?_ (by assumption) ?_
      rotate_left
      · (intro w hSw; (try dsimp only at hSw); go_simp; (try with_reducible rfl))
      (try simp only [Act.put, List.setIfInBounds_toArray, List.set_cons_zero, List.set_cons_succ])
      refine' take_val (i := 13) (d := 56) (v := _) rfl rfl (by kernel_rfl) (by kernel_rfl) (by kernel_rfl) (fun _ _ _ h => h) (by rfl) ?_ (by assumption) ?_
      rotate_left
      · (intro w hSw; (try dsimp only at hSw); go_simp; (try with_reducible rfl))
      (try simp only [Act.put, List.setIfInBounds_toArray, List.set_cons_zero, List.set_cons_succ])
      refine' take_val (i := 14) (d := 57) (v := _) rfl rfl (by kernel_rfl) (by kernel_rfl) (by kernel_rfl) (fun _ _ _ h => h) (by rfl) ?_ (by assumption) ?_
      rotate_left
      · (intro w hSw; (try dsimp only at hSw); go_simp; (try with_reducible rfl))
      (try simp only [Act.put, List.setIfInBounds_toArray, List.set_cons_zero, List.set_cons_succ])
      refine' take_val (i := 15) (d := 58) (v := _) rfl rfl (by kernel_rfl) (by kernel_rfl) (by kernel_rfl) (fun _ _ _ h => h) (by rfl) ?_ (by assumption) ?_
      rotate_left
      · (intro w hSw; (try dsimp only at hSw); go_simp; (try with_reducible rfl))
      (try simp only [Act.put, List.setIfInBounds_toArray, List.set_cons_zero, List.set_cons_succ])
      refine' take_val (i := 16) (d := 59) (v := _) rfl rfl (by kernel_rfl) (by kernel_rfl) (by kernel_rfl) (fun _ _ _ h => h) (by rfl) ?_ (by assumption) ?_
      rotate_left
      · (intro w hSw; (try dsimp only at hSw); go_simp; (try with_reducible rfl))
      (try simp only [Act.put, List.setIfInBounds_toArray, List.set_cons_zero, List.set_cons_succ])
      refine' take_val (i := 17) (d := 60) (v := _) rfl rfl (by kernel_rfl) (by kernel_rfl) (by kernel_rfl) (fun _ _ _ h => h) (by rfl) ?_ (by assumption) ?_
      rotate_left
      · (intro w hSw; (try dsimp only at hSw); go_simp; (try with_reducible rfl))
      (try simp only [Act.put, List.setIfInBounds_toArray, List.set_cons_zero, List.set_cons_succ])
      refine' take_val (i := 19) (d := 62) (v := _) rfl rfl (by kernel_rfl) (by kernel_rfl) (by kernel_rfl) (fun _ _ _ h => h) (by rfl) ?_ (by assumption) ?_
      rotate_left
      · (intro w hSw; (try dsimp only at hSw); go_simp; (try with_reducible rfl))
      (try simp only [Act.put, List.setIfInBounds_toArray, List.set_cons_zero, List.set_cons_succ])
      refine' take_val (i := 20) (d := 63) (v := _) rfl rfl (by kernel_rfl) (by kernel_rfl) (by kernel_rfl) (fun _ _ _ h => h) (by rfl) ?_ (by assumption) ?_
      rotate_left
      · (intro w hSw; (try dsimp only at hSw); go_simp; (try with_reducible rfl))
      (try simp only [Act.put, List.setIfInBounds_toArray, List.set_cons_zero, List.set_cons_succ])
      refine wpAnyH_ready (rs := [18]) (by kernel_rfl) (by simp) ?_
      refine AllReadyH.cons rfl (fun K hK => ?_) AllReadyH.nil
      go_simp
      go_at_call 25
      refine (K3.out _ _ _ _ _ _ _ (Z6.out.below (And.left (b := _) hHeld)) (M6.out.below (And.left (b := _) hHeld))).mono ?_
      rintro r wb ⟨b1, rfl, he1, hbb⟩
      have hb1e : b1 = eb := by
        have e1 := he1.trans HEB.out.symm
        revert e1
        cases b1 <;> cases eb <;> decide
      subst hb1e
      clear he1
      go_wp2_with fail
      refine hK.out _ _ (VK.out _ (nx (And.left (b := _) hHeld) hbb)) (fun hHeld => ?_)
      clear hK K
      (try simp only [Act.put, List.setIfInBounds_toArray, List.set_cons_zero, List.set_cons_succ])
      refine wpAnyH_ready (rs := [21]) (by kernel_rfl) (by simp) ?_
      refine AllReadyH.cons rfl (fun K hK => ?_) AllReadyH.nil
      go_simp
      go_at_call 14
      refine (K4.out _ _ _ _ _ _ _ (L6.out.below (And.left (b := _) hHeld)) (M6.out.below (And.left (b := _) hHeld))).mono ?_
      rintro r wb ⟨b2, rfl, he2, hbb⟩
      have hb2e : b2 = b1 := by
        have e1 := he2.trans HEB.out.symm
        revert e1
        cases b2 <;> cases b1 <;> decide
      subst hb2e
      clear he2
      go_wp2_with fail
      refine hK.out _ _ (VK.out _ (nx (And.left (b := _) hHeld) hbb)) (fun hHeld => ?_)
      clear hK K
      (try simp only [Act.put, List.setIfInBounds_toArray, List.set_cons_zero, List.set_cons_succ])
      refine' take_val (i := 22) (d := 65) (v := _) rfl rfl (by kernel_rfl) (by kernel_rfl) (by kernel_rfl) (fun _ _ _ h => h) (by rfl) ?_ (by assumption) ?_
      rotate_left
      · (intro w hSw; (try dsimp only at hSw); go_simp; (try with_reducible rfl))
      (try simp only [Act.put, List.setIfInBounds_toArray, List.set_cons_zero, List.set_cons_succ])
      refine' take_val (i := 23) (d := 66) (v := _) rfl rfl (by kernel_rfl) (by kernel_rfl) (by kernel_rfl) (fun _ _ _ h => h) (by rfl) ?_ (by assumption) ?_
      rotate_left
      · (intro w hSw; (try dsimp only at hSw); go_simp; (try with_reducible rfl))
      (try simp only [Act.put, List.setIfInBounds_toArray, List.set_cons_zero, List.set_cons_succ])
      refine' take_val (i := 24) (d := 67) (v := _) rfl rfl (by kernel_rfl) (by kernel_rfl) (by kernel_rfl) (fun _ _ _ h => h) (by rfl) ?_ (by assumption) ?_
      rotate_left
      · (intro w hSw; (try dsimp only at hSw); go_simp; (try with_reducible rfl))
      (try simp only [Act.put, List.setIfInBounds_toArray, List.set_cons_zero, List.set_cons_succ])
      refine' take_val (i := 25) (d := 68) (v := _) rfl rfl (by kernel_rfl) (by kernel_rfl) (by kernel_rfl) (fun _ _ _ h => h) (by rfl) ?_ (by assumption) ?_
      rotate_left
      · (intro w hSw; (try dsimp only at hSw); go_simp; (try with_reducible rfl))
      (try simp only [Act.put, List.setIfInBounds_toArray, List.set_cons_zero, List.set_cons_succ])
      refine' take_val (i := 26) (d := 69) (v := _) rfl rfl (by kernel_rfl) (by kernel_rfl) (by kernel_rfl) (fun _ _ _ h => h) (by rfl) ?_ (by assumption) ?_
      rotate_left
      · (intro w hSw; (try dsimp only at hSw); go_simp; (try with_reducible rfl))
      (try simp only [Act.put, List.setIfInBounds_toArray, List.set_cons_zero, List.set_cons_succ])
      refine wpAnyH_ready (rs := [27]) (by kernel_rfl) (by simp) ?_
      refine AllReadyH.cons rfl (fun K hK => ?_) AllReadyH.nil
      go_simp
      go_at_call 14
      refine (K5.out _ _ _ _ _ _ _ (Z6.out.below (And.left (b := _) hHeld)) (L6.out.below (And.left (b := _) hHeld))).mono ?_
      rintro r wb ⟨b3, rfl, he3, hbb⟩
      obtain rfl : b3 = true := he3.2 (by trivial)
      clear he3
      go_wp2_with fail
      refine hK.out _ _ (VK.out _ (nx (And.left (b := _) hHeld) hbb)) (fun hHeld => ?_)
      clear hK K
      (try simp only [Act.put, List.setIfInBounds_toArray, List.set_cons_zero, List.set_cons_succ])
      refine' take_val (i := 28) (d := 71) (v := _) rfl rfl (by kernel_rfl) (by kernel_rfl) (by kernel_rfl) (fun _ _ _ h => h) (by rfl) ?_ (by assumption) ?_
      rotate_left
      · (intro w hSw; (try dsimp only at hSw); go_simp; (try with_reducible rfl))
      (try simp only [Act.put, List.setIfInBounds_toArray, List.set_cons_zero, List.set_cons_succ])
      refine' take_val (i := 29) (d := 72) (v := _) rfl rfl (by kernel_rfl) (by kernel_rfl) (by kernel_rfl) (fun _ _ _ h => h) (by rfl) ?_ (by assumption) ?_
      rotate_left
      · (intro w hSw; (try dsimp only at hSw); go_simp; (try with_reducible rfl))
      (try simp only [Act.put, List.setIfInBounds_toArray, List.set_cons_zero, List.set_cons_succ])
      refine wpAnyH_ready (rs := [30]) (by kernel_rfl) (by simp) ?_
      refine AllReadyH.cons rfl (fun K hK => ?_) AllReadyH.nil
      go_simp
      go_at_call 16
      refine (works_any _).mono ?_
      rintro r wb ⟨rfl, hbb⟩
      go_wp2_with fail
      refine hK.out _ _ (VK.out _ (nx (And.left (b := _) hHeld) hbb)) (fun hHeld => ?_)
      clear hK K
      (try simp only [Act.put, List.setIfInBounds_toArray, List.set_cons_zero, List.set_cons_succ])
      refine' take_val (i := 31) (d := 74) (v := _) rfl rfl (by kernel_rfl) (by kernel_rfl) (by kernel_rfl) (fun _ _ _ h => h) (by rfl) ?_ (by assumption) ?_
      rotate_left
      · (intro w hSw; (try dsimp only at hSw); go_simp; (try with_reducible rfl))
      (try simp only [Act.put, List.setIfInBounds_toArray, List.set_cons_zero, List.set_cons_succ])
      refine' take_val (i := 32) (d := 4) (v := _) rfl rfl (by kernel_rfl) (by kernel_rfl) (by kernel_rfl) (fun _ _ _ h => h) (by rfl) ?_ (by assumption) ?_
      rotate_left
      · (intro w hSw; (try dsimp only at hSw); go_simp; (try with_reducible rfl))
      (try simp only [Act.put, List.setIfInBounds_toArray, List.set_cons_zero, List.set_cons_succ])
      refine wpAnyH_done (by kernel_rfl) ?_ _
      go_wp2_with fail
      go_ret
      exact ⟨rfl, nx hb (And.left (b := _) hHeld)⟩
end Go.Proofs.Ytnaijnbdhojhaaa
