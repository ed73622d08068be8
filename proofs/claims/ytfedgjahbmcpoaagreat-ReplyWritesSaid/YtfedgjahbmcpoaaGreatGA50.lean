/- The walk of the law ReplyWrites. No conditions. -/
import Derived.Test.YtfedgjahbmcpoaaGreatGA41
import Derived.Test.YtfedgjahbmcpoaaGreatGA39
import Derived.Test.YtfedgjahbmcpoaaGreatGA45
import Derived.Test.YtfedgjahbmcpoaaGreatGA47
import Derived.Test.YtfedgjahbmcpoaaGreatGA49
import Derived.Deep.DeepCutAuto
import Derived.Deep.RegionHeld3
set_option linter.unusedSimpArgs false
set_option linter.unusedVariables false
namespace Go.Proofs.YtfedgjahbmcpoaaGreat
open Go.RowKit

theorem ans_ats {w : World} {a : Ans} {u v x : Value} (h : AnL w a u v x) : ∀ s ∈ a.sn, (∀ b ∈ s.sp.ats, b.lab.p < 4294967296) ∧ s.sp.ats.length ≤ 2199023255552 := by
  obtain ⟨⟨A, c, _, h1⟩, _, _⟩ := h
  intro s hs
  obtain ⟨i, hi, rfl⟩ := List.getElem_of_mem hs
  obtain ⟨g, o, cs, _, _, B, m, d, _, hA⟩ := h1.at' i hi
  exact ⟨hA.pt, hA.lim⟩
set_option maxHeartbeats 64000000 in
set_option maxRecDepth 100000 in
theorem replyWrites_walk (a : Ans) (u v x : Value) (b : Ans) (u' v' x' : Value) (w : World) (hL : AnL w a u v x) (ho : AnsOk a) (hL' : AnL w b u' v' x') (ho' : AnsOk b) :
    Calls Tryz.prog 4 #[anV a u v x, anV b u' v' x'] w fun e w' => e = .returned (.bool true) ∧ Below w.heap.size w w' := by
  have HLp := Lib.hid hL
  have Hp0 := Lib.hid (hL).sm
  obtain ⟨A0, c0, e1, _⟩ := (hL).sn
  obtain ⟨B0, d0, e2, _⟩ := (hL).ce
  obtain ⟨D0, f0, e3, _⟩ := (hL).ed
  subst e1 e2 e3
  have HSp := Lib.hid (fun (w' : World) (hb : Below w.heap.size w w') => small_any (HLp.out.below hb))
  obtain ⟨p, ha'⟩ : ∃ a', a' = smA a := ⟨_, rfl⟩
  obtain ⟨u1, hu1⟩ : ∃ z, z = cut30 (.slice A0 a.sn.length c0) := ⟨_, rfl⟩
  obtain ⟨u2, hu2⟩ : ∃ z, z = cut30 (.slice B0 a.ce.length d0) := ⟨_, rfl⟩
  obtain ⟨u3, hu3⟩ : ∃ z, z = cut30 (.slice D0 a.ed.length f0) := ⟨_, rfl⟩
  rw [← ha', ← hu1, ← hu2, ← hu3] at Hp0 HSp
  have HNp := Lib.hid (show p.sn.length ≤ 100000 ∧ p.ce.length ≤ 100000 ∧ p.ed.length ≤ 100000 by rw [ha']; have := smA_len a; omega)
  clear ha' hu1 hu2 hu3
  have HPp := Lib.hid Hp0.out.pt
  obtain ⟨A1, c1, e1, _⟩ := Hp0.out.sn
  obtain ⟨B1, d1, e2, _⟩ := Hp0.out.ce
  obtain ⟨D1, f1, e3, _⟩ := Hp0.out.ed
  subst e1 e2 e3
  have Hp := Hp0
  clear Hp0
  unfold anV at HSp
  have HLr := Lib.hid hL'
  have Hr0 := Lib.hid (hL').sm
  obtain ⟨A2, c2, e1, _⟩ := (hL').sn
  obtain ⟨B2, d2, e2, _⟩ := (hL').ce
  obtain ⟨D2, f2, e3, _⟩ := (hL').ed
  subst e1 e2 e3
  have HSr := Lib.hid (fun (w' : World) (hb : Below w.heap.size w w') => small_any (HLr.out.below hb))
  obtain ⟨r, ha'⟩ : ∃ a', a' = smA b := ⟨_, rfl⟩
  obtain ⟨u1, hu1⟩ : ∃ z, z = cut30 (.slice A2 b.sn.length c2) := ⟨_, rfl⟩
  obtain ⟨u2, hu2⟩ : ∃ z, z = cut30 (.slice B2 b.ce.length d2) := ⟨_, rfl⟩
  obtain ⟨u3, hu3⟩ : ∃ z, z = cut30 (.slice D2 b.ed.length f2) := ⟨_, rfl⟩
  rw [← ha', ← hu1, ← hu2, ← hu3] at Hr0 HSr
  clear ha' hu1 hu2 hu3
  have HPr := Lib.hid Hr0.out.pt
  obtain ⟨A3, c3, e1, _⟩ := Hr0.out.sn
  obtain ⟨B3, d3, e2, _⟩ := Hr0.out.ce
  obtain ⟨D3, f3, e3, _⟩ := Hr0.out.ed
  subst e1 e2 e3
  have Hr := Hr0
  clear Hr0
  unfold anV at HSr
  clear hL ho hL' ho'
  unfold anV
  have hbx := nx (bel1 w (.cells #[.int .i64 a.er, .slice A0 a.sn.length c0, .int .i64 a.nx, .slice B0 a.ce.length d0, .slice D0 a.ed.length f0, .int .i64 a.lf] 29)) (bel1 (w.alloc (.cells #[.int .i64 a.er, .slice A0 a.sn.length c0, .int .i64 a.nx, .slice B0 a.ce.length d0, .slice D0 a.ed.length f0, .int .i64 a.lf] 29)) (.cells #[.int .i64 b.er, .slice A2 b.sn.length c2, .int .i64 b.nx, .slice B2 b.ce.length d2, .slice D2 b.ed.length f2, .int .i64 b.lf] 29))
  have X1 := blkB (heap_alloc_new w (.cells #[.int .i64 a.er, .slice A0 a.sn.length c0, .int .i64 a.nx, .slice B0 a.ce.length d0, .slice D0 a.ed.length f0, .int .i64 a.lf] 29)) (bel1 _ (.cells #[.int .i64 b.er, .slice A2 b.sn.length c2, .int .i64 b.nx, .slice B2 b.ce.length d2, .slice D2 b.ed.length f2, .int .i64 b.lf] 29))
  have X2 := heap_alloc_new (w.alloc (.cells #[.int .i64 a.er, .slice A0 a.sn.length c0, .int .i64 a.nx, .slice B0 a.ce.length d0, .slice D0 a.ed.length f0, .int .i64 a.lf] 29)) (.cells #[.int .i64 b.er, .slice A2 b.sn.length c2, .int .i64 b.nx, .slice B2 b.ce.length d2, .slice D2 b.ed.length f2, .int .i64 b.lf] 29)
  rw [World.size_alloc] at X2
  go_enter Tryz.func4, Tryz.ntmps4
  go_upto_region 1 with (fail)
  obtain ⟨W0, hW⟩ : ∃ W, W = (w.alloc (.cells #[.int .i64 a.er, .slice A0 a.sn.length c0, .int .i64 a.nx, .slice B0 a.ce.length d0, .slice D0 a.ed.length f0, .int .i64 a.lf] 29)).alloc (.cells #[.int .i64 b.er, .slice A2 b.sn.length c2, .int .i64 b.nx, .slice B2 b.ce.length d2, .slice D2 b.ed.length f2, .int .i64 b.lf] 29) := ⟨_, rfl⟩
  rw [← hW] at X1 X2 hbx ⊢
  obtain ⟨q2, hq2⟩ : ∃ q, q = w.heap.size + 1 := ⟨_, rfl⟩
  rw [← hq2] at X2 ⊢
  obtain ⟨q1, hq1⟩ : ∃ q, q = w.heap.size := ⟨_, rfl⟩
  rw [← hq1] at X1 ⊢
  have hne : q1 ≠ q2 := by omega
  have hleq1 : w.heap.size ≤ q1 := by omega
  have hleq2 : w.heap.size ≤ q2 := by omega
  have P0 := Lib.hid X1
  have R0 := Lib.hid X2
  have HB0 := Lib.hid hbx
  clear hW hq1 hq2 X1 X2 hbx
  go_cut [] (fun wx => Hid (wx.heap[q1]? = some (.cells #[.int .i64 p.er, .slice A1 p.sn.length c1, .int .i64 p.nx, .slice B1 p.ce.length d1, .slice D1 p.ed.length f1, .int .i64 p.lf] 29 (0, 0))) ∧ Hid (wx.heap[q2]? = some (.cells #[.int .i64 r.er, .slice A3 r.sn.length c3, .int .i64 r.nx, .slice B3 r.ce.length d3, .slice D3 r.ed.length f3, .int .i64 r.lf] 29 (0, 0))) ∧ Hid (Below w.heap.size w wx))
  case first =>
    refine wp_region_held_drew (S := (fun _ => True)) (by kernel_rfl) trivial (fun hHeld => ?_)
    have P1d := Lib.hid (blkB P0.out (bel0 W0).drew)
    have R1d := Lib.hid (blkB R0.out (bel0 W0).drew)
    have B1d := Lib.hid (nx HB0.out (bel0 W0).drew)
    obtain ⟨wd, hwd⟩ : ∃ W, W = W0.drew := ⟨_, rfl⟩
    rw [← hwd] at P1d R1d B1d ⊢
    clear hwd P0 R0 HB0
    refine wpAnyH_ready (rs := [0, 2]) (by kernel_rfl) (by simp) ?_
    refine AllReadyH.cons rfl (fun K hK => ?_) (AllReadyH.cons rfl (fun K hK => ?_) AllReadyH.nil)
    · skip
      obtain ⟨x0, x1, x2, x3, x4, x5⟩ := an_block P1d.out
      go_simp
      go_wp2_with fail
      refine hK.out _ _ trivial (fun _ => ?_)
      clear hK K
      clear x0 x1 x2 x3 x4 x5
      (try simp only [Act.put, List.getElem_toArray, List.getElem_cons_succ, List.getElem_cons_zero, List.setIfInBounds_toArray, List.set_cons_zero, List.set_cons_succ])
      refine wpAnyH_ready (rs := [1, 2]) (by kernel_rfl) (by simp) ?_
      refine AllReadyH.cons rfl (fun K hK => ?_) (AllReadyH.cons rfl (fun K hK => ?_) AllReadyH.nil)
      · skip
        go_simp
        go_at_call 11
        refine (HSp.out _ B1d.out).mono ?_
        rintro e t3 ⟨rfl, hb⟩
        have P3x := Lib.hid (blkB P1d.out hb)
        have R3x := Lib.hid (blkB R1d.out hb)
        have B3x := Lib.hid (nx B1d.out hb)
        clear hb
        go_wp2_with fail
        refine hK.out _ _ trivial (fun _ => ?_)
        clear hK K
        (try simp only [Act.put, List.getElem_toArray, List.getElem_cons_succ, List.getElem_cons_zero, List.setIfInBounds_toArray, List.set_cons_zero, List.set_cons_succ])
        refine wpAnyH_ready (rs := [2]) (by kernel_rfl) (by simp) ?_
        refine AllReadyH.cons rfl (fun K hK => ?_) AllReadyH.nil
        obtain ⟨x0, x1, x2, x3, x4, x5⟩ := an_block R3x.out
        go_simp
        go_wp2_with fail
        refine hK.out _ _ trivial (fun _ => ?_)
        clear hK K
        clear x0 x1 x2 x3 x4 x5
        (try simp only [Act.put, List.getElem_toArray, List.getElem_cons_succ, List.getElem_cons_zero, List.setIfInBounds_toArray, List.set_cons_zero, List.set_cons_succ])
        refine wpAnyH_ready (rs := [3]) (by kernel_rfl) (by simp) ?_
        refine AllReadyH.cons rfl (fun K hK => ?_) AllReadyH.nil
        go_simp
        go_at_call 11
        refine (HSr.out _ B3x.out).mono ?_
        rintro e t5 ⟨rfl, hb⟩
        have P5x := Lib.hid (blkB P3x.out hb)
        have R5x := Lib.hid (blkB R3x.out hb)
        have B5x := Lib.hid (nx B3x.out hb)
        clear hb
        go_wp2_with fail
        refine hK.out _ _ trivial (fun _ => ?_)
        clear hK K
        (try simp only [Act.put, List.getElem_toArray, List.getElem_cons_succ, List.getElem_cons_zero, List.setIfInBounds_toArray, List.set_cons_zero, List.set_cons_succ])
        refine wpAnyH_ready (rs := [4]) (by kernel_rfl) (by simp) ?_
        refine AllReadyH.cons rfl (fun K hK => ?_) AllReadyH.nil
        obtain ⟨x0, x1, x2, x3, x4, x5⟩ := an_block P5x.out
        have g0 := frozen_of P5x.out 0
        have g1 := frozen_of P5x.out 1
        have g2 := frozen_of P5x.out 2
        have g3 := frozen_of P5x.out 3
        have g4 := frozen_of P5x.out 4
        have g5 := frozen_of P5x.out 5
        go_simp
        go_wp2_with fail
        obtain ⟨T6, hW⟩ : ∃ W, W = ((((((t5.setCell ⟨q1, 0, none⟩ (.int .i64 p.er)).setCell ⟨q1, 1, none⟩ (.slice A1 p.sn.length c1)).setCell ⟨q1, 2, none⟩ (.int .i64 p.nx)).setCell ⟨q1, 3, none⟩ (.slice B1 p.ce.length d1)).setCell ⟨q1, 4, none⟩ (.slice D1 p.ed.length f1)).setCell ⟨q1, 5, none⟩ (.int .i64 p.lf)) := ⟨_, rfl⟩
        have P6x := Lib.hid (show T6.heap[q1]? = some (.cells #[.int .i64 p.er, .slice A1 p.sn.length c1, .int .i64 p.nx, .slice B1 p.ce.length d1, .slice D1 p.ed.length f1, .int .i64 p.lf] 29 (0, 0)) by rw [hW]; exact (heap_set (heap_set (heap_set (heap_set (heap_set (heap_set P5x.out 0 _) 1 _) 2 _) 3 _) 4 _) 5 _))
        have R6x := Lib.hid (show T6.heap[q2]? = some _ by rw [hW]; exact ((Below.heap_setCell (((((t5.setCell ⟨q1, 0, none⟩ (.int .i64 p.er)).setCell ⟨q1, 1, none⟩ (.slice A1 p.sn.length c1)).setCell ⟨q1, 2, none⟩ (.int .i64 p.nx)).setCell ⟨q1, 3, none⟩ (.slice B1 p.ce.length d1)).setCell ⟨q1, 4, none⟩ (.slice D1 p.ed.length f1)) ⟨q1, 5, none⟩ (.int .i64 p.lf) q2 (by show q2 ≠ q1; omega)).trans ((Below.heap_setCell ((((t5.setCell ⟨q1, 0, none⟩ (.int .i64 p.er)).setCell ⟨q1, 1, none⟩ (.slice A1 p.sn.length c1)).setCell ⟨q1, 2, none⟩ (.int .i64 p.nx)).setCell ⟨q1, 3, none⟩ (.slice B1 p.ce.length d1)) ⟨q1, 4, none⟩ (.slice D1 p.ed.length f1) q2 (by show q2 ≠ q1; omega)).trans ((Below.heap_setCell (((t5.setCell ⟨q1, 0, none⟩ (.int .i64 p.er)).setCell ⟨q1, 1, none⟩ (.slice A1 p.sn.length c1)).setCell ⟨q1, 2, none⟩ (.int .i64 p.nx)) ⟨q1, 3, none⟩ (.slice B1 p.ce.length d1) q2 (by show q2 ≠ q1; omega)).trans ((Below.heap_setCell ((t5.setCell ⟨q1, 0, none⟩ (.int .i64 p.er)).setCell ⟨q1, 1, none⟩ (.slice A1 p.sn.length c1)) ⟨q1, 2, none⟩ (.int .i64 p.nx) q2 (by show q2 ≠ q1; omega)).trans ((Below.heap_setCell (t5.setCell ⟨q1, 0, none⟩ (.int .i64 p.er)) ⟨q1, 1, none⟩ (.slice A1 p.sn.length c1) q2 (by show q2 ≠ q1; omega)).trans ((Below.heap_setCell t5 ⟨q1, 0, none⟩ (.int .i64 p.er) q2 (by show q2 ≠ q1; omega)).trans R5x.out)))))))
        have B6x := Lib.hid (show Below w.heap.size w T6 by rw [hW]; exact ((((((B5x.out.setCell (p := ⟨q1, 0, none⟩) hleq1 _).setCell (p := ⟨q1, 1, none⟩) hleq1 _).setCell (p := ⟨q1, 2, none⟩) hleq1 _).setCell (p := ⟨q1, 3, none⟩) hleq1 _).setCell (p := ⟨q1, 4, none⟩) hleq1 _).setCell (p := ⟨q1, 5, none⟩) hleq1 _))
        rw [← hW]
        clear hW
        clear x0 x1 x2 x3 x4 x5
        clear g0 g1 g2 g3 g4 g5
        refine hK.out _ _ trivial (fun _ => ?_)
        clear hK K
        (try simp only [Act.put, List.getElem_toArray, List.getElem_cons_succ, List.getElem_cons_zero, List.setIfInBounds_toArray, List.set_cons_zero, List.set_cons_succ])
        refine wpAnyH_ready (rs := [5]) (by kernel_rfl) (by simp) ?_
        refine AllReadyH.cons rfl (fun K hK => ?_) AllReadyH.nil
        obtain ⟨x0, x1, x2, x3, x4, x5⟩ := an_block R6x.out
        have g0 := frozen_of R6x.out 0
        have g1 := frozen_of R6x.out 1
        have g2 := frozen_of R6x.out 2
        have g3 := frozen_of R6x.out 3
        have g4 := frozen_of R6x.out 4
        have g5 := frozen_of R6x.out 5
        go_simp
        go_wp2_with fail
        obtain ⟨T7, hW⟩ : ∃ W, W = ((((((T6.setCell ⟨q2, 0, none⟩ (.int .i64 r.er)).setCell ⟨q2, 1, none⟩ (.slice A3 r.sn.length c3)).setCell ⟨q2, 2, none⟩ (.int .i64 r.nx)).setCell ⟨q2, 3, none⟩ (.slice B3 r.ce.length d3)).setCell ⟨q2, 4, none⟩ (.slice D3 r.ed.length f3)).setCell ⟨q2, 5, none⟩ (.int .i64 r.lf)) := ⟨_, rfl⟩
        have R7x := Lib.hid (show T7.heap[q2]? = some (.cells #[.int .i64 r.er, .slice A3 r.sn.length c3, .int .i64 r.nx, .slice B3 r.ce.length d3, .slice D3 r.ed.length f3, .int .i64 r.lf] 29 (0, 0)) by rw [hW]; exact (heap_set (heap_set (heap_set (heap_set (heap_set (heap_set R6x.out 0 _) 1 _) 2 _) 3 _) 4 _) 5 _))
        have P7x := Lib.hid (show T7.heap[q1]? = some _ by rw [hW]; exact ((Below.heap_setCell (((((T6.setCell ⟨q2, 0, none⟩ (.int .i64 r.er)).setCell ⟨q2, 1, none⟩ (.slice A3 r.sn.length c3)).setCell ⟨q2, 2, none⟩ (.int .i64 r.nx)).setCell ⟨q2, 3, none⟩ (.slice B3 r.ce.length d3)).setCell ⟨q2, 4, none⟩ (.slice D3 r.ed.length f3)) ⟨q2, 5, none⟩ (.int .i64 r.lf) q1 (by show q1 ≠ q2; omega)).trans ((Below.heap_setCell ((((T6.setCell ⟨q2, 0, none⟩ (.int .i64 r.er)).setCell ⟨q2, 1, none⟩ (.slice A3 r.sn.length c3)).setCell ⟨q2, 2, none⟩ (.int .i64 r.nx)).setCell ⟨q2, 3, none⟩ (.slice B3 r.ce.length d3)) ⟨q2, 4, none⟩ (.slice D3 r.ed.length f3) q1 (by show q1 ≠ q2; omega)).trans ((Below.heap_setCell (((T6.setCell ⟨q2, 0, none⟩ (.int .i64 r.er)).setCell ⟨q2, 1, none⟩ (.slice A3 r.sn.length c3)).setCell ⟨q2, 2, none⟩ (.int .i64 r.nx)) ⟨q2, 3, none⟩ (.slice B3 r.ce.length d3) q1 (by show q1 ≠ q2; omega)).trans ((Below.heap_setCell ((T6.setCell ⟨q2, 0, none⟩ (.int .i64 r.er)).setCell ⟨q2, 1, none⟩ (.slice A3 r.sn.length c3)) ⟨q2, 2, none⟩ (.int .i64 r.nx) q1 (by show q1 ≠ q2; omega)).trans ((Below.heap_setCell (T6.setCell ⟨q2, 0, none⟩ (.int .i64 r.er)) ⟨q2, 1, none⟩ (.slice A3 r.sn.length c3) q1 (by show q1 ≠ q2; omega)).trans ((Below.heap_setCell T6 ⟨q2, 0, none⟩ (.int .i64 r.er) q1 (by show q1 ≠ q2; omega)).trans P6x.out)))))))
        have B7x := Lib.hid (show Below w.heap.size w T7 by rw [hW]; exact ((((((B6x.out.setCell (p := ⟨q2, 0, none⟩) hleq2 _).setCell (p := ⟨q2, 1, none⟩) hleq2 _).setCell (p := ⟨q2, 2, none⟩) hleq2 _).setCell (p := ⟨q2, 3, none⟩) hleq2 _).setCell (p := ⟨q2, 4, none⟩) hleq2 _).setCell (p := ⟨q2, 5, none⟩) hleq2 _))
        rw [← hW]
        clear hW
        clear x0 x1 x2 x3 x4 x5
        clear g0 g1 g2 g3 g4 g5
        refine hK.out _ _ trivial (fun _ => ?_)
        clear hK K
        (try simp only [Act.put, List.getElem_toArray, List.getElem_cons_succ, List.getElem_cons_zero, List.setIfInBounds_toArray, List.set_cons_zero, List.set_cons_succ])
        refine wpAnyH_done (by kernel_rfl) ?_ _
        go_wp2_with fail
        go_meet
        exact ⟨P7x, R7x, B7x⟩
      · skip
        obtain ⟨x0, x1, x2, x3, x4, x5⟩ := an_block R1d.out
        go_simp
        go_wp2_with fail
        refine hK.out _ _ trivial (fun _ => ?_)
        clear hK K
        clear x0 x1 x2 x3 x4 x5
        (try simp only [Act.put, List.getElem_toArray, List.getElem_cons_succ, List.getElem_cons_zero, List.setIfInBounds_toArray, List.set_cons_zero, List.set_cons_succ])
        refine wpAnyH_ready (rs := [1]) (by kernel_rfl) (by simp) ?_
        refine AllReadyH.cons rfl (fun K hK => ?_) AllReadyH.nil
        go_simp
        go_at_call 11
        refine (HSp.out _ B1d.out).mono ?_
        rintro e t4 ⟨rfl, hb⟩
        have P4x := Lib.hid (blkB P1d.out hb)
        have R4x := Lib.hid (blkB R1d.out hb)
        have B4x := Lib.hid (nx B1d.out hb)
        clear hb
        go_wp2_with fail
        refine hK.out _ _ trivial (fun _ => ?_)
        clear hK K
        (try simp only [Act.put, List.getElem_toArray, List.getElem_cons_succ, List.getElem_cons_zero, List.setIfInBounds_toArray, List.set_cons_zero, List.set_cons_succ])
        refine wpAnyH_ready (rs := [3]) (by kernel_rfl) (by simp) ?_
        refine AllReadyH.cons rfl (fun K hK => ?_) AllReadyH.nil
        go_simp
        go_at_call 11
        refine (HSr.out _ B4x.out).mono ?_
        rintro e t5 ⟨rfl, hb⟩
        have P5x := Lib.hid (blkB P4x.out hb)
        have R5x := Lib.hid (blkB R4x.out hb)
        have B5x := Lib.hid (nx B4x.out hb)
        clear hb
        go_wp2_with fail
        refine hK.out _ _ trivial (fun _ => ?_)
        clear hK K
        (try simp only [Act.put, List.getElem_toArray, List.getElem_cons_succ, List.getElem_cons_zero, List.setIfInBounds_toArray, List.set_cons_zero, List.set_cons_succ])
        refine wpAnyH_ready (rs := [4]) (by kernel_rfl) (by simp) ?_
        refine AllReadyH.cons rfl (fun K hK => ?_) AllReadyH.nil
        obtain ⟨x0, x1, x2, x3, x4, x5⟩ := an_block P5x.out
        have g0 := frozen_of P5x.out 0
        have g1 := frozen_of P5x.out 1
        have g2 := frozen_of P5x.out 2
        have g3 := frozen_of P5x.out 3
        have g4 := frozen_of P5x.out 4
        have g5 := frozen_of P5x.out 5
        go_simp
        go_wp2_with fail
        obtain ⟨T6, hW⟩ : ∃ W, W = ((((((t5.setCell ⟨q1, 0, none⟩ (.int .i64 p.er)).setCell ⟨q1, 1, none⟩ (.slice A1 p.sn.length c1)).setCell ⟨q1, 2, none⟩ (.int .i64 p.nx)).setCell ⟨q1, 3, none⟩ (.slice B1 p.ce.length d1)).setCell ⟨q1, 4, none⟩ (.slice D1 p.ed.length f1)).setCell ⟨q1, 5, none⟩ (.int .i64 p.lf)) := ⟨_, rfl⟩
        have P6x := Lib.hid (show T6.heap[q1]? = some (.cells #[.int .i64 p.er, .slice A1 p.sn.length c1, .int .i64 p.nx, .slice B1 p.ce.length d1, .slice D1 p.ed.length f1, .int .i64 p.lf] 29 (0, 0)) by rw [hW]; exact (heap_set (heap_set (heap_set (heap_set (heap_set (heap_set P5x.out 0 _) 1 _) 2 _) 3 _) 4 _) 5 _))
        have R6x := Lib.hid (show T6.heap[q2]? = some _ by rw [hW]; exact ((Below.heap_setCell (((((t5.setCell ⟨q1, 0, none⟩ (.int .i64 p.er)).setCell ⟨q1, 1, none⟩ (.slice A1 p.sn.length c1)).setCell ⟨q1, 2, none⟩ (.int .i64 p.nx)).setCell ⟨q1, 3, none⟩ (.slice B1 p.ce.length d1)).setCell ⟨q1, 4, none⟩ (.slice D1 p.ed.length f1)) ⟨q1, 5, none⟩ (.int .i64 p.lf) q2 (by show q2 ≠ q1; omega)).trans ((Below.heap_setCell ((((t5.setCell ⟨q1, 0, none⟩ (.int .i64 p.er)).setCell ⟨q1, 1, none⟩ (.slice A1 p.sn.length c1)).setCell ⟨q1, 2, none⟩ (.int .i64 p.nx)).setCell ⟨q1, 3, none⟩ (.slice B1 p.ce.length d1)) ⟨q1, 4, none⟩ (.slice D1 p.ed.length f1) q2 (by show q2 ≠ q1; omega)).trans ((Below.heap_setCell (((t5.setCell ⟨q1, 0, none⟩ (.int .i64 p.er)).setCell ⟨q1, 1, none⟩ (.slice A1 p.sn.length c1)).setCell ⟨q1, 2, none⟩ (.int .i64 p.nx)) ⟨q1, 3, none⟩ (.slice B1 p.ce.length d1) q2 (by show q2 ≠ q1; omega)).trans ((Below.heap_setCell ((t5.setCell ⟨q1, 0, none⟩ (.int .i64 p.er)).setCell ⟨q1, 1, none⟩ (.slice A1 p.sn.length c1)) ⟨q1, 2, none⟩ (.int .i64 p.nx) q2 (by show q2 ≠ q1; omega)).trans ((Below.heap_setCell (t5.setCell ⟨q1, 0, none⟩ (.int .i64 p.er)) ⟨q1, 1, none⟩ (.slice A1 p.sn.length c1) q2 (by show q2 ≠ q1; omega)).trans ((Below.heap_setCell t5 ⟨q1, 0, none⟩ (.int .i64 p.er) q2 (by show q2 ≠ q1; omega)).trans R5x.out)))))))
        have B6x := Lib.hid (show Below w.heap.size w T6 by rw [hW]; exact ((((((B5x.out.setCell (p := ⟨q1, 0, none⟩) hleq1 _).setCell (p := ⟨q1, 1, none⟩) hleq1 _).setCell (p := ⟨q1, 2, none⟩) hleq1 _).setCell (p := ⟨q1, 3, none⟩) hleq1 _).setCell (p := ⟨q1, 4, none⟩) hleq1 _).setCell (p := ⟨q1, 5, none⟩) hleq1 _))
        rw [← hW]
        clear hW
        clear x0 x1 x2 x3 x4 x5
        clear g0 g1 g2 g3 g4 g5
        refine hK.out _ _ trivial (fun _ => ?_)
        clear hK K
        (try simp only [Act.put, List.getElem_toArray, List.getElem_cons_succ, List.getElem_cons_zero, List.setIfInBounds_toArray, List.set_cons_zero, List.set_cons_succ])
        refine wpAnyH_ready (rs := [5]) (by kernel_rfl) (by simp) ?_
        refine AllReadyH.cons rfl (fun K hK => ?_) AllReadyH.nil
        obtain ⟨x0, x1, x2, x3, x4, x5⟩ := an_block R6x.out
        have g0 := frozen_of R6x.out 0
        have g1 := frozen_of R6x.out 1
        have g2 := frozen_of R6x.out 2
        have g3 := frozen_of R6x.out 3
        have g4 := frozen_of R6x.out 4
        have g5 := frozen_of R6x.out 5
        go_simp
        go_wp2_with fail
        obtain ⟨T7, hW⟩ : ∃ W, W = ((((((T6.setCell ⟨q2, 0, none⟩ (.int .i64 r.er)).setCell ⟨q2, 1, none⟩ (.slice A3 r.sn.length c3)).setCell ⟨q2, 2, none⟩ (.int .i64 r.nx)).setCell ⟨q2, 3, none⟩ (.slice B3 r.ce.length d3)).setCell ⟨q2, 4, none⟩ (.slice D3 r.ed.length f3)).setCell ⟨q2, 5, none⟩ (.int .i64 r.lf)) := ⟨_, rfl⟩
        have R7x := Lib.hid (show T7.heap[q2]? = some (.cells #[.int .i64 r.er, .slice A3 r.sn.length c3, .int .i64 r.nx, .slice B3 r.ce.length d3, .slice D3 r.ed.length f3, .int .i64 r.lf] 29 (0, 0)) by rw [hW]; exact (heap_set (heap_set (heap_set (heap_set (heap_set (heap_set R6x.out 0 _) 1 _) 2 _) 3 _) 4 _) 5 _))
        have P7x := Lib.hid (show T7.heap[q1]? = some _ by rw [hW]; exact ((Below.heap_setCell (((((T6.setCell ⟨q2, 0, none⟩ (.int .i64 r.er)).setCell ⟨q2, 1, none⟩ (.slice A3 r.sn.length c3)).setCell ⟨q2, 2, none⟩ (.int .i64 r.nx)).setCell ⟨q2, 3, none⟩ (.slice B3 r.ce.length d3)).setCell ⟨q2, 4, none⟩ (.slice D3 r.ed.length f3)) ⟨q2, 5, none⟩ (.int .i64 r.lf) q1 (by show q1 ≠ q2; omega)).trans ((Below.heap_setCell ((((T6.setCell ⟨q2, 0, none⟩ (.int .i64 r.er)).setCell ⟨q2, 1, none⟩ (.slice A3 r.sn.length c3)).setCell ⟨q2, 2, none⟩ (.int .i64 r.nx)).setCell ⟨q2, 3, none⟩ (.slice B3 r.ce.length d3)) ⟨q2, 4, none⟩ (.slice D3 r.ed.length f3) q1 (by show q1 ≠ q2; omega)).trans ((Below.heap_setCell (((T6.setCell ⟨q2, 0, none⟩ (.int .i64 r.er)).setCell ⟨q2, 1, none⟩ (.slice A3 r.sn.length c3)).setCell ⟨q2, 2, none⟩ (.int .i64 r.nx)) ⟨q2, 3, none⟩ (.slice B3 r.ce.length d3) q1 (by show q1 ≠ q2; omega)).trans ((Below.heap_setCell ((T6.setCell ⟨q2, 0, none⟩ (.int .i64 r.er)).setCell ⟨q2, 1, none⟩ (.slice A3 r.sn.length c3)) ⟨q2, 2, none⟩ (.int .i64 r.nx) q1 (by show q1 ≠ q2; omega)).trans ((Below.heap_setCell (T6.setCell ⟨q2, 0, none⟩ (.int .i64 r.er)) ⟨q2, 1, none⟩ (.slice A3 r.sn.length c3) q1 (by show q1 ≠ q2; omega)).trans ((Below.heap_setCell T6 ⟨q2, 0, none⟩ (.int .i64 r.er) q1 (by show q1 ≠ q2; omega)).trans P6x.out)))))))
        have B7x := Lib.hid (show Below w.heap.size w T7 by rw [hW]; exact ((((((B6x.out.setCell (p := ⟨q2, 0, none⟩) hleq2 _).setCell (p := ⟨q2, 1, none⟩) hleq2 _).setCell (p := ⟨q2, 2, none⟩) hleq2 _).setCell (p := ⟨q2, 3, none⟩) hleq2 _).setCell (p := ⟨q2, 4, none⟩) hleq2 _).setCell (p := ⟨q2, 5, none⟩) hleq2 _))
        rw [← hW]
        clear hW
        clear x0 x1 x2 x3 x4 x5
        clear g0 g1 g2 g3 g4 g5
        refine hK.out _ _ trivial (fun _ => ?_)
        clear hK K
        (try simp only [Act.put, List.getElem_toArray, List.getElem_cons_succ, List.getElem_cons_zero, List.setIfInBounds_toArray, List.set_cons_zero, List.set_cons_succ])
        refine wpAnyH_done (by kernel_rfl) ?_ _
        go_wp2_with fail
        go_meet
        exact ⟨P7x, R7x, B7x⟩
    · skip
      obtain ⟨x0, x1, x2, x3, x4, x5⟩ := an_block R1d.out
      go_simp
      go_wp2_with fail
      refine hK.out _ _ trivial (fun _ => ?_)
      clear hK K
      clear x0 x1 x2 x3 x4 x5
      (try simp only [Act.put, List.getElem_toArray, List.getElem_cons_succ, List.getElem_cons_zero, List.setIfInBounds_toArray, List.set_cons_zero, List.set_cons_succ])
      refine wpAnyH_ready (rs := [0]) (by kernel_rfl) (by simp) ?_
      refine AllReadyH.cons rfl (fun K hK => ?_) AllReadyH.nil
      obtain ⟨x0, x1, x2, x3, x4, x5⟩ := an_block P1d.out
      go_simp
      go_wp2_with fail
      refine hK.out _ _ trivial (fun _ => ?_)
      clear hK K
      clear x0 x1 x2 x3 x4 x5
      (try simp only [Act.put, List.getElem_toArray, List.getElem_cons_succ, List.getElem_cons_zero, List.setIfInBounds_toArray, List.set_cons_zero, List.set_cons_succ])
      refine wpAnyH_ready (rs := [1]) (by kernel_rfl) (by simp) ?_
      refine AllReadyH.cons rfl (fun K hK => ?_) AllReadyH.nil
      go_simp
      go_at_call 11
      refine (HSp.out _ B1d.out).mono ?_
      rintro e t4 ⟨rfl, hb⟩
      have P4x := Lib.hid (blkB P1d.out hb)
      have R4x := Lib.hid (blkB R1d.out hb)
      have B4x := Lib.hid (nx B1d.out hb)
      clear hb
      go_wp2_with fail
      refine hK.out _ _ trivial (fun _ => ?_)
      clear hK K
      (try simp only [Act.put, List.getElem_toArray, List.getElem_cons_succ, List.getElem_cons_zero, List.setIfInBounds_toArray, List.set_cons_zero, List.set_cons_succ])
      refine wpAnyH_ready (rs := [3]) (by kernel_rfl) (by simp) ?_
      refine AllReadyH.cons rfl (fun K hK => ?_) AllReadyH.nil
      go_simp
      go_at_call 11
      refine (HSr.out _ B4x.out).mono ?_
      rintro e t5 ⟨rfl, hb⟩
      have P5x := Lib.hid (blkB P4x.out hb)
      have R5x := Lib.hid (blkB R4x.out hb)
      have B5x := Lib.hid (nx B4x.out hb)
      clear hb
      go_wp2_with fail
      refine hK.out _ _ trivial (fun _ => ?_)
      clear hK K
      (try simp only [Act.put, List.getElem_toArray, List.getElem_cons_succ, List.getElem_cons_zero, List.setIfInBounds_toArray, List.set_cons_zero, List.set_cons_succ])
      refine wpAnyH_ready (rs := [4]) (by kernel_rfl) (by simp) ?_
      refine AllReadyH.cons rfl (fun K hK => ?_) AllReadyH.nil
      obtain ⟨x0, x1, x2, x3, x4, x5⟩ := an_block P5x.out
      have g0 := frozen_of P5x.out 0
      have g1 := frozen_of P5x.out 1
      have g2 := frozen_of P5x.out 2
      have g3 := frozen_of P5x.out 3
      have g4 := frozen_of P5x.out 4
      have g5 := frozen_of P5x.out 5
      go_simp
      go_wp2_with fail
      obtain ⟨T6, hW⟩ : ∃ W, W = ((((((t5.setCell ⟨q1, 0, none⟩ (.int .i64 p.er)).setCell ⟨q1, 1, none⟩ (.slice A1 p.sn.length c1)).setCell ⟨q1, 2, none⟩ (.int .i64 p.nx)).setCell ⟨q1, 3, none⟩ (.slice B1 p.ce.length d1)).setCell ⟨q1, 4, none⟩ (.slice D1 p.ed.length f1)).setCell ⟨q1, 5, none⟩ (.int .i64 p.lf)) := ⟨_, rfl⟩
      have P6x := Lib.hid (show T6.heap[q1]? = some (.cells #[.int .i64 p.er, .slice A1 p.sn.length c1, .int .i64 p.nx, .slice B1 p.ce.length d1, .slice D1 p.ed.length f1, .int .i64 p.lf] 29 (0, 0)) by rw [hW]; exact (heap_set (heap_set (heap_set (heap_set (heap_set (heap_set P5x.out 0 _) 1 _) 2 _) 3 _) 4 _) 5 _))
      have R6x := Lib.hid (show T6.heap[q2]? = some _ by rw [hW]; exact ((Below.heap_setCell (((((t5.setCell ⟨q1, 0, none⟩ (.int .i64 p.er)).setCell ⟨q1, 1, none⟩ (.slice A1 p.sn.length c1)).setCell ⟨q1, 2, none⟩ (.int .i64 p.nx)).setCell ⟨q1, 3, none⟩ (.slice B1 p.ce.length d1)).setCell ⟨q1, 4, none⟩ (.slice D1 p.ed.length f1)) ⟨q1, 5, none⟩ (.int .i64 p.lf) q2 (by show q2 ≠ q1; omega)).trans ((Below.heap_setCell ((((t5.setCell ⟨q1, 0, none⟩ (.int .i64 p.er)).setCell ⟨q1, 1, none⟩ (.slice A1 p.sn.length c1)).setCell ⟨q1, 2, none⟩ (.int .i64 p.nx)).setCell ⟨q1, 3, none⟩ (.slice B1 p.ce.length d1)) ⟨q1, 4, none⟩ (.slice D1 p.ed.length f1) q2 (by show q2 ≠ q1; omega)).trans ((Below.heap_setCell (((t5.setCell ⟨q1, 0, none⟩ (.int .i64 p.er)).setCell ⟨q1, 1, none⟩ (.slice A1 p.sn.length c1)).setCell ⟨q1, 2, none⟩ (.int .i64 p.nx)) ⟨q1, 3, none⟩ (.slice B1 p.ce.length d1) q2 (by show q2 ≠ q1; omega)).trans ((Below.heap_setCell ((t5.setCell ⟨q1, 0, none⟩ (.int .i64 p.er)).setCell ⟨q1, 1, none⟩ (.slice A1 p.sn.length c1)) ⟨q1, 2, none⟩ (.int .i64 p.nx) q2 (by show q2 ≠ q1; omega)).trans ((Below.heap_setCell (t5.setCell ⟨q1, 0, none⟩ (.int .i64 p.er)) ⟨q1, 1, none⟩ (.slice A1 p.sn.length c1) q2 (by show q2 ≠ q1; omega)).trans ((Below.heap_setCell t5 ⟨q1, 0, none⟩ (.int .i64 p.er) q2 (by show q2 ≠ q1; omega)).trans R5x.out)))))))
      have B6x := Lib.hid (show Below w.heap.size w T6 by rw [hW]; exact ((((((B5x.out.setCell (p := ⟨q1, 0, none⟩) hleq1 _).setCell (p := ⟨q1, 1, none⟩) hleq1 _).setCell (p := ⟨q1, 2, none⟩) hleq1 _).setCell (p := ⟨q1, 3, none⟩) hleq1 _).setCell (p := ⟨q1, 4, none⟩) hleq1 _).setCell (p := ⟨q1, 5, none⟩) hleq1 _))
      rw [← hW]
      clear hW
      clear x0 x1 x2 x3 x4 x5
      clear g0 g1 g2 g3 g4 g5
      refine hK.out _ _ trivial (fun _ => ?_)
      clear hK K
      (try simp only [Act.put, List.getElem_toArray, List.getElem_cons_succ, List.getElem_cons_zero, List.setIfInBounds_toArray, List.set_cons_zero, List.set_cons_succ])
      refine wpAnyH_ready (rs := [5]) (by kernel_rfl) (by simp) ?_
      refine AllReadyH.cons rfl (fun K hK => ?_) AllReadyH.nil
      obtain ⟨x0, x1, x2, x3, x4, x5⟩ := an_block R6x.out
      have g0 := frozen_of R6x.out 0
      have g1 := frozen_of R6x.out 1
      have g2 := frozen_of R6x.out 2
      have g3 := frozen_of R6x.out 3
      have g4 := frozen_of R6x.out 4
      have g5 := frozen_of R6x.out 5
      go_simp
      go_wp2_with fail
      obtain ⟨T7, hW⟩ : ∃ W, W = ((((((T6.setCell ⟨q2, 0, none⟩ (.int .i64 r.er)).setCell ⟨q2, 1, none⟩ (.slice A3 r.sn.length c3)).setCell ⟨q2, 2, none⟩ (.int .i64 r.nx)).setCell ⟨q2, 3, none⟩ (.slice B3 r.ce.length d3)).setCell ⟨q2, 4, none⟩ (.slice D3 r.ed.length f3)).setCell ⟨q2, 5, none⟩ (.int .i64 r.lf)) := ⟨_, rfl⟩
      have R7x := Lib.hid (show T7.heap[q2]? = some (.cells #[.int .i64 r.er, .slice A3 r.sn.length c3, .int .i64 r.nx, .slice B3 r.ce.length d3, .slice D3 r.ed.length f3, .int .i64 r.lf] 29 (0, 0)) by rw [hW]; exact (heap_set (heap_set (heap_set (heap_set (heap_set (heap_set R6x.out 0 _) 1 _) 2 _) 3 _) 4 _) 5 _))
      have P7x := Lib.hid (show T7.heap[q1]? = some _ by rw [hW]; exact ((Below.heap_setCell (((((T6.setCell ⟨q2, 0, none⟩ (.int .i64 r.er)).setCell ⟨q2, 1, none⟩ (.slice A3 r.sn.length c3)).setCell ⟨q2, 2, none⟩ (.int .i64 r.nx)).setCell ⟨q2, 3, none⟩ (.slice B3 r.ce.length d3)).setCell ⟨q2, 4, none⟩ (.slice D3 r.ed.length f3)) ⟨q2, 5, none⟩ (.int .i64 r.lf) q1 (by show q1 ≠ q2; omega)).trans ((Below.heap_setCell ((((T6.setCell ⟨q2, 0, none⟩ (.int .i64 r.er)).setCell ⟨q2, 1, none⟩ (.slice A3 r.sn.length c3)).setCell ⟨q2, 2, none⟩ (.int .i64 r.nx)).setCell ⟨q2, 3, none⟩ (.slice B3 r.ce.length d3)) ⟨q2, 4, none⟩ (.slice D3 r.ed.length f3) q1 (by show q1 ≠ q2; omega)).trans ((Below.heap_setCell (((T6.setCell ⟨q2, 0, none⟩ (.int .i64 r.er)).setCell ⟨q2, 1, none⟩ (.slice A3 r.sn.length c3)).setCell ⟨q2, 2, none⟩ (.int .i64 r.nx)) ⟨q2, 3, none⟩ (.slice B3 r.ce.length d3) q1 (by show q1 ≠ q2; omega)).trans ((Below.heap_setCell ((T6.setCell ⟨q2, 0, none⟩ (.int .i64 r.er)).setCell ⟨q2, 1, none⟩ (.slice A3 r.sn.length c3)) ⟨q2, 2, none⟩ (.int .i64 r.nx) q1 (by show q1 ≠ q2; omega)).trans ((Below.heap_setCell (T6.setCell ⟨q2, 0, none⟩ (.int .i64 r.er)) ⟨q2, 1, none⟩ (.slice A3 r.sn.length c3) q1 (by show q1 ≠ q2; omega)).trans ((Below.heap_setCell T6 ⟨q2, 0, none⟩ (.int .i64 r.er) q1 (by show q1 ≠ q2; omega)).trans P6x.out)))))))
      have B7x := Lib.hid (show Below w.heap.size w T7 by rw [hW]; exact ((((((B6x.out.setCell (p := ⟨q2, 0, none⟩) hleq2 _).setCell (p := ⟨q2, 1, none⟩) hleq2 _).setCell (p := ⟨q2, 2, none⟩) hleq2 _).setCell (p := ⟨q2, 3, none⟩) hleq2 _).setCell (p := ⟨q2, 4, none⟩) hleq2 _).setCell (p := ⟨q2, 5, none⟩) hleq2 _))
      rw [← hW]
      clear hW
      clear x0 x1 x2 x3 x4 x5
      clear g0 g1 g2 g3 g4 g5
      refine hK.out _ _ trivial (fun _ => ?_)
      clear hK K
      (try simp only [Act.put, List.getElem_toArray, List.getElem_cons_succ, List.getElem_cons_zero, List.setIfInBounds_toArray, List.set_cons_zero, List.set_cons_succ])
      refine wpAnyH_done (by kernel_rfl) ?_ _
      go_wp2_with fail
      go_meet
      exact ⟨P7x, R7x, B7x⟩
  case rest =>
    clear P0 R0 HB0 HSp HSr HLp HLr
    obtain ⟨P1, R1, HB1⟩ := hcut
    obtain ⟨x0, x1, x2, x3, x4, x5⟩ := an_block P1.out
    go_wp2_with fail
    refine (refAnCopy_any (Hp.out.below HB1.out) HNp.out).mono ?_
    rintro e w2 ⟨u5, v5, z5, rfl, hA, hb⟩
    have HA2 := Lib.hid (hA.l (ans_ats Hp.out) (by have := HNp.out; omega) (by have := HNp.out; omega) (by have := HNp.out; omega))
    have P2 := Lib.hid (blkB P1.out hb)
    have R2 := Lib.hid (blkB R1.out hb)
    have HB2 := Lib.hid (nx HB1.out hb)
    obtain ⟨A5, c5, e1, _⟩ := HA2.out.sn
    obtain ⟨B5, d5, e2, _⟩ := HA2.out.ce
    obtain ⟨D5, f5, e3, _⟩ := HA2.out.ed
    subst e1 e2 e3
    unfold anV
    clear hA hb P1 R1 HB1 x0 x1 x2 x3 x4 x5
    go_upto_region 3 with (fail)
    obtain ⟨W3, hW⟩ : ∃ W, W = w2.alloc (.cells #[.int .i64 p.er, .slice A5 p.sn.length c5, .int .i64 p.nx, .slice B5 p.ce.length d5, .slice D5 p.ed.length f5, .int .i64 p.lf] 29) := ⟨_, rfl⟩
    have hbx : Below w2.heap.size w2 W3 := by rw [hW]; exact bel1 _ _
    have hqx := heap_alloc_new w2 (.cells #[.int .i64 p.er, .slice A5 p.sn.length c5, .int .i64 p.nx, .slice B5 p.ce.length d5, .slice D5 p.ed.length f5, .int .i64 p.lf] 29)
    rw [← hW] at hqx ⊢
    obtain ⟨q5, hqq⟩ : ∃ q, q = w2.heap.size := ⟨_, rfl⟩
    rw [← hqq] at hqx ⊢
    have Q3 := Lib.hid hqx
    have P3 := Lib.hid (blkB P2.out hbx)
    have R3 := Lib.hid (blkB R2.out hbx)
    have HB3 := Lib.hid (nx HB2.out hbx)
    have HA3 := Lib.hid (HA2.out.below hbx)
    have HOP := Lib.hid (show Byt (anP p).1 ∧ (anP p).1.length ≤ 2000000000 by
      by_cases h : OkAn p
      · rw [anP_yes h]; exact anB_ok h HPp.out
      · rw [anP_no h]; exact ⟨(by intro y hy; cases hy), (by simp)⟩)
    clear hW hqq hqx hbx HA2 P2 R2 HB2
    obtain ⟨y0, y1, y2, y3, y4, y5⟩ := an_block Q3.out
    go_wp2_with fail
    refine (rBytes_any HA3.out HPp.out).mono ?_
    intro e w4 hh
    obtain ⟨A6, n6, c6, rfl, hB, hb⟩ := hh.open HOP.out.1 (by have := HOP.out.2; omega)
    have Q4 := Lib.hid (blkB Q3.out hb)
    have P4 := Lib.hid (blkB P3.out hb)
    have R4 := Lib.hid (blkB R3.out hb)
    have HB4 := Lib.hid (nx HB3.out hb)
    have HA4 := Lib.hid (HA3.out.below hb)
    have S4 := Lib.hid hB
    clear hh hB hb Q3 P3 R3 HB3 HA3
    clear y0 y1 y2 y3 y4 y5
    obtain ⟨x0, x1, x2, x3, x4, x5⟩ := an_block P4.out
    go_wp2_with fail
    refine (refAnBytes_any (Hp.out.below HB4.out) HPp.out).mono ?_
    intro e W5 hh
    obtain ⟨A7, n7, c7, rfl, hB, hb⟩ := hh.open HOP.out.1 (by have := HOP.out.2; omega)
    have Q5 := Lib.hid (blkB Q4.out hb)
    have P5 := Lib.hid (blkB P4.out hb)
    have R5 := Lib.hid (blkB R4.out hb)
    have HB5 := Lib.hid (nx HB4.out hb)
    have HA5 := Lib.hid (HA4.out.below hb)
    have S5 := Lib.hid (S4.out.below hb)
    have U5 := Lib.hid hB
    clear hh hB hb Q4 P4 R4 HB4 HA4 S4 x0 x1 x2 x3 x4 x5
    have Hp5 := Lib.hid (Hp.out.below HB5.out)
    have Hr5 := Lib.hid (Hr.out.below HB5.out)
    go_upto_region 5 with (fail)
    generalize hgp : (anP p).2 = gp at *
    generalize hgl : (anP p).1 = gl at *
    have AK := Lib.hid (fun (x : World) (h : Below W5.heap.size W5 x) => show Below W5.heap.size W5 x ∧ x.cell? ⟨q5, 0, none⟩ = some (.int .i64 p.er) ∧ x.cell? ⟨q5, 1, none⟩ = some (.slice A5 p.sn.length c5) ∧ x.cell? ⟨q5, 2, none⟩ = some (.int .i64 p.nx) ∧ x.cell? ⟨q5, 3, none⟩ = some (.slice B5 p.ce.length d5) ∧ x.cell? ⟨q5, 4, none⟩ = some (.slice D5 p.ed.length f5) ∧ x.cell? ⟨q5, 5, none⟩ = some (.int .i64 p.lf) ∧ x.cell? ⟨q1, 0, none⟩ = some (.int .i64 p.er) ∧ x.cell? ⟨q1, 1, none⟩ = some (.slice A1 p.sn.length c1) ∧ x.cell? ⟨q1, 2, none⟩ = some (.int .i64 p.nx) ∧ x.cell? ⟨q1, 3, none⟩ = some (.slice B1 p.ce.length d1) ∧ x.cell? ⟨q1, 4, none⟩ = some (.slice D1 p.ed.length f1) ∧ x.cell? ⟨q1, 5, none⟩ = some (.int .i64 p.lf) ∧ x.cell? ⟨q2, 0, none⟩ = some (.int .i64 r.er) ∧ x.cell? ⟨q2, 1, none⟩ = some (.slice A3 r.sn.length c3) ∧ x.cell? ⟨q2, 2, none⟩ = some (.int .i64 r.nx) ∧ x.cell? ⟨q2, 3, none⟩ = some (.slice B3 r.ce.length d3) ∧ x.cell? ⟨q2, 4, none⟩ = some (.slice D3 r.ed.length f3) ∧ x.cell? ⟨q2, 5, none⟩ = some (.int .i64 r.lf) from ⟨h, cell_of (blkB Q5.out h) 0, cell_of (blkB Q5.out h) 1, cell_of (blkB Q5.out h) 2, cell_of (blkB Q5.out h) 3, cell_of (blkB Q5.out h) 4, cell_of (blkB Q5.out h) 5, cell_of (blkB P5.out h) 0, cell_of (blkB P5.out h) 1, cell_of (blkB P5.out h) 2, cell_of (blkB P5.out h) 3, cell_of (blkB P5.out h) 4, cell_of (blkB P5.out h) 5, cell_of (blkB R5.out h) 0, cell_of (blkB R5.out h) 1, cell_of (blkB R5.out h) 2, cell_of (blkB R5.out h) 3, cell_of (blkB R5.out h) 4, cell_of (blkB R5.out h) 5⟩)
    by_cases he : p = r
    · have HE := Lib.hid he
      clear he
      refine wp_region_held_drew (S := (fun w' => Below W5.heap.size W5 w' ∧ w'.cell? ⟨q5, 0, none⟩ = some (.int .i64 p.er) ∧ w'.cell? ⟨q5, 1, none⟩ = some (.slice A5 p.sn.length c5) ∧ w'.cell? ⟨q5, 2, none⟩ = some (.int .i64 p.nx) ∧ w'.cell? ⟨q5, 3, none⟩ = some (.slice B5 p.ce.length d5) ∧ w'.cell? ⟨q5, 4, none⟩ = some (.slice D5 p.ed.length f5) ∧ w'.cell? ⟨q5, 5, none⟩ = some (.int .i64 p.lf) ∧ w'.cell? ⟨q1, 0, none⟩ = some (.int .i64 p.er) ∧ w'.cell? ⟨q1, 1, none⟩ = some (.slice A1 p.sn.length c1) ∧ w'.cell? ⟨q1, 2, none⟩ = some (.int .i64 p.nx) ∧ w'.cell? ⟨q1, 3, none⟩ = some (.slice B1 p.ce.length d1) ∧ w'.cell? ⟨q1, 4, none⟩ = some (.slice D1 p.ed.length f1) ∧ w'.cell? ⟨q1, 5, none⟩ = some (.int .i64 p.lf) ∧ w'.cell? ⟨q2, 0, none⟩ = some (.int .i64 r.er) ∧ w'.cell? ⟨q2, 1, none⟩ = some (.slice A3 r.sn.length c3) ∧ w'.cell? ⟨q2, 2, none⟩ = some (.int .i64 r.nx) ∧ w'.cell? ⟨q2, 3, none⟩ = some (.slice B3 r.ce.length d3) ∧ w'.cell? ⟨q2, 4, none⟩ = some (.slice D3 r.ed.length f3) ∧ w'.cell? ⟨q2, 5, none⟩ = some (.int .i64 r.lf))) (by kernel_rfl) (AK.out _ (bel0 _).drew) (fun hHeld => ?_)
      refine' take_val (i := 0) (d := 26) (v := _) rfl rfl (by kernel_rfl) (by kernel_rfl) (by kernel_rfl) (fun _ _ _ h => h) (by rfl) ?_ (by assumption) ?_
      rotate_left
      · (intro w hSw; (try dsimp only at hSw); go_simp; (try with_reducible rfl))
      (try simp only [Act.put, List.setIfInBounds_toArray, List.set_cons_zero, List.set_cons_succ])
      refine' take_val (i := 2) (d := 28) (v := _) rfl rfl (by kernel_rfl) (by kernel_rfl) (by kernel_rfl) (fun _ _ _ h => h) (by rfl) ?_ (by assumption) ?_
      rotate_left
      · (intro w hSw; (try dsimp only at hSw); go_simp; (try with_reducible rfl))
      (try simp only [Act.put, List.setIfInBounds_toArray, List.set_cons_zero, List.set_cons_succ])
      refine wpAnyH_ready (rs := [1]) (by kernel_rfl) (by simp) ?_
      refine AllReadyH.cons rfl (fun K hK => ?_) AllReadyH.nil
      go_simp
      go_at_call 15
      refine (rCheck_any (HA5.out.below (And.left (b := _) hHeld))).mono ?_
      rw [hgp]
      rintro e w2 ⟨rfl, hb⟩
      go_wp2_with fail
      refine hK.out _ _ (AK.out _ (nx (And.left (b := _) hHeld) hb)) (fun hHeld => ?_)
      clear hK K
      (try simp only [Act.put, List.setIfInBounds_toArray, List.set_cons_zero, List.set_cons_succ])
      refine wpAnyH_ready (rs := [3]) (by kernel_rfl) (by simp) ?_
      refine AllReadyH.cons rfl (fun K hK => ?_) AllReadyH.nil
      go_simp
      go_at_call 16
      refine (refAnCheck_any (Hp5.out.below (And.left (b := _) hHeld))).mono ?_
      rw [hgp]
      rintro e w2 ⟨rfl, hb⟩
      go_wp2_with fail
      refine hK.out _ _ (AK.out _ (nx (And.left (b := _) hHeld) hb)) (fun hHeld => ?_)
      clear hK K
      (try simp only [Act.put, List.setIfInBounds_toArray, List.set_cons_zero, List.set_cons_succ])
      refine' take_val (i := 4) (d := 30) (v := _) rfl rfl (by kernel_rfl) (by kernel_rfl) (by kernel_rfl) (fun _ _ _ h => h) (by rfl) ?_ (by assumption) ?_
      rotate_left
      · (intro w hSw; (try dsimp only at hSw); go_simp; (try with_reducible rfl))
      (try simp only [Act.put, List.setIfInBounds_toArray, List.set_cons_zero, List.set_cons_succ])
      refine' take_val (i := 5) (d := 31) (v := _) rfl rfl (by kernel_rfl) (by kernel_rfl) (by kernel_rfl) (fun _ _ _ h => h) (by rfl) ?_ (by assumption) ?_
      rotate_left
      · (intro w hSw; (try dsimp only at hSw); go_simp; (try with_reducible rfl))
      (try simp only [Act.put, List.setIfInBounds_toArray, List.set_cons_zero, List.set_cons_succ])
      refine' take_val (i := 6) (d := 32) (v := _) rfl rfl (by kernel_rfl) (by kernel_rfl) (by kernel_rfl) (fun _ _ _ h => h) (by rfl) ?_ (by assumption) ?_
      rotate_left
      · (intro w hSw; (try dsimp only at hSw); go_simp; (try with_reducible rfl))
      (try simp only [Act.put, List.setIfInBounds_toArray, List.set_cons_zero, List.set_cons_succ])
      refine' take_val (i := 7) (d := 33) (v := _) rfl rfl (by kernel_rfl) (by kernel_rfl) (by kernel_rfl) (fun _ _ _ h => h) (by rfl) ?_ (by assumption) ?_
      rotate_left
      · (intro w hSw; (try dsimp only at hSw); go_simp; (try with_reducible rfl))
      (try simp only [Act.put, List.setIfInBounds_toArray, List.set_cons_zero, List.set_cons_succ])
      refine wpAnyH_ready (rs := [8]) (by kernel_rfl) (by simp) ?_
      refine AllReadyH.cons rfl (fun K hK => ?_) AllReadyH.nil
      go_simp
      go_at_call 9
      refine (eqBytes_any A6 A7 n6 c6 n7 c7 gl gl _ (S5.out.below (And.left (b := _) hHeld)) (U5.out.below (And.left (b := _) hHeld))).mono ?_
      rintro e w2 ⟨rfl, hb⟩
      rw [decide_eq_true (rfl : gl = gl)]
      go_wp2_with fail
      refine hK.out _ _ (AK.out _ (nx (And.left (b := _) hHeld) hb)) (fun hHeld => ?_)
      clear hK K
      (try simp only [Act.put, List.setIfInBounds_toArray, List.set_cons_zero, List.set_cons_succ])
      refine' take_val (i := 9) (d := 35) (v := _) rfl rfl (by kernel_rfl) (by kernel_rfl) (by kernel_rfl) (fun _ _ _ h => h) (by rfl) ?_ (by assumption) ?_
      rotate_left
      · (intro w hSw; (try dsimp only at hSw); go_simp; (try with_reducible rfl))
      (try simp only [Act.put, List.setIfInBounds_toArray, List.set_cons_zero, List.set_cons_succ])
      refine' take_val (i := 10) (d := 36) (v := _) rfl rfl (by kernel_rfl) (by kernel_rfl) (by kernel_rfl) (fun _ _ _ h => h) (by rfl) ?_ (by assumption) ?_
      rotate_left
      · (intro w hSw; (try dsimp only at hSw); go_simp; (try with_reducible rfl))
      (try simp only [Act.put, List.setIfInBounds_toArray, List.set_cons_zero, List.set_cons_succ])
      refine' take_val (i := 11) (d := 37) (v := _) rfl rfl (by kernel_rfl) (by kernel_rfl) (by kernel_rfl) (fun _ _ _ h => h) (by rfl) ?_ (by assumption) ?_
      rotate_left
      · (intro w hSw; (try dsimp only at hSw); go_simp; (try with_reducible rfl))
      (try simp only [Act.put, List.setIfInBounds_toArray, List.set_cons_zero, List.set_cons_succ])
      refine' take_val (i := 12) (d := 38) (v := _) rfl rfl (by kernel_rfl) (by kernel_rfl) (by kernel_rfl) (fun _ _ _ h => h) (by rfl) ?_ (by assumption) ?_
      rotate_left
      · (intro w hSw; (try dsimp only at hSw); go_simp; (try with_reducible rfl))
      (try simp only [Act.put, List.setIfInBounds_toArray, List.set_cons_zero, List.set_cons_succ])
      refine' take_val (i := 13) (d := 39) (v := _) rfl rfl (by kernel_rfl) (by kernel_rfl) (by kernel_rfl) (fun _ _ _ h => h) (by rfl) ?_ (by assumption) ?_
      rotate_left
      · (intro w hSw; (try dsimp only at hSw); go_simp; (try with_reducible rfl))
      (try simp only [Act.put, List.setIfInBounds_toArray, List.set_cons_zero, List.set_cons_succ])
      refine' take_val (i := 14) (d := 40) (v := _) rfl rfl (by kernel_rfl) (by kernel_rfl) (by kernel_rfl) (fun _ _ _ h => h) (by rfl) ?_ (by assumption) ?_
      rotate_left
      · (intro w hSw; (try dsimp only at hSw); go_simp; (try with_reducible rfl))
      (try simp only [Act.put, List.setIfInBounds_toArray, List.set_cons_zero, List.set_cons_succ])
      refine' take_val (i := 15) (d := 41) (v := _) rfl rfl (by kernel_rfl) (by kernel_rfl) (by kernel_rfl) (fun _ _ _ h => h) (by rfl) ?_ (by assumption) ?_
      rotate_left
      · (intro w hSw; (try dsimp only at hSw); go_simp; (try with_reducible rfl))
      (try simp only [Act.put, List.setIfInBounds_toArray, List.set_cons_zero, List.set_cons_succ])
      refine' take_val (i := 16) (d := 42) (v := _) rfl rfl (by kernel_rfl) (by kernel_rfl) (by kernel_rfl) (fun _ _ _ h => h) (by rfl) ?_ (by assumption) ?_
      rotate_left
      · (intro w hSw; (try dsimp only at hSw); go_simp; (try with_reducible rfl))
      (try simp only [Act.put, List.setIfInBounds_toArray, List.set_cons_zero, List.set_cons_succ])
      refine' take_val (i := 17) (d := 43) (v := _) rfl rfl (by kernel_rfl) (by kernel_rfl) (by kernel_rfl) (fun _ _ _ h => h) (by rfl) ?_ (by assumption) ?_
      rotate_left
      · (intro w hSw; (try dsimp only at hSw); go_simp; (try with_reducible rfl))
      (try simp only [Act.put, List.setIfInBounds_toArray, List.set_cons_zero, List.set_cons_succ])
      refine' take_val (i := 19) (d := 45) (v := _) rfl rfl (by kernel_rfl) (by kernel_rfl) (by kernel_rfl) (fun _ _ _ h => h) (by rfl) ?_ (by assumption) ?_
      rotate_left
      · (intro w hSw; (try dsimp only at hSw); go_simp; (try with_reducible rfl))
      (try simp only [Act.put, List.setIfInBounds_toArray, List.set_cons_zero, List.set_cons_succ])
      refine' take_val (i := 20) (d := 46) (v := _) rfl rfl (by kernel_rfl) (by kernel_rfl) (by kernel_rfl) (fun _ _ _ h => h) (by rfl) ?_ (by assumption) ?_
      rotate_left
      · (intro w hSw; (try dsimp only at hSw); go_simp; (try with_reducible rfl))
      (try simp only [Act.put, List.setIfInBounds_toArray, List.set_cons_zero, List.set_cons_succ])
      refine wpAnyH_ready (rs := [18]) (by kernel_rfl) (by simp) ?_
      refine AllReadyH.cons rfl (fun K hK => ?_) AllReadyH.nil
      go_simp
      go_at_call 17
      refine (rSame_any (a := p) (b := r) (HA5.out.below (And.left (b := _) hHeld)) (Hr5.out.below (And.left (b := _) hHeld))).mono ?_
      rintro e w2 ⟨bb, rfl, hbb, hb⟩
      obtain rfl : bb = true := hbb.2 HE.out
      clear hbb
      go_wp2_with fail
      refine hK.out _ _ (AK.out _ (nx (And.left (b := _) hHeld) hb)) (fun hHeld => ?_)
      clear hK K
      (try simp only [Act.put, List.setIfInBounds_toArray, List.set_cons_zero, List.set_cons_succ])
      refine wpAnyH_ready (rs := [21]) (by kernel_rfl) (by simp) ?_
      refine AllReadyH.cons rfl (fun K hK => ?_) AllReadyH.nil
      go_simp
      go_at_call 8
      refine (refAnSame_any (a := p) (b := r) (Hp5.out.below (And.left (b := _) hHeld)) (Hr5.out.below (And.left (b := _) hHeld))).mono ?_
      rintro e w2 ⟨bb, rfl, hbb, hb⟩
      obtain rfl : bb = true := hbb.2 HE.out
      clear hbb
      go_wp2_with fail
      refine hK.out _ _ (AK.out _ (nx (And.left (b := _) hHeld) hb)) (fun hHeld => ?_)
      clear hK K
      (try simp only [Act.put, List.setIfInBounds_toArray, List.set_cons_zero, List.set_cons_succ])
      refine' take_val (i := 22) (d := 48) (v := _) rfl rfl (by kernel_rfl) (by kernel_rfl) (by kernel_rfl) (fun _ _ _ h => h) (by rfl) ?_ (by assumption) ?_
      rotate_left
      · (intro w hSw; (try dsimp only at hSw); go_simp; (try with_reducible rfl))
      (try simp only [Act.put, List.setIfInBounds_toArray, List.set_cons_zero, List.set_cons_succ])
      refine' take_val (i := 23) (d := 49) (v := _) rfl rfl (by kernel_rfl) (by kernel_rfl) (by kernel_rfl) (fun _ _ _ h => h) (by rfl) ?_ (by assumption) ?_
      rotate_left
      · (intro w hSw; (try dsimp only at hSw); go_simp; (try with_reducible rfl))
      (try simp only [Act.put, List.setIfInBounds_toArray, List.set_cons_zero, List.set_cons_succ])
      refine' take_val (i := 24) (d := 50) (v := _) rfl rfl (by kernel_rfl) (by kernel_rfl) (by kernel_rfl) (fun _ _ _ h => h) (by rfl) ?_ (by assumption) ?_
      rotate_left
      · (intro w hSw; (try dsimp only at hSw); go_simp; (try with_reducible rfl))
      (try simp only [Act.put, List.setIfInBounds_toArray, List.set_cons_zero, List.set_cons_succ])
      refine' take_val (i := 25) (d := 51) (v := _) rfl rfl (by kernel_rfl) (by kernel_rfl) (by kernel_rfl) (fun _ _ _ h => h) (by rfl) ?_ (by assumption) ?_
      rotate_left
      · (intro w hSw; (try dsimp only at hSw); go_simp; (try with_reducible rfl))
      (try simp only [Act.put, List.setIfInBounds_toArray, List.set_cons_zero, List.set_cons_succ])
      refine' take_val (i := 26) (d := 52) (v := _) rfl rfl (by kernel_rfl) (by kernel_rfl) (by kernel_rfl) (fun _ _ _ h => h) (by rfl) ?_ (by assumption) ?_
      rotate_left
      · (intro w hSw; (try dsimp only at hSw); go_simp; (try with_reducible rfl))
      (try simp only [Act.put, List.setIfInBounds_toArray, List.set_cons_zero, List.set_cons_succ])
      refine wpAnyH_ready (rs := [27]) (by kernel_rfl) (by simp) ?_
      refine AllReadyH.cons rfl (fun K hK => ?_) AllReadyH.nil
      go_simp
      go_at_call 8
      refine (refAnSame_any (a := p) (b := p) (HA5.out.below (And.left (b := _) hHeld)) (Hp5.out.below (And.left (b := _) hHeld))).mono ?_
      rintro e w2 ⟨bb, rfl, hbb, hb⟩
      obtain rfl : bb = true := hbb.2 (by trivial)
      clear hbb
      go_wp2_with fail
      refine hK.out _ _ (AK.out _ (nx (And.left (b := _) hHeld) hb)) (fun hHeld => ?_)
      clear hK K
      (try simp only [Act.put, List.setIfInBounds_toArray, List.set_cons_zero, List.set_cons_succ])
      refine' take_val (i := 28) (d := 54) (v := _) rfl rfl (by kernel_rfl) (by kernel_rfl) (by kernel_rfl) (fun _ _ _ h => h) (by rfl) ?_ (by assumption) ?_
      rotate_left
      · (intro w hSw; (try dsimp only at hSw); go_simp; (try with_reducible rfl))
      (try simp only [Act.put, List.setIfInBounds_toArray, List.set_cons_zero, List.set_cons_succ])
      refine' take_val (i := 29) (d := 55) (v := _) rfl rfl (by kernel_rfl) (by kernel_rfl) (by kernel_rfl) (fun _ _ _ h => h) (by rfl) ?_ (by assumption) ?_
      rotate_left
      · (intro w hSw; (try dsimp only at hSw); go_simp; (try with_reducible rfl))
      (try simp only [Act.put, List.setIfInBounds_toArray, List.set_cons_zero, List.set_cons_succ])
      refine wpAnyH_ready (rs := [30]) (by kernel_rfl) (by simp) ?_
      refine AllReadyH.cons rfl (fun K hK => ?_) AllReadyH.nil
      go_simp
      go_at_call 10
      refine (rworks_any _).mono ?_
      rintro e w2 ⟨rfl, hb⟩
      go_wp2_with fail
      refine hK.out _ _ (AK.out _ (nx (And.left (b := _) hHeld) hb)) (fun hHeld => ?_)
      clear hK K
      (try simp only [Act.put, List.setIfInBounds_toArray, List.set_cons_zero, List.set_cons_succ])
      refine' take_val (i := 31) (d := 57) (v := _) rfl rfl (by kernel_rfl) (by kernel_rfl) (by kernel_rfl) (fun _ _ _ h => h) (by rfl) ?_ (by assumption) ?_
      rotate_left
      · (intro w hSw; (try dsimp only at hSw); go_simp; (try with_reducible rfl))
      (try simp only [Act.put, List.setIfInBounds_toArray, List.set_cons_zero, List.set_cons_succ])
      refine' take_val (i := 32) (d := 4) (v := _) rfl rfl (by kernel_rfl) (by kernel_rfl) (by kernel_rfl) (fun _ _ _ h => h) (by rfl) ?_ (by assumption) ?_
      rotate_left
      · (intro w hSw; (try dsimp only at hSw); go_simp; (try with_reducible rfl))
      (try simp only [Act.put, List.setIfInBounds_toArray, List.set_cons_zero, List.set_cons_succ])
      refine wpAnyH_done (by kernel_rfl) ?_ _
      have hbz := nx HB5.out (And.left (b := _) hHeld)
      clear AK hHeld
      go_wp2_with fail
      go_ret
      exact ⟨rfl, hbz⟩
    · have HE := Lib.hid he
      clear he
      refine wp_region_held_drew (S := (fun w' => Below W5.heap.size W5 w' ∧ w'.cell? ⟨q5, 0, none⟩ = some (.int .i64 p.er) ∧ w'.cell? ⟨q5, 1, none⟩ = some (.slice A5 p.sn.length c5) ∧ w'.cell? ⟨q5, 2, none⟩ = some (.int .i64 p.nx) ∧ w'.cell? ⟨q5, 3, none⟩ = some (.slice B5 p.ce.length d5) ∧ w'.cell? ⟨q5, 4, none⟩ = some (.slice D5 p.ed.length f5) ∧ w'.cell? ⟨q5, 5, none⟩ = some (.int .i64 p.lf) ∧ w'.cell? ⟨q1, 0, none⟩ = some (.int .i64 p.er) ∧ w'.cell? ⟨q1, 1, none⟩ = some (.slice A1 p.sn.length c1) ∧ w'.cell? ⟨q1, 2, none⟩ = some (.int .i64 p.nx) ∧ w'.cell? ⟨q1, 3, none⟩ = some (.slice B1 p.ce.length d1) ∧ w'.cell? ⟨q1, 4, none⟩ = some (.slice D1 p.ed.length f1) ∧ w'.cell? ⟨q1, 5, none⟩ = some (.int .i64 p.lf) ∧ w'.cell? ⟨q2, 0, none⟩ = some (.int .i64 r.er) ∧ w'.cell? ⟨q2, 1, none⟩ = some (.slice A3 r.sn.length c3) ∧ w'.cell? ⟨q2, 2, none⟩ = some (.int .i64 r.nx) ∧ w'.cell? ⟨q2, 3, none⟩ = some (.slice B3 r.ce.length d3) ∧ w'.cell? ⟨q2, 4, none⟩ = some (.slice D3 r.ed.length f3) ∧ w'.cell? ⟨q2, 5, none⟩ = some (.int .i64 r.lf))) (by kernel_rfl) (AK.out _ (bel0 _).drew) (fun hHeld => ?_)
      refine' take_val (i := 0) (d := 26) (v := _) rfl rfl (by kernel_rfl) (by kernel_rfl) (by kernel_rfl) (fun _ _ _ h => h) (by rfl) ?_ (by assumption) ?_
      rotate_left
      · (intro w hSw; (try dsimp only at hSw); go_simp; (try with_reducible rfl))
      (try simp only [Act.put, List.setIfInBounds_toArray, List.set_cons_zero, List.set_cons_succ])
      refine' take_val (i := 2) (d := 28) (v := _) rfl rfl (by kernel_rfl) (by kernel_rfl) (by kernel_rfl) (fun _ _ _ h => h) (by rfl) ?_ (by assumption) ?_
      rotate_left
      · (intro w hSw; (try dsimp only at hSw); go_simp; (try with_reducible rfl))
      (try simp only [Act.put, List.setIfInBounds_toArray, List.set_cons_zero, List.set_cons_succ])
      refine wpAnyH_ready (rs := [1]) (by kernel_rfl) (by simp) ?_
      refine AllReadyH.cons rfl (fun K hK => ?_) AllReadyH.nil
      go_simp
      go_at_call 15
      refine (rCheck_any (HA5.out.below (And.left (b := _) hHeld))).mono ?_
      rw [hgp]
      rintro e w2 ⟨rfl, hb⟩
      go_wp2_with fail
      refine hK.out _ _ (AK.out _ (nx (And.left (b := _) hHeld) hb)) (fun hHeld => ?_)
      clear hK K
      (try simp only [Act.put, List.setIfInBounds_toArray, List.set_cons_zero, List.set_cons_succ])
      refine wpAnyH_ready (rs := [3]) (by kernel_rfl) (by simp) ?_
      refine AllReadyH.cons rfl (fun K hK => ?_) AllReadyH.nil
      go_simp
      go_at_call 16
      refine (refAnCheck_any (Hp5.out.below (And.left (b := _) hHeld))).mono ?_
      rw [hgp]
      rintro e w2 ⟨rfl, hb⟩
      go_wp2_with fail
      refine hK.out _ _ (AK.out _ (nx (And.left (b := _) hHeld) hb)) (fun hHeld => ?_)
      clear hK K
      (try simp only [Act.put, List.setIfInBounds_toArray, List.set_cons_zero, List.set_cons_succ])
      refine' take_val (i := 4) (d := 30) (v := _) rfl rfl (by kernel_rfl) (by kernel_rfl) (by kernel_rfl) (fun _ _ _ h => h) (by rfl) ?_ (by assumption) ?_
      rotate_left
      · (intro w hSw; (try dsimp only at hSw); go_simp; (try with_reducible rfl))
      (try simp only [Act.put, List.setIfInBounds_toArray, List.set_cons_zero, List.set_cons_succ])
      refine' take_val (i := 5) (d := 31) (v := _) rfl rfl (by kernel_rfl) (by kernel_rfl) (by kernel_rfl) (fun _ _ _ h => h) (by rfl) ?_ (by assumption) ?_
      rotate_left
      · (intro w hSw; (try dsimp only at hSw); go_simp; (try with_reducible rfl))
      (try simp only [Act.put, List.setIfInBounds_toArray, List.set_cons_zero, List.set_cons_succ])
      refine' take_val (i := 6) (d := 32) (v := _) rfl rfl (by kernel_rfl) (by kernel_rfl) (by kernel_rfl) (fun _ _ _ h => h) (by rfl) ?_ (by assumption) ?_
      rotate_left
      · (intro w hSw; (try dsimp only at hSw); go_simp; (try with_reducible rfl))
      (try simp only [Act.put, List.setIfInBounds_toArray, List.set_cons_zero, List.set_cons_succ])
      refine' take_val (i := 7) (d := 33) (v := _) rfl rfl (by kernel_rfl) (by kernel_rfl) (by kernel_rfl) (fun _ _ _ h => h) (by rfl) ?_ (by assumption) ?_
      rotate_left
      · (intro w hSw; (try dsimp only at hSw); go_simp; (try with_reducible rfl))
      (try simp only [Act.put, List.setIfInBounds_toArray, List.set_cons_zero, List.set_cons_succ])
      refine wpAnyH_ready (rs := [8]) (by kernel_rfl) (by simp) ?_
      refine AllReadyH.cons rfl (fun K hK => ?_) AllReadyH.nil
      go_simp
      go_at_call 9
      refine (eqBytes_any A6 A7 n6 c6 n7 c7 gl gl _ (S5.out.below (And.left (b := _) hHeld)) (U5.out.below (And.left (b := _) hHeld))).mono ?_
      rintro e w2 ⟨rfl, hb⟩
      rw [decide_eq_true (rfl : gl = gl)]
      go_wp2_with fail
      refine hK.out _ _ (AK.out _ (nx (And.left (b := _) hHeld) hb)) (fun hHeld => ?_)
      clear hK K
      (try simp only [Act.put, List.setIfInBounds_toArray, List.set_cons_zero, List.set_cons_succ])
      refine' take_val (i := 9) (d := 35) (v := _) rfl rfl (by kernel_rfl) (by kernel_rfl) (by kernel_rfl) (fun _ _ _ h => h) (by rfl) ?_ (by assumption) ?_
      rotate_left
      · (intro w hSw; (try dsimp only at hSw); go_simp; (try with_reducible rfl))
      (try simp only [Act.put, List.setIfInBounds_toArray, List.set_cons_zero, List.set_cons_succ])
      refine' take_val (i := 10) (d := 36) (v := _) rfl rfl (by kernel_rfl) (by kernel_rfl) (by kernel_rfl) (fun _ _ _ h => h) (by rfl) ?_ (by assumption) ?_
      rotate_left
      · (intro w hSw; (try dsimp only at hSw); go_simp; (try with_reducible rfl))
      (try simp only [Act.put, List.setIfInBounds_toArray, List.set_cons_zero, List.set_cons_succ])
      refine' take_val (i := 11) (d := 37) (v := _) rfl rfl (by kernel_rfl) (by kernel_rfl) (by kernel_rfl) (fun _ _ _ h => h) (by rfl) ?_ (by assumption) ?_
      rotate_left
      · (intro w hSw; (try dsimp only at hSw); go_simp; (try with_reducible rfl))
      (try simp only [Act.put, List.setIfInBounds_toArray, List.set_cons_zero, List.set_cons_succ])
      refine' take_val (i := 12) (d := 38) (v := _) rfl rfl (by kernel_rfl) (by kernel_rfl) (by kernel_rfl) (fun _ _ _ h => h) (by rfl) ?_ (by assumption) ?_
      rotate_left
      · (intro w hSw; (try dsimp only at hSw); go_simp; (try with_reducible rfl))
      (try simp only [Act.put, List.setIfInBounds_toArray, List.set_cons_zero, List.set_cons_succ])
      refine' take_val (i := 13) (d := 39) (v := _) rfl rfl (by kernel_rfl) (by kernel_rfl) (by kernel_rfl) (fun _ _ _ h => h) (by rfl) ?_ (by assumption) ?_
      rotate_left
      · (intro w hSw; (try dsimp only at hSw); go_simp; (try with_reducible rfl))
      (try simp only [Act.put, List.setIfInBounds_toArray, List.set_cons_zero, List.set_cons_succ])
      refine' take_val (i := 14) (d := 40) (v := _) rfl rfl (by kernel_rfl) (by kernel_rfl) (by kernel_rfl) (fun _ _ _ h => h) (by rfl) ?_ (by assumption) ?_
      rotate_left
      · (intro w hSw; (try dsimp only at hSw); go_simp; (try with_reducible rfl))
      (try simp only [Act.put, List.setIfInBounds_toArray, List.set_cons_zero, List.set_cons_succ])
      refine' take_val (i := 15) (d := 41) (v := _) rfl rfl (by kernel_rfl) (by kernel_rfl) (by kernel_rfl) (fun _ _ _ h => h) (by rfl) ?_ (by assumption) ?_
      rotate_left
      · (intro w hSw; (try dsimp only at hSw); go_simp; (try with_reducible rfl))
      (try simp only [Act.put, List.setIfInBounds_toArray, List.set_cons_zero, List.set_cons_succ])
      refine' take_val (i := 16) (d := 42) (v := _) rfl rfl (by kernel_rfl) (by kernel_rfl) (by kernel_rfl) (fun _ _ _ h => h) (by rfl) ?_ (by assumption) ?_
      rotate_left
      · (intro w hSw; (try dsimp only at hSw); go_simp; (try with_reducible rfl))
      (try simp only [Act.put, List.setIfInBounds_toArray, List.set_cons_zero, List.set_cons_succ])
      refine' take_val (i := 17) (d := 43) (v := _) rfl rfl (by kernel_rfl) (by kernel_rfl) (by kernel_rfl) (fun _ _ _ h => h) (by rfl) ?_ (by assumption) ?_
      rotate_left
      · (intro w hSw; (try dsimp only at hSw); go_simp; (try with_reducible rfl))
      (try simp only [Act.put, List.setIfInBounds_toArray, List.set_cons_zero, List.set_cons_succ])
      refine' take_val (i := 19) (d := 45) (v := _) rfl rfl (by kernel_rfl) (by kernel_rfl) (by kernel_rfl) (fun _ _ _ h => h) (by rfl) ?_ (by assumption) ?_
      rotate_left
      · (intro w hSw; (try dsimp only at hSw); go_simp; (try with_reducible rfl))
      (try simp only [Act.put, List.setIfInBounds_toArray, List.set_cons_zero, List.set_cons_succ])
      refine' take_val (i := 20) (d := 46) (v := _) rfl rfl (by kernel_rfl) (by kernel_rfl) (by kernel_rfl) (fun _ _ _ h => h) (by rfl) ?_ (by assumption) ?_
      rotate_left
      · (intro w hSw; (try dsimp only at hSw); go_simp; (try with_reducible rfl))
      (try simp only [Act.put, List.setIfInBounds_toArray, List.set_cons_zero, List.set_cons_succ])
      refine wpAnyH_ready (rs := [18]) (by kernel_rfl) (by simp) ?_
      refine AllReadyH.cons rfl (fun K hK => ?_) AllReadyH.nil
      go_simp
      go_at_call 17
      refine (rSame_any (a := p) (b := r) (HA5.out.below (And.left (b := _) hHeld)) (Hr5.out.below (And.left (b := _) hHeld))).mono ?_
      rintro e w2 ⟨bb, rfl, hbb, hb⟩
      obtain rfl : bb = false := by cases bb with | false => rfl | true => exact absurd (hbb.1 (by trivial)) HE.out
      clear hbb
      go_wp2_with fail
      refine hK.out _ _ (AK.out _ (nx (And.left (b := _) hHeld) hb)) (fun hHeld => ?_)
      clear hK K
      (try simp only [Act.put, List.setIfInBounds_toArray, List.set_cons_zero, List.set_cons_succ])
      refine wpAnyH_ready (rs := [21]) (by kernel_rfl) (by simp) ?_
      refine AllReadyH.cons rfl (fun K hK => ?_) AllReadyH.nil
      go_simp
      go_at_call 8
      refine (refAnSame_any (a := p) (b := r) (Hp5.out.below (And.left (b := _) hHeld)) (Hr5.out.below (And.left (b := _) hHeld))).mono ?_
      rintro e w2 ⟨bb, rfl, hbb, hb⟩
      obtain rfl : bb = false := by cases bb with | false => rfl | true => exact absurd (hbb.1 (by trivial)) HE.out
      clear hbb
      go_wp2_with fail
      refine hK.out _ _ (AK.out _ (nx (And.left (b := _) hHeld) hb)) (fun hHeld => ?_)
      clear hK K
      (try simp only [Act.put, List.setIfInBounds_toArray, List.set_cons_zero, List.set_cons_succ])
      refine' take_val (i := 22) (d := 48) (v := _) rfl rfl (by kernel_rfl) (by kernel_rfl) (by kernel_rfl) (fun _ _ _ h => h) (by rfl) ?_ (by assumption) ?_
      rotate_left
      · (intro w hSw; (try dsimp only at hSw); go_simp; (try with_reducible rfl))
      (try simp only [Act.put, List.setIfInBounds_toArray, List.set_cons_zero, List.set_cons_succ])
      refine' take_val (i := 23) (d := 49) (v := _) rfl rfl (by kernel_rfl) (by kernel_rfl) (by kernel_rfl) (fun _ _ _ h => h) (by rfl) ?_ (by assumption) ?_
      rotate_left
      · (intro w hSw; (try dsimp only at hSw); go_simp; (try with_reducible rfl))
      (try simp only [Act.put, List.setIfInBounds_toArray, List.set_cons_zero, List.set_cons_succ])
      refine' take_val (i := 24) (d := 50) (v := _) rfl rfl (by kernel_rfl) (by kernel_rfl) (by kernel_rfl) (fun _ _ _ h => h) (by rfl) ?_ (by assumption) ?_
      rotate_left
      · (intro w hSw; (try dsimp only at hSw); go_simp; (try with_reducible rfl))
      (try simp only [Act.put, List.setIfInBounds_toArray, List.set_cons_zero, List.set_cons_succ])
      refine' take_val (i := 25) (d := 51) (v := _) rfl rfl (by kernel_rfl) (by kernel_rfl) (by kernel_rfl) (fun _ _ _ h => h) (by rfl) ?_ (by assumption) ?_
      rotate_left
      · (intro w hSw; (try dsimp only at hSw); go_simp; (try with_reducible rfl))
      (try simp only [Act.put, List.setIfInBounds_toArray, List.set_cons_zero, List.set_cons_succ])
      refine' take_val (i := 26) (d := 52) (v := _) rfl rfl (by kernel_rfl) (by kernel_rfl) (by kernel_rfl) (fun _ _ _ h => h) (by rfl) ?_ (by assumption) ?_
      rotate_left
      · (intro w hSw; (try dsimp only at hSw); go_simp; (try with_reducible rfl))
      (try simp only [Act.put, List.setIfInBounds_toArray, List.set_cons_zero, List.set_cons_succ])
      refine wpAnyH_ready (rs := [27]) (by kernel_rfl) (by simp) ?_
      refine AllReadyH.cons rfl (fun K hK => ?_) AllReadyH.nil
      go_simp
      go_at_call 8
      refine (refAnSame_any (a := p) (b := p) (HA5.out.below (And.left (b := _) hHeld)) (Hp5.out.below (And.left (b := _) hHeld))).mono ?_
      rintro e w2 ⟨bb, rfl, hbb, hb⟩
      obtain rfl : bb = true := hbb.2 (by trivial)
      clear hbb
      go_wp2_with fail
      refine hK.out _ _ (AK.out _ (nx (And.left (b := _) hHeld) hb)) (fun hHeld => ?_)
      clear hK K
      (try simp only [Act.put, List.setIfInBounds_toArray, List.set_cons_zero, List.set_cons_succ])
      refine' take_val (i := 28) (d := 54) (v := _) rfl rfl (by kernel_rfl) (by kernel_rfl) (by kernel_rfl) (fun _ _ _ h => h) (by rfl) ?_ (by assumption) ?_
      rotate_left
      · (intro w hSw; (try dsimp only at hSw); go_simp; (try with_reducible rfl))
      (try simp only [Act.put, List.setIfInBounds_toArray, List.set_cons_zero, List.set_cons_succ])
      refine' take_val (i := 29) (d := 55) (v := _) rfl rfl (by kernel_rfl) (by kernel_rfl) (by kernel_rfl) (fun _ _ _ h => h) (by rfl) ?_ (by assumption) ?_
      rotate_left
      · (intro w hSw; (try dsimp only at hSw); go_simp; (try with_reducible rfl))
      (try simp only [Act.put, List.setIfInBounds_toArray, List.set_cons_zero, List.set_cons_succ])
      refine wpAnyH_ready (rs := [30]) (by kernel_rfl) (by simp) ?_
      refine AllReadyH.cons rfl (fun K hK => ?_) AllReadyH.nil
      go_simp
      go_at_call 10
      refine (rworks_any _).mono ?_
      rintro e w2 ⟨rfl, hb⟩
      go_wp2_with fail
      refine hK.out _ _ (AK.out _ (nx (And.left (b := _) hHeld) hb)) (fun hHeld => ?_)
      clear hK K
      (try simp only [Act.put, List.setIfInBounds_toArray, List.set_cons_zero, List.set_cons_succ])
      refine' take_val (i := 31) (d := 57) (v := _) rfl rfl (by kernel_rfl) (by kernel_rfl) (by kernel_rfl) (fun _ _ _ h => h) (by rfl) ?_ (by assumption) ?_
      rotate_left
      · (intro w hSw; (try dsimp only at hSw); go_simp; (try with_reducible rfl))
      (try simp only [Act.put, List.setIfInBounds_toArray, List.set_cons_zero, List.set_cons_succ])
      refine' take_val (i := 32) (d := 4) (v := _) rfl rfl (by kernel_rfl) (by kernel_rfl) (by kernel_rfl) (fun _ _ _ h => h) (by rfl) ?_ (by assumption) ?_
      rotate_left
      · (intro w hSw; (try dsimp only at hSw); go_simp; (try with_reducible rfl))
      (try simp only [Act.put, List.setIfInBounds_toArray, List.set_cons_zero, List.set_cons_succ])
      refine wpAnyH_done (by kernel_rfl) ?_ _
      have hbz := nx HB5.out (And.left (b := _) hHeld)
      clear AK hHeld
      go_wp2_with fail
      go_ret
      exact ⟨rfl, hbz⟩
end Go.Proofs.YtfedgjahbmcpoaaGreat
