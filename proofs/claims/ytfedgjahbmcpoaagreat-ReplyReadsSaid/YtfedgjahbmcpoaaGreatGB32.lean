/- reply's take, of Ed. No conditions. -/
import Derived.Test.YtfedgjahbmcpoaaGreatGB29
set_option linter.unusedSimpArgs false
set_option linter.unusedVariables false
namespace Go.Proofs.YtfedgjahbmcpoaaGreat
open Go.RowKit

set_option maxHeartbeats 16000000 in
set_option maxRecDepth 100000 in
theorem rtakeEd_any {lo g : Nat} {e : Int} {l : List Nat} {w : World} (h : Rdr w lo g e l) :
    Calls Tryz.prog 24 #[.agg #[.pointer (some ⟨g, 0, none⟩)], .int .i64 10000, .func (.func 25) #[.agg #[.pointer (some ⟨g, 0, none⟩)]] #[]] w fun r w' => ∃ v, r = .returned v ∧ EOwn edO w' w.heap.size v (tkLm 10000 tkEd e l).1 ∧ Rdr w' lo g (tkLm 10000 tkEd e l).2.1 (tkLm 10000 tkEd e l).2.2 ∧ w.grownBy w' (some g) := by
  obtain ⟨Y, hY⟩ : ∃ Y, Y = tkLm 10000 tkEd e l := ⟨_, rfl⟩
  rw [← hY]
  unfold tkLm at hY
  have hlt := h.lt
  have hle := nb_le 9007199254740991 e l
  have HR0 := Lib.hid (h.below (bel1 w (.cells #[.pointer (some ⟨g, 0, none⟩)] 43)))
  have HB0 := Lib.hid (heap_alloc_new w (.cells #[.pointer (some ⟨g, 0, none⟩)] 43))
  have HG0 := Lib.hid (grown_of_below (bel1 w (.cells #[.pointer (some ⟨g, 0, none⟩)] 43)) (some g))
  obtain ⟨x1, hx1⟩ : ∃ x, x = nb 9007199254740991 e l := ⟨_, rfl⟩
  have HN1 := Lib.hid hx1
  rw [← hx1] at hY hle
  simp only at hY
  clear h hx1
  obtain ⟨N, e0, l1⟩ := x1
  simp only at hY hle
  obtain ⟨e1, he1⟩ : ∃ e1, e1 = (if 10000 < N then failE e0 270 else e0) := ⟨_, rfl⟩
  rw [← he1] at hY
  have hM : e1 = 0 → N ≤ 10000 := by
    intro h0
    rw [h0] at he1
    split at he1
    · exact absurd he1.symm (failE_no e0)
    · omega
  have HY := Lib.hid hY
  have HE1 := Lib.hid he1
  have HM := Lib.hid hM
  have HW := Lib.hid (show w.heap.size ≠ g by omega)
  have HGL := Lib.hid hlt.2
  have hlg := hlt.2
  clear hY he1 hM hlt
  by_cases hN : 10000 < N
  · have zN : (10000 : Int) < (N : Int) := by omega
    have hee : e1 = failE e0 270 := HE1.out.trans (if_pos hN)
    have hne : e1 ≠ 0 := fun h => by have := HM.out h; omega
    have HX1 := Lib.hid (HY.out.trans (tkM_stop tkEd N hne l1))
    have HEE := Lib.hid hee
    have hne' : (e1 == 0) = false := by simp; exact hne
    have c0 := cell_of HB0.out 0
    simp at c0
    clear hee HY hN hne
    go_enter Tryz.func24, Tryz.ntmps24
    go_wp2_with fail
    refine (rdU_any HR0.out).mono ?_
    rw [← HN1.out]
    rintro r w1 ⟨rfl, hr, hg⟩
    simp only at hr ⊢
    have R1 := Lib.hid hr
    have G1 := Lib.hid (HG0.out.trans hg)
    have HB1 := Lib.hid (gblk HB0.out hg HW.out)
    have c0 := cell_of HB1.out 0
    simp at c0
    clear hr hg
    go_wp2_with fail
    refine (Fail_any 270 R1.out).mono ?_
    rintro r w2 ⟨rfl, hr, hg⟩
    rw [show (if e0 = 0 then (270 : Int) else e0) = e1 by rw [HEE.out]; rfl] at hr
    have R2 := Lib.hid hr
    have G2 := Lib.hid (G1.out.trans hg)
    have HB2 := Lib.hid (gblk HB1.out hg HW.out)
    have zN0 : (0 : Int) < (N : Int) := by omega
    have zN1 : 0 < N := by omega
    clear hr hg
    have c2 := cell_of HB2.out 0
    simp at c2
    go_wp2_with fail
    refine wp_loop_rounds 1 ?_
    rw [rounds_succ]
    go_wp2_with fail
    refine (Err_any R2.out).mono ?_
    rintro r w3 ⟨rfl, rfl⟩
    go_wp2_with fail
    go_ret
    rw [HX1.out]
    exact ⟨_, rfl, EOwn.nil _ _, R2.out, G2.out⟩
  · have zN : ¬ (10000 : Int) < (N : Int) := by omega
    have hee : e1 = e0 := HE1.out.trans (if_neg hN)
    subst hee
    have c0 := cell_of HB0.out 0
    simp at c0
    go_enter Tryz.func24, Tryz.ntmps24
    go_wp2_with fail
    refine (rdU_any HR0.out).mono ?_
    rw [← HN1.out]
    rintro r w1 ⟨rfl, hr, hg⟩
    simp only at hr ⊢
    have R1 := Lib.hid hr
    have G1 := Lib.hid (HG0.out.trans hg)
    have HB1 := Lib.hid (gblk HB0.out hg HW.out)
    clear hr hg c0
    go_wp2_with fail
    go_loopw [7, 8] (fun i o wr => ∃ (m : Nat) (Q : List Edg) (e' : Int) (l' : List Nat), i = .int .i64 (m : Int) ∧ Q.length + m = N ∧ Hid (EOwn edO wr w.heap.size o Q) ∧ Hid (Rdr wr lo g e' l') ∧ Hid (w.grownBy wr (some g)) ∧ Hid (Y = (Q ++ (tkM tkEd m e' l').1, (tkM tkEd m e' l').2)) ∧ Hid (wr.heap[w.heap.size]? = some (.cells #[.pointer (some ⟨g, 0, none⟩)] 43 (0, 0)))) (fun i _ _ => (intOf i).toNat)
    case atStart => exact ⟨N, [], e1, l1, rfl, by simp, Lib.hid (EOwn.nil _ _), R1, G1, Lib.hid (by rw [HY.out]; simp), HB1⟩
    case round =>
      clear R1 G1 HB1
      obtain ⟨m, Q, e', l', rfl, hQm, HO, HR, HG, HT, HB⟩ := hrel
      have c0 := cell_of HB.out 0
      simp at c0
      obtain ⟨Ao, co, eo⟩ := HO.out.len
      subst eo
      by_cases hm : m = 0
      · subst hm
        have HX1 := Lib.hid (show Y = (Q, e', l') by rw [HT.out]; simp [tkM])
        go_wp2_with fail
        go_ret
        rw [HX1.out]
        exact ⟨_, rfl, HO.out, HR.out, HG.out⟩
      · obtain ⟨m', hm'⟩ : ∃ m', m = m' + 1 := ⟨m - 1, by omega⟩
        have zm : (0 : Int) < (m : Int) := by omega
        have zm1 : 0 < m := by omega
        have zm2 : (m : Int) - 1 = (m' : Int) := by omega
        by_cases he : e' = 0
        · subst he
          have hT := HT.out
          rw [hm'] at hT
          unfold tkM at hT
          rw [if_pos rfl] at hT
          have TA0 := rdedge_any HR.out
          obtain ⟨x3, hx3⟩ : ∃ x, x = tkEd 0 l' := ⟨_, rfl⟩
          skip
          rw [← hx3] at hT TA0
          clear hx3
          obtain ⟨x, e2, l2⟩ := x3
          simp only at hT TA0
          unfold Edg.v at TA0
          have TA := Lib.hid TA0
          have HT2 := Lib.hid hT
          have hP8 : Q.length ≤ 1000000000 := by omega
          clear hT TA0 HT
          go_wp2_with fail
          refine (Err_any HR.out).mono ?_
          rintro r w3 ⟨rfl, rfl⟩
          go_wp2_with fail
          refine TA.out.mono ?_
          rintro r w4 ⟨rfl, hr, hg⟩
          skip
          skip
          have R4 := Lib.hid (hr.below (bel1 w4 (.cells #[.string x.fr, .string x.to', .int .i64 x.ct] 58)))
          have O4 := Lib.hid ((HO.out.grown hg (fun k hk => by injection hk with hk; omega)).below (bel1 w4 (.cells #[.string x.fr, .string x.to', .int .i64 x.ct] 58)))
          have G4 := Lib.hid ((HG.out.trans hg).trans (grown_of_below (bel1 w4 (.cells #[.string x.fr, .string x.to', .int .i64 x.ct] 58)) (some g)))
          have BN := Lib.hid (heap_alloc_new w4 (.cells #[.string x.fr, .string x.to', .int .i64 x.ct] 58))
          have HB4 := Lib.hid (blkB (gblk HB.out hg HW.out) (bel1 w4 (.cells #[.string x.fr, .string x.to', .int .i64 x.ct] 58)))
          clear hr hg  c0
          go_wp2_with (at_builtin; refine append_el (O := edO) rfl _ _ 27 _ _ rfl Tryz.underlying27 infoEd rfl (by decide) w.heap.size _ Q x _ rfl O4.out rfl _ rfl _ BN.out (by omega) G4.out.size ?_; intro v5 w5 ho5 hg5)
          have HO5 := Lib.hid ho5
          have R5 := Lib.hid (R4.out.grown hg5 (fun k hk => by have := O4.out.block k hk; omega))
          have G5 := Lib.hid (gown G4.out hg5 O4.out.block)
          have HB5 := Lib.hid ((hg5.block _ (Array.getElem?_eq_some_iff.1 HB4.out).1 (fun e => O4.out.ne2 HB4.out (by decide) e.symm)).trans HB4.out)
          clear ho5 hg5
          go_wp2_with fail
          exact ⟨⟨m', Q ++ [x], e2, l2, by go_num, by rw [List.length_append]; simp; omega, HO5, R5, G5, Lib.hid (by rw [HT2.out]; simp), HB5⟩, by simp [intOf]; omega⟩
        · have he' : (e' == 0) = false := by simp; exact he
          have HX1 := Lib.hid (show Y = (Q, e', l') by rw [HT.out, tkM_stop tkEd m he]; simp)
          clear hm'
          go_wp2_with fail
          refine (Err_any HR.out).mono ?_
          rintro r w3 ⟨rfl, rfl⟩
          go_wp2_with fail
          go_ret
          rw [HX1.out]
          exact ⟨_, rfl, HO.out, HR.out, HG.out⟩
end Go.Proofs.YtfedgjahbmcpoaaGreat
