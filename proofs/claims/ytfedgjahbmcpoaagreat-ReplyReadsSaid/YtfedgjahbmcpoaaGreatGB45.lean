/- The document's TakeAttrs: its contract. No conditions. -/
import Derived.Test.YtfedgjahbmcpoaaGreatGB44
import Derived.Test.YtfedgjahbmcpoaaGreatGB17
import Derived.Test.YtfedgjahbmcpoaaGreatGB23
set_option linter.unusedSimpArgs false
set_option linter.unusedVariables false
namespace Go.Proofs.YtfedgjahbmcpoaaGreat
open Go.RowKit

/-- .. in memory. -/
def RLsR (w w' : World) (r : Ending) (lo g : Nat) (x : List Att × Int × List Nat) : Prop :=
  ∃ v, r = .returned v ∧ w'.ownsRow w.heap.size 101 6 v x.1.length (acs x.1) ∧ Rfr w' lo g x.2.1 x.2.2 ∧ w.grownBy w' (some g)

set_option maxHeartbeats 16000000 in
set_option maxRecDepth 100000 in
theorem refTakeAs_any {lo g : Nat} {e : Int} {l : List Nat} {w : World} (h : Rfr w lo g e l) :
    Calls Tryz.prog 31 #[.pointer (some ⟨g, 0, none⟩)] w fun r w' => RLsR w w' r lo g (tkAs e l) := by
  obtain ⟨X, hX⟩ : ∃ X, X = tkAs e l := ⟨_, rfl⟩
  rw [← hX]
  unfold tkAs at hX
  have hlt := h.lt.2
  have HH := Lib.hid h
  have hok := tkLs_ok e l
  clear h
  obtain ⟨Y, hY⟩ : ∃ Y, Y = tkLs e l := ⟨_, rfl⟩
  rw [← hY] at hX hok
  have HX := Lib.hid hX
  have HOK := Lib.hid hok
  have hle := nb_le 9007199254740991 e l
  unfold tkLs at hY
  clear hX hok
  generalize hx1 : nb 9007199254740991 e l = x1 at *
  obtain ⟨N, e0, l1⟩ := x1
  have HN1 := Lib.hid hx1
  simp only at hY hle
  clear hx1
  by_cases hN : 8 < N
  · have zN : (8 : Int) < (N : Int) := by omega
    rw [if_pos hN] at hY
    obtain ⟨e1, he1⟩ : ∃ e1, e1 = failE e0 4 := ⟨_, rfl⟩
    have hne : e1 ≠ 0 := by rw [he1]; exact failE_ne _ (by decide)
    rw [← he1, tkN_stop N hne l1] at hY
    have HY1 := Lib.hid hY
    have HE1 := Lib.hid (show e1 = if e0 = 0 then 4 else e0 from he1)
    have hne' : (e1 == 0) = false := by simp; exact hne
    clear hY he1 hN
    go_enter Tryz.func31, Tryz.ntmps31
    go_wp2_with fail
    refine (rfU_any HH.out).mono ?_
    rw [HN1.out]
    rintro r w1 ⟨rfl, hr, hg⟩
    simp only at hr ⊢
    have R1 := Lib.hid hr
    have G1 := Lib.hid hg
    clear hr hg
    go_wp2_with fail
    refine (refFail_any 4 R1.out).mono ?_
    rintro r w2 ⟨rfl, hr, hg⟩
    rw [← HE1.out] at hr
    obtain ⟨_, _, _, _, _, ce, _⟩ := hr.open
    have HR := Lib.hid hr
    have HG := Lib.hid (G1.out.trans hg)
    have HO : Hid (w2.ownsRow w.heap.size 101 6 (.slice none 0 0) ([] : List Att).length (acs [])) := Lib.hid (World.ownsRow_nil _ _ _ _)
    have zN0 : (0 : Int) < (N : Int) := by omega
    have zN1 : 0 < N := by omega
    clear hr hg R1 G1
    go_wp2_with fail
    refine wp_loop_rounds 1 ?_
    rw [rounds_succ]
    have HPK : (∀ a ∈ ([] : List Att), a.lab.p < 4294967296) ∧ ([] : List Att).length ≤ 8 := by have := HOK.out; rw [HY1.out] at this; exact this
    have hAS : AS w2 none 0 0 [] := by obtain ⟨A, n, c, he, hAS⟩ := own_as HO.out HPK.1 (by have := HPK.2; omega); cases he; exact hAS
    have MY := Lib.hid (refCheckAttrs_any hAS)
    clear hAS HPK
    go_wp2_with fail
    refine MY.out.mono ?_
    rintro r w5 ⟨rfl, hb5⟩
    have O5' := Lib.hid (own_grown HO.out (grown_of_below hb5 (some g)) (fun k hk => by have := own_block HO.out k hk; omega))
    have R5' := Lib.hid (HR.out.below hb5)
    have G5' := Lib.hid (gbelow HG.out hb5)
    have HX0 : Hid (X = if failE e1 (wrongE (mayA [])) = 0 then ([], 0, l1) else ([], failE e1 (wrongE (mayA [])), l1)) := Lib.hid (by have := HX.out; rw [HY1.out] at this; exact this)
    clear HO HR HG MY hb5
    by_cases hm : mayA [] = 0
    · rw [decide_eq_true hm]
      rw [hm] at HX0
      by_cases hz : e1 = 0
      · have HX2 : Hid (X = ([], 0, l1)) := Lib.hid (HX0.out.trans (if_pos (by rw [hz]; rfl)))
        rw [hz] at R5'
        have R5 := R5'
        have G5 := G5'
        have O5 := O5'
        clear R5' G5' O5' HX0 hz hm
        obtain ⟨_, _, _, _, _, ce, _⟩ := R5.out.open
        go_wp2_with fail
        go_ret
        rw [HX2.out]
        exact ⟨_, rfl, O5.out, R5.out, G5.out⟩
      · have hfe : failE e1 (wrongE 0) = e1 := by unfold failE; rw [if_neg hz]
        have HX2 : Hid (X = ([], e1, l1)) := Lib.hid (HX0.out.trans (by rw [hfe, if_neg hz]))
        have hz' : (e1 != 0) = true := by simp; exact hz
        have R5 := R5'
        have G5 := G5'
        clear R5' G5' O5' HX0 hm hfe
        obtain ⟨_, _, _, _, _, ce, _⟩ := R5.out.open
        go_wp2_with fail
        go_ret
        rw [HX2.out]
        exact ⟨_, rfl, World.ownsRow_nil _ _ _ _, R5.out, G5.out⟩
    · rw [decide_eq_false hm]
      have hwr : wrongE (mayA []) = 4 := if_neg hm
      rw [hwr] at HX0
      go_wp2_with fail
      refine (refFail_any 4 R5'.out).mono ?_
      rintro r w6 ⟨rfl, hr, hg⟩
      have hfe : (if e1 = 0 then (4 : Int) else e1) = failE e1 4 := rfl
      rw [hfe] at hr
      obtain ⟨en, hen⟩ : ∃ en, en = failE e1 4 := ⟨_, rfl⟩
      have hne : en ≠ 0 := by rw [hen]; exact failE_ne _ (by decide)
      rw [← hen] at hr HX0
      have HX2 : Hid (X = ([], en, l1)) := Lib.hid (HX0.out.trans (if_neg hne))
      have hz' : (en != 0) = true := by simp; exact hne
      have R5 := Lib.hid hr
      have G5 := Lib.hid (G5'.out.trans hg)
      clear hr hg R5' G5' O5' HX0 hm hwr hfe hen
      obtain ⟨_, _, _, _, _, ce, _⟩ := R5.out.open
      go_wp2_with fail
      go_ret
      rw [HX2.out]
      exact ⟨_, rfl, World.ownsRow_nil _ _ _ _, R5.out, G5.out⟩
  · have zN : ¬ (8 : Int) < (N : Int) := by omega
    rw [if_neg hN] at hY
    have HY := Lib.hid hY
    clear hY
    go_enter Tryz.func31, Tryz.ntmps31
    go_wp2_with fail
    refine (rfU_any HH.out).mono ?_
    rw [HN1.out]
    rintro r w1 ⟨rfl, hr, hg⟩
    simp only at hr ⊢
    have R1 := Lib.hid hr
    have G1 := Lib.hid hg
    clear hr hg
    go_wp2_with fail
    go_loopw [5, 4] (fun i o wr => ∃ (k m : Nat) (P : List Att) (e' : Int) (l' : List Nat), i = .int .i64 (k : Int) ∧ k + m = N ∧ Hid (P.length ≤ k) ∧ Hid (wr.ownsRow w.heap.size 101 6 o P.length (acs P)) ∧ Hid (Rfr wr lo g e' l') ∧ Hid (w.grownBy wr (some g)) ∧ Hid (Y = (P ++ (tkN m e' l').1, (tkN m e' l').2))) (fun i _ _ => N - (intOf i).toNat)
    case atStart => exact ⟨0, N, [], e0, l1, rfl, by simp, Lib.hid (by simp), Lib.hid (World.ownsRow_nil _ _ _ _), R1, G1, Lib.hid (by rw [HY.out]; simp)⟩
    case round =>
      clear R1 G1
      obtain ⟨k, m, P, e', l', rfl, hPm, HP, HO, HR, HG, HT⟩ := hrel
      obtain ⟨_, _, _, _, _, ce, _⟩ := HR.out.open
      by_cases hm : m = 0
      · subst hm
        have HY1 := Lib.hid (show Y = (P, e', l') by rw [HT.out]; simp [tkN])
        have zk : ¬ (k : Int) < (N : Int) := by omega
        have zk1 : ¬ k < N := by omega
        have HPK : (∀ a ∈ (P : List Att), a.lab.p < 4294967296) ∧ (P : List Att).length ≤ 8 := by have := HOK.out; rw [HY1.out] at this; exact this
        obtain ⟨A, n, c, rfl, hAS⟩ := own_as HO.out HPK.1 (by have := HPK.2; omega)
        have MY := Lib.hid (refCheckAttrs_any hAS)
        clear hAS HPK
        go_wp2_with fail
        refine MY.out.mono ?_
        rintro r w5 ⟨rfl, hb5⟩
        have O5' := Lib.hid (own_grown HO.out (grown_of_below hb5 (some g)) (fun k hk => by have := own_block HO.out k hk; omega))
        have R5' := Lib.hid (HR.out.below hb5)
        have G5' := Lib.hid (gbelow HG.out hb5)
        have HX0 : Hid (X = if failE e' (wrongE (mayA P)) = 0 then (P, 0, l') else ([], failE e' (wrongE (mayA P)), l')) := Lib.hid (by have := HX.out; rw [HY1.out] at this; exact this)
        clear HO HR HG MY hb5
        by_cases hm : mayA P = 0
        · rw [decide_eq_true hm]
          rw [hm] at HX0
          by_cases hz : e' = 0
          · have HX2 : Hid (X = (P, 0, l')) := Lib.hid (HX0.out.trans (if_pos (by rw [hz]; rfl)))
            rw [hz] at R5'
            have R5 := R5'
            have G5 := G5'
            have O5 := O5'
            clear R5' G5' O5' HX0 hz hm
            obtain ⟨_, _, _, _, _, ce, _⟩ := R5.out.open
            go_wp2_with fail
            go_ret
            rw [HX2.out]
            exact ⟨_, rfl, O5.out, R5.out, G5.out⟩
          · have hfe : failE e' (wrongE 0) = e' := by unfold failE; rw [if_neg hz]
            have HX2 : Hid (X = ([], e', l')) := Lib.hid (HX0.out.trans (by rw [hfe, if_neg hz]))
            have hz' : (e' != 0) = true := by simp; exact hz
            have R5 := R5'
            have G5 := G5'
            clear R5' G5' O5' HX0 hm hfe
            obtain ⟨_, _, _, _, _, ce, _⟩ := R5.out.open
            go_wp2_with fail
            go_ret
            rw [HX2.out]
            exact ⟨_, rfl, World.ownsRow_nil _ _ _ _, R5.out, G5.out⟩
        · rw [decide_eq_false hm]
          have hwr : wrongE (mayA P) = 4 := if_neg hm
          rw [hwr] at HX0
          go_wp2_with fail
          refine (refFail_any 4 R5'.out).mono ?_
          rintro r w6 ⟨rfl, hr, hg⟩
          have hfe : (if e' = 0 then (4 : Int) else e') = failE e' 4 := rfl
          rw [hfe] at hr
          obtain ⟨en, hen⟩ : ∃ en, en = failE e' 4 := ⟨_, rfl⟩
          have hne : en ≠ 0 := by rw [hen]; exact failE_ne _ (by decide)
          rw [← hen] at hr HX0
          have HX2 : Hid (X = ([], en, l')) := Lib.hid (HX0.out.trans (if_neg hne))
          have hz' : (en != 0) = true := by simp; exact hne
          have R5 := Lib.hid hr
          have G5 := Lib.hid (G5'.out.trans hg)
          clear hr hg R5' G5' O5' HX0 hm hwr hfe hen
          obtain ⟨_, _, _, _, _, ce, _⟩ := R5.out.open
          go_wp2_with fail
          go_ret
          rw [HX2.out]
          exact ⟨_, rfl, World.ownsRow_nil _ _ _ _, R5.out, G5.out⟩
      · obtain ⟨m', hm'⟩ : ∃ m', m = m' + 1 := ⟨m - 1, by omega⟩
        have zk : (k : Int) < (N : Int) := by omega
        have zk1 : k < N := by omega
        by_cases he : e' = 0
        · subst he
          have hT := HT.out
          rw [hm'] at hT
          unfold tkN at hT
          rw [if_pos rfl] at hT
          unfold tkA at hT
          have T1 := Lib.hid (rfText_any 24 HR.out)
          have hby := HR.out
          generalize txt 24 0 l' = x3 at *
          obtain ⟨s, e3, l3⟩ := x3
          simp only at hT
          have T2 := Lib.hid (fun (w : World) (h : Rfr w lo g e3 l3) => refTakeL_any h)
          generalize tkL e3 l3 = x4 at *
          obtain ⟨lb, e4, l4⟩ := x4
          simp only at hT T2
          have T3 := Lib.hid (fun (w : World) (h : Rfr w lo g e4 l4) => refTakeV_any h)
          generalize tkV e4 l4 = x5 at *
          obtain ⟨v, e5, l5⟩ := x5
          simp only at hT T3
          have HT2 := Lib.hid hT
          have hP8 : P.length ≤ 1000000000 := by have := HP.out; omega
          clear hT HT hby
          unfold Lab.v at T2
          unfold Val.v at T3
          go_wp2_with fail
          refine T1.out.mono ?_
          rintro r w3 ⟨rfl, _, _, hr, hg⟩
          simp only at hr hg ⊢
          have R3 := Lib.hid hr
          have O3 := Lib.hid (own_grown HO.out hg (fun k hk => by have := own_block HO.out k hk; omega))
          have G3 := Lib.hid (HG.out.trans hg)
          clear hr hg
          go_wp2_with fail
          refine (T2.out _ R3.out).mono ?_
          rintro r w4 ⟨rfl, hr, hg⟩
          have R4 := Lib.hid hr
          have O4 := Lib.hid (own_grown O3.out hg (fun k hk => by have := own_block O3.out k hk; omega))
          have G4 := Lib.hid (G3.out.trans hg)
          clear hr hg R3 O3 G3
          go_wp2_with fail
          refine (T3.out _ R4.out).mono ?_
          rintro r w5 ⟨rfl, hr, hg⟩
          obtain ⟨a, ha⟩ : ∃ a : Att, a = ⟨bs s, lb, v⟩ := ⟨_, rfl⟩
          have R5 := Lib.hid (hr.grown (World.grownBy_alloc w5 (.cells #[.string a.name, .int .i64 a.lab.l, .int .u32 (a.lab.p : Int), .int .i64 a.val.k, .int .i64 a.val.n, .string a.val.b] 101) none) (fun j hj => by cases hj))
          have O5 := Lib.hid ((own_grown O4.out hg (fun k hk => by have := own_block O4.out k hk; omega)).alloc (.cells #[.string a.name, .int .i64 a.lab.l, .int .u32 (a.lab.p : Int), .int .i64 a.val.k, .int .i64 a.val.n, .string a.val.b] 101))
          have G5 := Lib.hid (galloc (G4.out.trans hg) (.cells #[.string a.name, .int .i64 a.lab.l, .int .u32 (a.lab.p : Int), .int .i64 a.val.k, .int .i64 a.val.n, .string a.val.b] 101))
          have BN := Lib.hid (BA.new w5 a)
          rw [← ha] at HT2
          subst ha
          clear hr hg R4 O4 G4
          go_wp2_with (at_builtin; refine append_att rfl _ _ rfl w.heap.size _ P ⟨bs s, lb, v⟩ rfl O5.out _ rfl BN.out hP8 G5.out.size ?_; intro v6 w6 ho6 hg6 hv6)
          have HO6 := Lib.hid ho6
          have R6 := Lib.hid (R5.out.grown hg6 (fun k hk => by have := own_block O5.out k hk; omega))
          have G6 := Lib.hid (gown G5.out hg6 (own_block O5.out))
          clear ho6 hg6 hv6
          have zw : IntKind.i64.wrap ((k : Int) + 1) = ((k + 1 : Nat) : Int) := by rw [IntKind.wrap_i64]; omega
          go_wp2_with fail
          exact ⟨⟨k + 1, m', P ++ [⟨bs s, lb, v⟩], e5, l5, by go_num, by omega, Lib.hid (by rw [List.length_append]; have := HP.out; simp; omega), HO6, R6, G6, Lib.hid (by rw [HT2.out]; simp)⟩, by simp [intOf]; omega⟩
        · have he' : (e' == 0) = false := by simp; exact he
          have HY1 := Lib.hid (show Y = (P, e', l') by rw [HT.out, tkN_stop m he]; simp)
          clear hm'
          have HPK : (∀ a ∈ (P : List Att), a.lab.p < 4294967296) ∧ (P : List Att).length ≤ 8 := by have := HOK.out; rw [HY1.out] at this; exact this
          obtain ⟨A, n, c, rfl, hAS⟩ := own_as HO.out HPK.1 (by have := HPK.2; omega)
          have MY := Lib.hid (refCheckAttrs_any hAS)
          clear hAS HPK
          go_wp2_with fail
          refine MY.out.mono ?_
          rintro r w5 ⟨rfl, hb5⟩
          have O5' := Lib.hid (own_grown HO.out (grown_of_below hb5 (some g)) (fun k hk => by have := own_block HO.out k hk; omega))
          have R5' := Lib.hid (HR.out.below hb5)
          have G5' := Lib.hid (gbelow HG.out hb5)
          have HX0 : Hid (X = if failE e' (wrongE (mayA P)) = 0 then (P, 0, l') else ([], failE e' (wrongE (mayA P)), l')) := Lib.hid (by have := HX.out; rw [HY1.out] at this; exact this)
          clear HO HR HG MY hb5
          by_cases hm : mayA P = 0
          · rw [decide_eq_true hm]
            rw [hm] at HX0
            by_cases hz : e' = 0
            · have HX2 : Hid (X = (P, 0, l')) := Lib.hid (HX0.out.trans (if_pos (by rw [hz]; rfl)))
              rw [hz] at R5'
              have R5 := R5'
              have G5 := G5'
              have O5 := O5'
              clear R5' G5' O5' HX0 hz hm
              obtain ⟨_, _, _, _, _, ce, _⟩ := R5.out.open
              go_wp2_with fail
              go_ret
              rw [HX2.out]
              exact ⟨_, rfl, O5.out, R5.out, G5.out⟩
            · have hfe : failE e' (wrongE 0) = e' := by unfold failE; rw [if_neg hz]
              have HX2 : Hid (X = ([], e', l')) := Lib.hid (HX0.out.trans (by rw [hfe, if_neg hz]))
              have hz' : (e' != 0) = true := by simp; exact hz
              have R5 := R5'
              have G5 := G5'
              clear R5' G5' O5' HX0 hm hfe
              obtain ⟨_, _, _, _, _, ce, _⟩ := R5.out.open
              go_wp2_with fail
              go_ret
              rw [HX2.out]
              exact ⟨_, rfl, World.ownsRow_nil _ _ _ _, R5.out, G5.out⟩
          · rw [decide_eq_false hm]
            have hwr : wrongE (mayA P) = 4 := if_neg hm
            rw [hwr] at HX0
            go_wp2_with fail
            refine (refFail_any 4 R5'.out).mono ?_
            rintro r w6 ⟨rfl, hr, hg⟩
            have hfe : (if e' = 0 then (4 : Int) else e') = failE e' 4 := rfl
            rw [hfe] at hr
            obtain ⟨en, hen⟩ : ∃ en, en = failE e' 4 := ⟨_, rfl⟩
            have hne : en ≠ 0 := by rw [hen]; exact failE_ne _ (by decide)
            rw [← hen] at hr HX0
            have HX2 : Hid (X = ([], en, l')) := Lib.hid (HX0.out.trans (if_neg hne))
            have hz' : (en != 0) = true := by simp; exact hne
            have R5 := Lib.hid hr
            have G5 := Lib.hid (G5'.out.trans hg)
            clear hr hg R5' G5' O5' HX0 hm hwr hfe hen
            obtain ⟨_, _, _, _, _, ce, _⟩ := R5.out.open
            go_wp2_with fail
            go_ret
            rw [HX2.out]
            exact ⟨_, rfl, World.ownsRow_nil _ _ _ _, R5.out, G5.out⟩
end Go.Proofs.YtfedgjahbmcpoaaGreat
