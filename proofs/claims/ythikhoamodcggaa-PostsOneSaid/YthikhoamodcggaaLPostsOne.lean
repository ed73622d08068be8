/- The walk of the law PostsOne. No conditions. -/
import Derived.Test.YthikhoamodcggaaPoX
set_option linter.unusedSimpArgs false
set_option linter.unusedVariables false
namespace Go.Proofs.Ythikhoamodcggaa
open Go.RowKit

theorem eqtrue (l : List Int) : decide (l = l) = true := decide_eq_true rfl
set_option maxHeartbeats 32000000 in
set_option maxRecDepth 100000 in
theorem postsOne_walk (A : Option Addr) (c : Nat) (l : List Int) (x m : Int) (w : World) (hA : IS w A c l) (hx : I64 x) (hm : I64 m) :
    Calls Try.prog 6 #[.slice A l.length c, .int .i64 x, .int .i64 m] w fun e w' => e = .returned (.bool true) ∧ Below w.heap.size w w' := by
  have hf : Fit l := hA.fit
  have hlm : l.length ≤ 17592186043904 := by have := hA.lim; omega
  have p1 := putP_ok hf hx
  have p2 := cutP_ok (x := x) hf
  have p3 := pageP_ok (x := x) (m := m) hf
  have hI := IL.ofIS hA
  have CC := Lib.hid (fun (w : World) (B : Option Addr) (k d : Nat) (h : IL w B k d l) => copyInts_any B k d l w h)
  have C1 := Lib.hid (fun (w : World) (B : Option Addr) (k d : Nat) (h : IL w B k d l) => Put_any x hx h (by omega))
  have C2 := Lib.hid (fun (w : World) (B : Option Addr) (k d : Nat) (h : IL w B k d l) => refPut_any x hx h (by omega))
  have C3 := Lib.hid (fun (w : World) (B : Option Addr) (k d : Nat) (h : IL w B k d l) => Cut_any x h)
  have C4 := Lib.hid (fun (w : World) (B : Option Addr) (k d : Nat) (h : IL w B k d l) => refCut_any x hx h)
  have C5 := Lib.hid (fun (w : World) (B : Option Addr) (k d : Nat) (h : IL w B k d l) => Page_any x m hm h)
  have C6 := Lib.hid (fun (w : World) (B : Option Addr) (k d : Nat) (h : IL w B k d l) => refPage_any x m hx hm h)
  have C7 := Lib.hid (fun (w : World) (B : Option Addr) (k d : Nat) (h : IL w B k d l) => checkI_any h)
  have C8 := Lib.hid (fun (w : World) (B : Option Addr) (k d : Nat) (h : IL w B k d l) => refCheckI_any h)
  have C9 := Lib.hid (fun (w : World) (B : Option Addr) (k d : Nat) (h : IL w B k d l) => Has_any x h)
  have C10 := Lib.hid (fun (w : World) (B : Option Addr) (k d : Nat) (h : IL w B k d l) => refHas_any x hx h)
  have C11 := Lib.hid (fun (w : World) (B D : Option Addr) (k d j e : Nat) (h : IL w B k d l) (h2 : IL w D j e l) => eqInts_any B D k d j e l l w h h2)
  generalize putP l x = P at *
  generalize cutP l x = Q at *
  generalize pageP l x m = R at *
  generalize chkI l = ck at *
  generalize decide (Inc l ∧ x ∈ l) = hh at *
  obtain ⟨P, pe⟩ := P
  obtain ⟨Q, qe⟩ := Q
  obtain ⟨R, ry, re⟩ := R
  simp only at p1 p2 p3 C1 C2 C3 C4
  have HP1 := Lib.hid p1
  have HP2 := Lib.hid p2
  have HP3 := Lib.hid p3
  have hcc := eqtrue l
  rw [hcc] at C11
  obtain ⟨L, hL⟩ : ∃ L, L = l.length := ⟨_, rfl⟩
  have HL := Lib.hid (show IL w A L c l by rw [hL]; exact hI)
  have HLL := Lib.hid hL
  have hlm' : L ≤ 17592186043904 := by rw [hL]; exact hlm
  rw [← hL]
  have HF := Lib.hid hf
  clear p1 p2 p3 hI hlm hcc hA hf hx hm hL
  go_enter Try.func6, Try.ntmps6
  go_wp2_with fail
  refine (CC.out _ _ _ _ HL.out).mono ?_
  rintro e w1 ⟨v7, rfl, ho, hb1⟩
  obtain ⟨A7, n7, c7, rfl, hI7, _⟩ := ownsRow_il ho HF.out (by have := HLL.out; omega)
  have hbw1 := hb1
  clear ho
  have IN_1 := Lib.hid (hI7)
  clear hI7
  have HW1 := Lib.hid hbw1
  have HIN0 := Lib.hid IN_1.out
  go_wp2_with fail
  refine (C1.out _ _ _ _ IN_1.out).mono ?_
  rintro e w2 ⟨v8, rfl, ho, hb2⟩
  obtain ⟨A8, n8, c8, rfl, hI, _⟩ := ownsRow_il ho HP1.out.1 (by have := HP1.out.2; have := HLL.out; omega)
  have hr := Row0.of ho hI.len
  have hn8 : n8 ≤ 17592186044416 := by rw [hI.len]; exact hI.lim
  have hz8 : w1.heap.size ≤ w1.heap.size := (bel0 w1).size
  have IN_2 := Lib.hid (IN_1.out.below hb2)
  have hbw2 := nx hbw1 hb2
  clear IN_1 ho
  have hq2 := nx (bel0 w1) hb2
  have R8_2 := Lib.hid (hI)
  have O8_2 := Lib.hid (hr)
  clear hI hr
  go_wp2_with fail
  refine (C2.out _ _ _ _ (HL.out.below hbw2)).mono ?_
  intro e w3 hh2
  obtain ⟨A10, n10, c10, rfl, hI, _, hb3⟩ := hh2.open HP1.out.1 (by have := HP1.out.2; have := HLL.out; omega)
  have IN_3 := Lib.hid (IN_2.out.below hb3)
  have R8_3 := Lib.hid (R8_2.out.below hb3)
  have O8_3 := Lib.hid (O8_2.out.below hb3)
  have hbw3 := nx hbw2 hb3
  clear IN_2 R8_2 O8_2 hh2
  have hq3 := nx hq2 hb3
  have R10_3 := Lib.hid (hI)
  clear hI
  go_wp2_with fail
  refine (C3.out _ _ _ _ IN_3.out).mono ?_
  rintro e w4 ⟨v12, rfl, ho, hb4⟩
  obtain ⟨A12, n12, c12, rfl, hI, _⟩ := ownsRow_il ho HP2.out.1 (by have := HP2.out.2; have := HLL.out; omega)
  have hr := Row0.of ho hI.len
  have hn12 : n12 ≤ 17592186044416 := by rw [hI.len]; exact hI.lim
  have GLT := Lib.hid (fun g (e : A8 = some ⟨g, 0, none⟩) => show g < w3.heap.size from by
    obtain ⟨xs, _, h2⟩ := O8_3.out
    exact (h2.lt g (by rw [e]; rfl)).2)
  have hz12 : w1.heap.size ≤ w3.heap.size := hq3.size
  have IN_4 := Lib.hid (IN_3.out.below hb4)
  have R8_4 := Lib.hid (R8_3.out.below hb4)
  have O8_4 := Lib.hid (O8_3.out.below hb4)
  have R10_4 := Lib.hid (R10_3.out.below hb4)
  have hbw4 := nx hbw3 hb4
  clear IN_3 R8_3 O8_3 R10_3 ho
  have hq4 := nx hq3 hb4
  have R12_4 := Lib.hid (hI)
  have O12_4 := Lib.hid (hr)
  clear hI hr
  go_wp2_with fail
  as_aux_lemma =>
    refine (C4.out _ _ _ _ (HL.out.below hbw4)).mono ?_
    intro e w5 hh2
    obtain ⟨A14, n14, c14, rfl, hI, _, hb5⟩ := hh2.open HP2.out.1 (by have := HP2.out.2; have := HLL.out; omega)
    have IN_5 := Lib.hid (IN_4.out.below hb5)
    have R8_5 := Lib.hid (R8_4.out.below hb5)
    have O8_5 := Lib.hid (O8_4.out.below hb5)
    have R10_5 := Lib.hid (R10_4.out.below hb5)
    have R12_5 := Lib.hid (R12_4.out.below hb5)
    have O12_5 := Lib.hid (O12_4.out.below hb5)
    have hbw5 := nx hbw4 hb5
    clear IN_4 R8_4 O8_4 R10_4 R12_4 O12_4 hh2
    have hq5 := nx hq4 hb5
    have R14_5 := Lib.hid (hI)
    clear hI
    go_wp2_with fail
    refine (C5.out _ _ _ _ IN_5.out).mono ?_
    intro e w6 hh2
    obtain ⟨A16, n16, c16, rfl, hI, _, hb6⟩ := hh2.open HP3.out.1 (by have := HP3.out.2; have := HLL.out; show R.length ≤ _; omega)
    have IN_6 := Lib.hid (IN_5.out.below hb6)
    have R8_6 := Lib.hid (R8_5.out.below hb6)
    have O8_6 := Lib.hid (O8_5.out.below hb6)
    have R10_6 := Lib.hid (R10_5.out.below hb6)
    have R12_6 := Lib.hid (R12_5.out.below hb6)
    have O12_6 := Lib.hid (O12_5.out.below hb6)
    have R14_6 := Lib.hid (R14_5.out.below hb6)
    have hbw6 := nx hbw5 hb6
    clear IN_5 R8_5 O8_5 R10_5 R12_5 O12_5 R14_5 hh2
    have hq6 := nx hq5 hb6
    have R16_6 := Lib.hid (hI)
    clear hI
    go_wp2_with fail
    refine (C6.out _ _ _ _ (HL.out.below hbw6)).mono ?_
    intro e w7 hh2
    obtain ⟨A19, n19, c19, rfl, hI, _, hb7⟩ := hh2.open HP3.out.1 (by have := HP3.out.2; have := HLL.out; show R.length ≤ _; omega)
    have IN_7 := Lib.hid (IN_6.out.below hb7)
    have R8_7 := Lib.hid (R8_6.out.below hb7)
    have O8_7 := Lib.hid (O8_6.out.below hb7)
    have R10_7 := Lib.hid (R10_6.out.below hb7)
    have R12_7 := Lib.hid (R12_6.out.below hb7)
    have O12_7 := Lib.hid (O12_6.out.below hb7)
    have R14_7 := Lib.hid (R14_6.out.below hb7)
    have R16_7 := Lib.hid (R16_6.out.below hb7)
    have hbw7 := nx hbw6 hb7
    clear IN_6 R8_6 O8_6 R10_6 R12_6 O12_6 R14_6 R16_6 hh2
    have hq7 := nx hq6 hb7
    have R19_7 := Lib.hid (hI)
    clear hI
    go_wp2_with fail
    as_aux_lemma =>
      refine (C7.out _ _ _ _ IN_7.out).mono ?_
      rintro e w8 ⟨rfl, hb8⟩
      have IN_8 := Lib.hid (IN_7.out.below hb8)
      have R8_8 := Lib.hid (R8_7.out.below hb8)
      have O8_8 := Lib.hid (O8_7.out.below hb8)
      have R10_8 := Lib.hid (R10_7.out.below hb8)
      have R12_8 := Lib.hid (R12_7.out.below hb8)
      have O12_8 := Lib.hid (O12_7.out.below hb8)
      have R14_8 := Lib.hid (R14_7.out.below hb8)
      have R16_8 := Lib.hid (R16_7.out.below hb8)
      have R19_8 := Lib.hid (R19_7.out.below hb8)
      have hbw8 := nx hbw7 hb8
      clear IN_7 R8_7 O8_7 R10_7 R12_7 O12_7 R14_7 R16_7 R19_7
      have hq8 := nx hq7 hb8
      go_wp2_with fail
      refine (C8.out _ _ _ _ (HL.out.below hbw8)).mono ?_
      rintro e w9 ⟨rfl, hb9⟩
      have IN_9 := Lib.hid (IN_8.out.below hb9)
      have R8_9 := Lib.hid (R8_8.out.below hb9)
      have O8_9 := Lib.hid (O8_8.out.below hb9)
      have R10_9 := Lib.hid (R10_8.out.below hb9)
      have R12_9 := Lib.hid (R12_8.out.below hb9)
      have O12_9 := Lib.hid (O12_8.out.below hb9)
      have R14_9 := Lib.hid (R14_8.out.below hb9)
      have R16_9 := Lib.hid (R16_8.out.below hb9)
      have R19_9 := Lib.hid (R19_8.out.below hb9)
      have hbw9 := nx hbw8 hb9
      clear IN_8 R8_8 O8_8 R10_8 R12_8 O12_8 R14_8 R16_8 R19_8
      have hq9 := nx hq8 hb9
      go_wp2_with fail
      refine (C9.out _ _ _ _ IN_9.out).mono ?_
      rintro e w10 ⟨rfl, hb10⟩
      have IN_10 := Lib.hid (IN_9.out.below hb10)
      have R8_10 := Lib.hid (R8_9.out.below hb10)
      have O8_10 := Lib.hid (O8_9.out.below hb10)
      have R10_10 := Lib.hid (R10_9.out.below hb10)
      have R12_10 := Lib.hid (R12_9.out.below hb10)
      have O12_10 := Lib.hid (O12_9.out.below hb10)
      have R14_10 := Lib.hid (R14_9.out.below hb10)
      have R16_10 := Lib.hid (R16_9.out.below hb10)
      have R19_10 := Lib.hid (R19_9.out.below hb10)
      have hbw10 := nx hbw9 hb10
      clear IN_9 R8_9 O8_9 R10_9 R12_9 O12_9 R14_9 R16_9 R19_9
      have hq10 := nx hq9 hb10
      go_wp2_with fail
      refine (C10.out _ _ _ _ (HL.out.below hbw10)).mono ?_
      rintro e w11 ⟨rfl, hb11⟩
      have IN_11 := Lib.hid (IN_10.out.below hb11)
      have R8_11 := Lib.hid (R8_10.out.below hb11)
      have O8_11 := Lib.hid (O8_10.out.below hb11)
      have R10_11 := Lib.hid (R10_10.out.below hb11)
      have R12_11 := Lib.hid (R12_10.out.below hb11)
      have O12_11 := Lib.hid (O12_10.out.below hb11)
      have R14_11 := Lib.hid (R14_10.out.below hb11)
      have R16_11 := Lib.hid (R16_10.out.below hb11)
      have R19_11 := Lib.hid (R19_10.out.below hb11)
      have hbw11 := nx hbw10 hb11
      clear IN_10 R8_10 O8_10 R10_10 R12_10 O12_10 R14_10 R16_10 R19_10
      have hq11 := nx hq10 hb11
      go_wp2_with fail
      as_aux_lemma =>
        refine (eqInts_any A8 A10 n8 c8 n10 c10 P P _ R8_11.out R10_11.out).mono ?_
        rw [eqtrue]
        rintro e w12 ⟨rfl, hb12⟩
        have IN_12 := Lib.hid (IN_11.out.below hb12)
        have R8_12 := Lib.hid (R8_11.out.below hb12)
        have O8_12 := Lib.hid (O8_11.out.below hb12)
        have R10_12 := Lib.hid (R10_11.out.below hb12)
        have R12_12 := Lib.hid (R12_11.out.below hb12)
        have O12_12 := Lib.hid (O12_11.out.below hb12)
        have R14_12 := Lib.hid (R14_11.out.below hb12)
        have R16_12 := Lib.hid (R16_11.out.below hb12)
        have R19_12 := Lib.hid (R19_11.out.below hb12)
        have hbw12 := nx hbw11 hb12
        clear IN_11 R8_11 O8_11 R10_11 R12_11 O12_11 R14_11 R16_11 R19_11
        have hq12 := nx hq11 hb12
        go_wp2_with fail
        refine (eqInts_any A12 A14 n12 c12 n14 c14 Q Q _ R12_12.out R14_12.out).mono ?_
        rw [eqtrue]
        rintro e w13 ⟨rfl, hb13⟩
        have IN_13 := Lib.hid (IN_12.out.below hb13)
        have R8_13 := Lib.hid (R8_12.out.below hb13)
        have O8_13 := Lib.hid (O8_12.out.below hb13)
        have R10_13 := Lib.hid (R10_12.out.below hb13)
        have R12_13 := Lib.hid (R12_12.out.below hb13)
        have O12_13 := Lib.hid (O12_12.out.below hb13)
        have R14_13 := Lib.hid (R14_12.out.below hb13)
        have R16_13 := Lib.hid (R16_12.out.below hb13)
        have R19_13 := Lib.hid (R19_12.out.below hb13)
        have hbw13 := nx hbw12 hb13
        clear IN_12 R8_12 O8_12 R10_12 R12_12 O12_12 R14_12 R16_12 R19_12
        have hq13 := nx hq12 hb13
        go_wp2_with fail
        refine (eqInts_any A16 A19 n16 c16 n19 c19 R R _ R16_13.out R19_13.out).mono ?_
        rw [eqtrue]
        rintro e w14 ⟨rfl, hb14⟩
        have IN_14 := Lib.hid (IN_13.out.below hb14)
        have R8_14 := Lib.hid (R8_13.out.below hb14)
        have O8_14 := Lib.hid (O8_13.out.below hb14)
        have R10_14 := Lib.hid (R10_13.out.below hb14)
        have R12_14 := Lib.hid (R12_13.out.below hb14)
        have O12_14 := Lib.hid (O12_13.out.below hb14)
        have R14_14 := Lib.hid (R14_13.out.below hb14)
        have R16_14 := Lib.hid (R16_13.out.below hb14)
        have R19_14 := Lib.hid (R19_13.out.below hb14)
        have hbw14 := nx hbw13 hb14
        clear IN_13 R8_13 O8_13 R10_13 R12_13 O12_13 R14_13 R16_13 R19_13
        have hq14 := nx hq13 hb14
        go_wp2_with fail
        clear R8_14
        clear R10_14
        clear R12_14
        clear R14_14
        clear R16_14
        clear R19_14
        as_aux_lemma =>
          obtain ⟨wz, hwz⟩ : ∃ z : World, z = w14 := ⟨_, rfl⟩
          rw [← hwz]
          have HB1 : Hid (Below w1.heap.size w1 wz) := Lib.hid (by rw [hwz]; exact hq14)
          have HO8 : Hid (Row0 wz w1.heap.size (.slice A8 n8 c8) n8) := Lib.hid (by rw [hwz]; exact O8_14.out)
          have HO12 : Hid (Row0 wz w3.heap.size (.slice A12 n12 c12) n12) := Lib.hid (by rw [hwz]; exact O12_14.out)
          have HIN := Lib.hid IN_14.out
          have hb1' := HB1.out
          clear hwz
          go_loopw [22] (fun i wr => ∃ k : Nat, k ≤ n8 ∧ i = .int .i64 k ∧ Below w1.heap.size w1 wr ∧ Hid (Row0 wr w1.heap.size (.slice A8 n8 c8) n8) ∧ Hid (Row0 wr w3.heap.size (.slice A12 n12 c12) n12)) (fun i _ => n8 - (intOf i).toNat)
          case atStart => exact ⟨0, Nat.zero_le _, rfl, hb1', HO8, HO12⟩
          case round =>
            clear hb1' HO8 HO12
            obtain ⟨k, hk, rfl, hb, HO8, HO12⟩ := hrel
            by_cases hlt : k < n8
            · obtain ⟨g, y, rfl, hg1, hg2, hc, hfz⟩ := HO8.out.cell hlt
              have haa : (⟨g, 0, none⟩ : Addr).add k = ⟨g, k, none⟩ := by rw [addr_add, Nat.zero_add]
              have HS8 := Lib.hid (HO8.out.store k (-1))
              have HS12 : Hid (Row0 (wr.setCell ⟨g, k, none⟩ (.int .i64 (-1))) w3.heap.size (.slice A12 n12 c12) n12) := Lib.hid (HO12.out.apart (GLT.out g rfl) k _)
              have hbs : Below w1.heap.size w1 (wr.setCell ⟨g, k, none⟩ (.int .i64 (-1))) := hb.setCell (by show w1.heap.size ≤ g; omega) _
              go_wp2_with fail
              exact ⟨⟨k + 1, by omega, by go_num, hbs, HS8, HS12⟩, by simp [intOf]; omega⟩
            · obtain rfl : k = n8 := by omega
              clear HO8
              go_wp2_with fail
              go_loopw [23] (fun i wr => ∃ k : Nat, k ≤ n12 ∧ i = .int .i64 k ∧ Below w1.heap.size w1 wr ∧ Hid (Row0 wr w3.heap.size (.slice A12 n12 c12) n12)) (fun i _ => n12 - (intOf i).toNat)
              case atStart => exact ⟨0, Nat.zero_le _, rfl, hb, HO12⟩
              case round =>
                clear hb HO12
                obtain ⟨j, hj, rfl, hb, HO12⟩ := hrel
                by_cases hlt : j < n12
                · obtain ⟨g, y, rfl, hg1, hg2, hc, hfz⟩ := HO12.out.cell hlt
                  have haa : (⟨g, 0, none⟩ : Addr).add j = ⟨g, j, none⟩ := by rw [addr_add, Nat.zero_add]
                  have HS12 := Lib.hid (HO12.out.store j (-1))
                  have hbs : Below w1.heap.size w1 (wr.setCell ⟨g, j, none⟩ (.int .i64 (-1))) := hb.setCell (by show w1.heap.size ≤ g; omega) _
                  go_wp2_with fail
                  exact ⟨⟨j + 1, by omega, by go_num, hbs, HS12⟩, by simp [intOf]; omega⟩
                · obtain rfl : j = n12 := by omega
                  have hbw := nx HW1.out hb
                  go_wp2_with fail
                  refine (C11.out _ _ _ _ _ _ _ (HIN0.out.below hb) (HL.out.below hbw)).mono ?_
                  rintro e u1 ⟨rfl, hu1⟩
                  go_wp2_with fail
                  refine (works21_any _).mono ?_
                  rintro e u2 ⟨rfl, hu2⟩
                  go_wp2_with fail
                  go_ret
                  exact ⟨rfl, nx (nx hbw hu1) hu2⟩
end Go.Proofs.Ythikhoamodcggaa
