/- The walk of the law PostsPages. No conditions. -/
import Derived.Test.YthikhoamodcggaaPoM
set_option linter.unusedSimpArgs false
set_option linter.unusedVariables false
namespace Go.Proofs.Ythikhoamodcggaa
open Go.RowKit

theorem up1 {l : List Int} (h : Inc l) (h2 : ∀ x ∈ l, x < 200) : Inc (l.map (· + 1)) ∧ (∀ x ∈ l.map (· + 1), 1 ≤ x ∧ x < 300) ∧ (l.map (· + 1)).length ≤ 200 := by
  refine ⟨⟨fun x hx => ?_, ?_⟩, fun x hx => ?_, ?_⟩
  · obtain ⟨y, hy, rfl⟩ := List.mem_map.1 hx
    have := h.1 y hy
    omega
  · rw [List.pairwise_map]
    exact h.2.imp (fun h => by omega)
  · obtain ⟨y, hy, rfl⟩ := List.mem_map.1 hx
    have := h.1 y hy
    have := h2 y hy
    omega
  · rw [List.length_map]
    exact inc_len h 200 h2
theorem take_map1 {l : List Int} {k : Nat} (hk : k < l.length) : (l.take (k + 1)).map (· + 1) = (l.take k).map (· + 1) ++ [l[k] + 1] := by
  rw [take_snocI l k hk, List.map_append]
  rfl
theorem cnt_self {l : List Int} (h : Inc l) {i : Nat} (hi : i < l.length) : l.countP (· < l[i]) = i := by
  rcases Nat.lt_trichotomy (l.countP (· < l[i])) i with hc | hc | hc
  · have h1 := cnt_ge h l[i] (i := l.countP (· < l[i])) (by omega) (Nat.le_refl _)
    exact absurd (inc_lt h hc hi) h1
  · exact hc
  · exact absurd (cnt_lt h l[i] hi hc) (by omega)
theorem page_at {l : List Int} (hi : Inc l) {f : Int} {d N : Nat} (hd : l.countP (· < f) = d) (hn : 1 ≤ N) :
    pageP l f (N : Int) = if N < l.length - d then ((l.drop d).take N, (l.drop d).getD N 0, 0) else (l.drop d, 0, 0) := by
  unfold pageP restP
  rw [if_pos hi, if_neg (by omega), hd, List.length_drop]
  by_cases h : N < l.length - d
  · rw [if_pos h, if_pos (by omega), Int.toNat_natCast]
  · rw [if_neg h, if_neg (by omega)]

set_option maxHeartbeats 32000000 in
set_option maxRecDepth 100000 in
theorem postsPages_walk (A : Option Addr) (c : Nat) (l : List Int) (many : Int) (w : World) (hA : IS w A c l) (hm : I64 many) :
    Calls Try.prog 5 #[.slice A l.length c, .int .i64 many] w fun e w' => e = .returned (.bool true) ∧ Below w.heap.size w w' := by
  have HL := Lib.hid (IL.ofIS hA)
  obtain ⟨r, hr, hr2⟩ := bring_nat many 20 (by omega)
  have BR : Hid (∀ w, Calls Try.prog 20 #[.int .i64 many, .int .i64 20] w fun e w' => e = .returned (.int .i64 (r : Int)) ∧ w = w') := Lib.hid (fun w => by
    have := bring_any many 20 w hm.1 hm.2 (by omega) (by omega)
    rw [show ((20 : Nat) : Int) = 20 from rfl] at hr
    rw [hr] at this
    exact this)
  clear hA hr hm
  go_enter Try.func5, Try.ntmps5
  go_wp2_with fail
  refine (works21_any _).mono ?_
  rintro e w1 ⟨rfl, hb1⟩
  have HL1 := Lib.hid (HL.out.below hb1)
  clear HL
  go_wp2_with fail
  refine (near1 HL1.out).mono ?_
  rintro e w2 ⟨A6, n6, c6, ly, rfl, hs, hq, hb2⟩
  have hbw := nx hb1 hb2
  have HY := Lib.hid hs.1
  have HYL := Lib.hid hs.1.len
  have HU := Lib.hid (up1 hs.2.1 hq)
  have HQ := Lib.hid (fun x (hx : x ∈ ly) => And.intro (hs.2.1.1 x hx) (hq x hx))
  have hly : n6 ≤ 200 := by rw [hs.1.len]; exact inc_len hs.2.1 200 hq
  clear hs hq hb1 hb2 HL1
  have hb0 := bel0 w2
  go_wp2_with fail
  go_loopw [5, 7] (fun v i wr => ∃ (vo : Value) (k : Nat), vo = v ∧ k ≤ n6 ∧ i = .int .i64 k ∧ Hid (wr.ownsRow w2.heap.size 3 1 vo ((ly.take k).map (· + 1)).length (iv ((ly.take k).map (· + 1)))) ∧ Below w2.heap.size w2 wr) (fun _ i _ => n6 - (intOf i).toNat)
  case atStart => exact ⟨_, 0, rfl, Nat.zero_le _, rfl, Lib.hid (World.ownsRow_nil _ _ _ _), hb0⟩
  case round =>
    clear hb0
    obtain ⟨vo, k, rfl, hk, rfl, HO, hb⟩ := hrel
    by_cases hlt : k < n6
    · have hlt' : k < ly.length := by rw [← HYL.out]; exact hlt
      obtain ⟨b, o, rfl⟩ := HY.out.plain (by omega)
      have hc := HY.out.cells hb hlt'
      have haa : (⟨b, o, none⟩ : Addr).add k = ⟨b, o + k, none⟩ := addr_add _ _ _
      have hy := HQ.out _ (List.getElem_mem hlt')
      have HT := Lib.hid (take_map1 hlt')
      have hlm : ((ly.take k).map (· + 1)).length ≤ 200 := by rw [List.length_map]; have := List.length_take_le k ly; omega
      generalize ly[k] = y at *
      generalize (ly.take k).map (· + 1) = R at *
      go_wp2_with (at_builtin; refine append_int rfl (.tmp 25) (.tmp 31) rfl w2.heap.size vo R (y + 1) wr rfl ⟨by omega, by omega⟩ rfl HO.out rfl (by omega) hb.size ?_; intro v3 w3 ho3 hg3 hv3; have hb3 := grown_below hb hg3 (own_block HO.out); have HO3 := Lib.hid ho3; clear ho3 hg3 hv3)
      exact ⟨⟨_, k + 1, rfl, by omega, by go_num, by rw [HT.out]; exact HO3, hb3⟩, by simp [intOf]; omega⟩
    · obtain rfl : k = n6 := by omega
      have HO2 := Lib.hid (show wr.ownsRow w2.heap.size 3 1 vo (ly.map (· + 1)).length (iv (ly.map (· + 1))) by
        have := HO.out
        rw [show ly.take k = ly from List.take_of_length_le (by rw [HYL.out]; exact Nat.le_refl _)] at this
        exact this)
      obtain ⟨A5, n5, c5, rfl, hI, _⟩ := ownsRow_il HO2.out (ST.fits HU.out.1 (fun x hx => (HU.out.2.1 x hx).2)) (by have := HU.out.2.2; omega)
      have HI := Lib.hid hI
      have hbw2 := nx hbw hb
      have HN := Lib.hid hI.len
      clear hI HO HO2 HY HYL HQ hly hb hbw hlt hk
      generalize ly.map (· + 1) = ll at *
      go_wp2_with fail
      refine (BR.out _).mono ?_
      rintro e w4 ⟨rfl, rfl⟩
      clear BR
      obtain ⟨N, hN⟩ : ∃ N, N = r + 1 := ⟨_, rfl⟩
      have hN2 : (1 : Int) + (r : Int) = (N : Int) := by omega
      have hN1 : 1 ≤ N := by omega
      have hN3 : N ≤ 20 := by omega
      clear hN hr2
      have hb0 := bel0 wr
      obtain ⟨W4, hW4⟩ : ∃ W, W = wr := ⟨_, rfl⟩
      rw [← hW4] at HI hbw2 hb0 ⊢
      clear hW4
      go_wp2_with fail
      clear hN2
      go_loopw [9, 10, 11] (fun v f i wr => ∃ (vo : Value) (j d : Nat) (x : Int), vo = v ∧ f = .int .i64 x ∧ i = .int .i64 j ∧ j ≤ 201 ∧ j ≤ d ∧ (j = 0 ∨ d < n5) ∧ Hid (ll.countP (· < x) = d) ∧ Hid (wr.ownsRow W4.heap.size 3 1 vo (ll.take d).length (iv (ll.take d))) ∧ Below W4.heap.size W4 wr) (fun _ _ i _ => 201 - (intOf i).toNat)
      case atStart =>
        refine ⟨_, 0, 0, 0, rfl, rfl, rfl, Nat.zero_le _, Nat.zero_le _, .inl rfl, Lib.hid ?_, Lib.hid (World.ownsRow_nil _ _ _ _), hb0⟩
        rw [List.countP_eq_zero]
        intro x hx
        have := (HU.out.2.1 x hx).1
        simp
        omega
      case round =>
        clear hb0
        obtain ⟨vo, j, d, x, rfl, rfl, rfl, hj, hjd, hd0, HC, HO, hb⟩ := hrel
        have hll : n5 ≤ 200 := by rw [HN.out]; exact HU.out.2.2
        have hlt : j < 201 := by omega
        have HP := Lib.hid (page_at HU.out.1 HC.out hN1)
        have HI2 := Lib.hid (HI.out.below hb)
        have HF := ST.fits HU.out.1 (fun x hx => (HU.out.2.1 x hx).2)
        have PG := Lib.hid (Page_any x (N : Int) ⟨by omega, by omega⟩ HI2.out)
        by_cases hlast : N < n5 - d
        · rw [if_pos (by rw [← HN.out]; exact hlast)] at HP
          have hdn : d + N < ll.length := by rw [← HN.out]; omega
          have hg : (ll.drop d).getD N 0 = ll[d + N] := by rw [List.getD_eq_getElem?_getD, List.getElem?_drop, List.getElem?_eq_getElem hdn]; rfl
          have hpl : ((ll.drop d).take N).length = N := by rw [List.length_take, List.length_drop]; omega
          have hc2 := Lib.hid (cnt_self HU.out.1 hdn)
          have hz := (HU.out.2.1 _ (List.getElem_mem hdn)).1
          have HT := Lib.hid (show ll.take (d + N) = ll.take d ++ (ll.drop d).take N from List.take_add)
          rw [hg] at HP
          have hll1 : (ll.take d).length ≤ 200 := by rw [List.length_take]; have := HN.out; omega
          have HPF := Lib.hid (show Fit ((ll.drop d).take N) from fun z hz => HF z (List.mem_of_mem_drop (List.mem_of_mem_take hz)))
          generalize (ll.drop d).take N = pg at *
          generalize ll[d + N] = y at *
          clear hg HF
          rw [HP.out] at PG
          clear HP
          go_wp2_with fail
          refine PG.out.mono ?_
          rintro e w5 hT
          obtain ⟨A12, n12, c12, rfl, hI12, _, hb5⟩ := hT.open HPF.out (by simp only; omega)
          have HI12 := Lib.hid hI12
          obtain rfl : n12 = N := by rw [hI12.len]; exact hpl
          have HO5 := Lib.hid (ownsRow_below HO.out hb5)
          have hb6 := nx hb hb5
          clear hT hI12 HO hb hb5 PG HI2
          go_wp2_with (at_builtin; refine append_ints rfl (.tmp 66) (.tmp 67) rfl W4.heap.size vo (ll.take d) pg rfl HO5.out A12 n12 c12 rfl HI12.out (by omega) hb6.size ?_; intro v3 w6 ho3 hg3 hv3; have hb7 := grown_below hb6 hg3 (own_block HO5.out); have HO3 := Lib.hid ho3; clear ho3 hg3 hv3)
          exact ⟨⟨_, j + 1, d + n12, _, rfl, rfl, by go_num, by omega, by omega, .inr (by rw [HN.out]; exact hdn), hc2, by rw [HT.out]; exact HO3, hb7⟩, by simp [intOf]; omega⟩
        · rw [if_neg (by rw [← HN.out]; exact hlast)] at HP
          have hpl : (ll.drop d).length = n5 - d := by rw [List.length_drop, HN.out]
          have HT := Lib.hid (show ll.take d ++ ll.drop d = ll from List.take_append_drop _ _)
          have hll1 : (ll.take d).length ≤ 200 := by rw [List.length_take]; have := HN.out; omega
          have HPF := Lib.hid (show Fit (ll.drop d) from fun z hz => HF z (List.mem_of_mem_drop hz))
          generalize ll.drop d = pg at *
          have HF2 := Lib.hid HF
          rw [HP.out] at PG
          clear HP HF
          go_wp2_with fail
          refine PG.out.mono ?_
          rintro e w5 hT
          obtain ⟨A12, n12, c12, rfl, hI12, _, hb5⟩ := hT.open HPF.out (by simp only; omega)
          have HI12 := Lib.hid hI12
          have hn12 : n12 = n5 - d := by rw [hI12.len]; exact hpl
          have hn13 : n12 ≤ N := by omega
          clear hn12
          have HO5 := Lib.hid (ownsRow_below HO.out hb5)
          have hb6 := nx hb hb5
          clear hT hI12 HO hb hb5 PG HI2
          go_wp2_with (at_builtin; refine append_ints rfl (.tmp 66) (.tmp 67) rfl W4.heap.size vo (ll.take d) pg rfl HO5.out A12 n12 c12 rfl HI12.out (by omega) hb6.size ?_; intro v3 w6 ho3 hg3 hv3; have hb7 := grown_below hb6 hg3 (own_block HO5.out); have HO3 := Lib.hid ho3; clear ho3 hg3 hv3)
          rw [HT.out] at HO3
          obtain ⟨A9, n9, c9, rfl, hI9, _⟩ := ownsRow_il HO3.out HF2.out (by have := HU.out.2.2; omega)
          refine (eqInts_any _ _ _ _ _ _ ll ll _ hI9 (HI.out.below hb7)).mono ?_
          rintro e w7 ⟨rfl, hb8⟩
          rw [decide_eq_true rfl]
          go_wp2_with fail
          go_ret
          exact ⟨rfl, nx (nx hbw2 hb7) hb8⟩
end Go.Proofs.Ythikhoamodcggaa
