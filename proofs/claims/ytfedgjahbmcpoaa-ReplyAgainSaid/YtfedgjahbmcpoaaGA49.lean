/- The walk of the law ReplyAgain. No conditions. -/
import Derived.Test.YtfedgjahbmcpoaaGA43
import Derived.Test.YtfedgjahbmcpoaaGA41
import Derived.Test.YtfedgjahbmcpoaaGA01
set_option linter.unusedSimpArgs false
set_option linter.unusedVariables false
namespace Go.Proofs.Ytfedgjahbmcpoaa
open Go.RowKit

attribute [local go_sem] min2_mn min_2
set_option maxHeartbeats 32000000 in
set_option maxRecDepth 100000 in
theorem replyAgain_walk (A : Option Addr) (c : Nat) (l0 : List Nat) (x : Nat) (w : World) (hA : BS w A l0.length c l0) (hx : x < 256) :
    Calls Try.prog 3 #[.slice A l0.length c, .int .u8 (x : Int)] w fun e w' => e = .returned (.bool true) ∧ Below w.heap.size w w' := by
  have m1 := mnI_lit l0.length 5000 5000 rfl
  have hle := hA.le
  have hlim := hA.lim
  have kA := hA.cutN (show min l0.length 5000 ≤ l0.length by omega)
  obtain ⟨l, hl⟩ : ∃ l, l = l0.take (min l0.length 5000) := ⟨_, rfl⟩
  rw [← hl] at kA
  obtain ⟨n0, hn0⟩ : ∃ n, n = l0.length := ⟨_, rfl⟩
  rw [← hn0] at m1 hle kA hl hlim ⊢
  obtain ⟨n, hn⟩ : ∃ n, n = min n0 5000 := ⟨_, rfl⟩
  rw [← hn] at m1 kA
  have h1 : n ≤ c := by omega
  have hn5 : n ≤ 5000 := by omega
  have HN := Lib.hid kA.len
  have HBY := Lib.hid kA.byt
  have HA := Lib.hid kA
  have hs0 := fun w : World => slice_take (w := w) (A := A) (n := n0) (c := c) (k := n) h1
  have hleN : (n : Int) ≤ (c : Int) := by omega
  clear hA kA hl hn hn0
  rcases prAn_or l with hp | hp
  · have hok := prAn_ok l
    have hl := prAn_yes HBY.out hp
    have hpt := prAn_pt l
    have hpe : prAn l = ((prAn l).1, 0) := by rw [← hp]
    generalize (prAn l).1 = b at *
    have HMO := Lib.hid (prAn_more hok hpt (m := [x]) (by simp))
    rw [← hl] at HMO
    have hpos := anB_pos b hok
    rw [← hl, ← HN.out] at hpos
    have hcat : l.take (n - 1) ++ [l[n - 1]'(by rw [← HN.out]; omega)] = l := by
      have e := List.take_succ_eq_append_getElem (l := l) (i := n - 1) (by rw [← HN.out]; omega)
      rw [← e, show n - 1 + 1 = l.length by rw [← HN.out]; omega, List.take_length]
    have HLE := Lib.hid (prAn_less (l := l.take (n - 1)) (HBY.out.take _) (x := l[n - 1]'(by rw [← HN.out]; omega)) (by rw [hcat]; exact hp))
    have HPE := Lib.hid hpe
    have HOK := Lib.hid hok
    have HL := Lib.hid hl
    have HPT := Lib.hid hpt
    have HBO := Lib.hid (anB_ok hok hpt)
    clear hcat hpe hok hl hpt hp
    go_enter Try.func3, Try.ntmps3
    go_wp2_with fail
    refine (rworks_any _).mono ?_
    rintro e w1 ⟨rfl, hb1⟩
    have HB1 := Lib.hid hb1
    clear hb1
    go_wp2_with fail
    refine (rParse_any (HA.out.below HB1.out)).mono ?_
    rw [HPE.out]
    rintro r w2 ⟨v1, v2, v3, rfl, hA2, hb⟩
    have HB2 := Lib.hid (nx HB1.out hb)
    clear hb HB1
    obtain ⟨A2, c2, e1, _⟩ := hA2.sn
    obtain ⟨B2, d2, e2, _⟩ := hA2.ce
    obtain ⟨D2, f2, e3, _⟩ := hA2.ed
    subst e1 e2 e3
    have HA2 := Lib.hid hA2
    clear hA2
    unfold anV
    go_upto_region 5 with (fail)
    obtain ⟨W3, hW⟩ : ∃ W, W = w2.alloc (.cells #[.int .i64 b.er, .slice A2 b.sn.length c2, .int .i64 b.nx, .slice B2 b.ce.length d2, .slice D2 b.ed.length f2, .int .i64 b.lf] 29) := ⟨_, rfl⟩
    have hbx : Below w2.heap.size w2 W3 := by rw [hW]; exact bel1 _ _
    have hqx := heap_alloc_new w2 (.cells #[.int .i64 b.er, .slice A2 b.sn.length c2, .int .i64 b.nx, .slice B2 b.ce.length d2, .slice D2 b.ed.length f2, .int .i64 b.lf] 29)
    rw [← hW] at hqx ⊢
    obtain ⟨q5, hqq⟩ : ∃ q, q = w2.heap.size := ⟨_, rfl⟩
    rw [← hqq] at hqx ⊢
    have HQ3 := Lib.hid hqx
    have HA3 := Lib.hid (HA2.out.below hbx)
    have HB3 := Lib.hid (nx HB2.out hbx)
    clear hW hqq hqx hbx HA2 HB2
    obtain ⟨x0, x1, x2, x3, x4, x5⟩ := an_block HQ3.out
    have hn0 : ((n : Int) == 0) = false := by simp; omega
    go_wp2_with fail
    refine (rBytes_any HA3.out HPT.out).mono ?_
    rw [anP_yes HOK.out]
    intro r w4 hh
    obtain ⟨A4, n4, c4, rfl, hB4, hb⟩ := hh.open HBO.out.1 (by have := HBO.out.2; show (anB b).length ≤ _; omega)
    have HQ4 := Lib.hid (blkB HQ3.out hb)
    have HA4 := Lib.hid (HA3.out.below hb)
    have HB4 := Lib.hid (nx HB3.out hb)
    have BS4 := Lib.hid hB4
    clear hh hB4 hb HA3 HB3 HQ3
    clear x0 x1 x2 x3 x4 x5
    go_wp2_with fail
    refine (copyBytes_any A n c l _ (HA.out.below HB4.out)).mono ?_
    rintro r wc ⟨v, rfl, ho, hbc⟩
    have hbase := hbc.size
    have HO := Lib.hid (ho.alloc (.cells #[.int .u8 (x : Int)] 5))
    clear ho
    have HX1 := Lib.hid (show BS (wc.alloc (.cells #[.int .u8 (x : Int)] 5)) (some ⟨wc.heap.size, 0, none⟩) 1 1 [x] from BS.alloc wc [x] _ _ (by intro y hy; simp only [List.mem_singleton] at hy; omega) (by simp))
    have hbs : w4.heap.size ≤ (wc.alloc (.cells #[.int .u8 (x : Int)] 5)).heap.size := by rw [World.size_alloc]; omega
    have hbz := hbc.alloc hbase (.cells #[.int .u8 (x : Int)] 5)
    go_wp2_with (at_builtin; refine append_bytes rfl (.tmp 44) (.tmp 46) rfl w4.heap.size v l [x] rfl HO.out (some ⟨wc.heap.size, 0, none⟩) 1 1 rfl HX1.out (by rw [← HN.out]; simp; omega) hbs ?_; intro v6 w5 ho6 hg6 hv6; have hb := grown_below hbz hg6 (own_block HO.out); obtain ⟨A6, n6, c6, e6, B6, _⟩ := ownsRow_bs ho6 (HBY.out.append (by intro y hy; simp only [List.mem_singleton] at hy; omega)) (by rw [List.length_append, ← HN.out]; simp; omega); subst e6; have BX := Lib.hid B6; clear ho6 hg6 hv6 B6)
    have HQ5 := Lib.hid (blkB HQ4.out hb)
    have HA5 := Lib.hid (HA4.out.below hb)
    have HB5 := Lib.hid (nx HB4.out hb)
    have BS5 := Lib.hid (BS4.out.below hb)
    clear HO HX1 hbs hbz hbc hbase hb HQ4 HA4 HB4 BS4
    refine (rParse_any BX.out).mono ?_
    rw [HMO.out]
    rintro r w6 ⟨u1, u2, u3, rfl, hA6, hb⟩
    obtain ⟨A7, c7, e1, _⟩ := hA6.sn
    obtain ⟨B7, d7, e2, _⟩ := hA6.ce
    obtain ⟨D7, f7, e3, _⟩ := hA6.ed
    subst e1 e2 e3
    have HQ6 := Lib.hid (blkB HQ5.out hb)
    have HA6 := Lib.hid (HA5.out.below hb)
    have HB6 := Lib.hid (nx HB5.out hb)
    have BS6 := Lib.hid (BS5.out.below hb)
    clear hb hA6 BX HQ5 HA5 HB5 BS5
    unfold anV
    have hn1 : ((n : Int) - 1) = ((n - 1 : Nat) : Int) := by omega
    have HN1 := Lib.hid hn1
    clear hn1
    have hq1 : ∀ w : World, (Instr.slice 22 (.slice A n c) none (some (.int .i64 ((n : Int) - 1))) none).run Try.prog w = .ok (.slice A (n - 1) c) w := fun w => by rw [HN1.out]; exact slice_take (by omega)
    have hy3 : (0 : Int) ≤ (n : Int) - 1 := by omega
    have hy4 : (n : Int) - 1 ≤ (c : Int) := by omega
    go_wp2_with fail
    have hbn := bel1 w6 (.cells #[.int .i64 noAns.er, .slice A7 noAns.sn.length c7, .int .i64 noAns.nx, .slice B7 noAns.ce.length d7, .slice D7 noAns.ed.length f7, .int .i64 noAns.lf] 29)
    have HQ7 := Lib.hid (blkB HQ6.out hbn)
    have HA7 := Lib.hid (HA6.out.below hbn)
    have HB7 := Lib.hid (nx HB6.out hbn)
    have BS7 := Lib.hid (BS6.out.below hbn)
    clear hbn HQ6 HA6 HB6 BS6
    refine (rParse_any ((HA.out.cutN (k := n - 1) (by rw [← HN.out]; omega)).below HB7.out)).mono ?_
    rw [HLE.out]
    rintro r w8 ⟨u1, u2, u3, rfl, hA8, hb⟩
    obtain ⟨A9, c9, e1, _⟩ := hA8.sn
    obtain ⟨B9, d9, e2, _⟩ := hA8.ce
    obtain ⟨D9, f9, e3, _⟩ := hA8.ed
    subst e1 e2 e3
    unfold anV
    have hbn := nx hb (bel1 w8 (.cells #[.int .i64 noAns.er, .slice A9 noAns.sn.length c9, .int .i64 noAns.nx, .slice B9 noAns.ce.length d9, .slice D9 noAns.ed.length f9, .int .i64 noAns.lf] 29))
    have HQ8 := Lib.hid (blkB HQ7.out hbn)
    have HA8 := Lib.hid (HA7.out.below hbn)
    have HB8 := Lib.hid (nx HB7.out hbn)
    have BS8 := Lib.hid (BS7.out.below hbn)
    clear hbn hb hA8 HQ7 HA7 HB7 BS7 hq1 hy3 hy4
    go_wp2_with fail
    refine (eqBytes_any A A4 n c n4 c4 l (anB b) _ (HA.out.below HB8.out) BS8.out).mono ?_
    rintro r w9 ⟨rfl, hb⟩
    rw [decide_eq_true HL.out]
    have HQ9 := Lib.hid (blkB HQ8.out hb)
    have HA9 := Lib.hid (HA8.out.below hb)
    have HB9 := Lib.hid (nx HB8.out hb)
    clear hb HQ8 HA8 HB8 BS8
    obtain ⟨x0, x1, x2, x3, x4, x5⟩ := an_block HQ9.out
    go_wp2_with fail
    refine (rCheck_any HA9.out).mono ?_
    rw [anP_yes HOK.out]
    rintro r w10 ⟨rfl, hb⟩
    have HB10 := Lib.hid (nx HB9.out hb)
    clear hb
    clear x0 x1 x2 x3 x4 x5
    go_wp2_with fail
    go_ret
    exact ⟨rfl, HB10.out⟩
  · have HPE := Lib.hid hp
    clear hp
    go_enter Try.func3, Try.ntmps3
    go_wp2_with fail
    refine (rworks_any _).mono ?_
    rintro e w1 ⟨rfl, hb1⟩
    have HB1 := Lib.hid hb1
    clear hb1
    go_wp2_with fail
    refine (rParse_any (HA.out.below HB1.out)).mono ?_
    rw [HPE.out]
    rintro r w2 ⟨v1, v2, v3, rfl, hA2, hb⟩
    have HB2 := Lib.hid (nx HB1.out hb)
    clear hb HB1
    obtain ⟨A2, c2, e1, _⟩ := hA2.sn
    obtain ⟨B2, d2, e2, _⟩ := hA2.ce
    obtain ⟨D2, f2, e3, _⟩ := hA2.ed
    subst e1 e2 e3
    have HA2 := Lib.hid hA2
    clear hA2
    unfold anV
    go_upto_region 5 with (fail)
    obtain ⟨W3, hW⟩ : ∃ W, W = w2.alloc (.cells #[.int .i64 noAns.er, .slice A2 noAns.sn.length c2, .int .i64 noAns.nx, .slice B2 noAns.ce.length d2, .slice D2 noAns.ed.length f2, .int .i64 noAns.lf] 29) := ⟨_, rfl⟩
    have hbx : Below w2.heap.size w2 W3 := by rw [hW]; exact bel1 _ _
    have hqx := heap_alloc_new w2 (.cells #[.int .i64 noAns.er, .slice A2 noAns.sn.length c2, .int .i64 noAns.nx, .slice B2 noAns.ce.length d2, .slice D2 noAns.ed.length f2, .int .i64 noAns.lf] 29)
    rw [← hW] at hqx ⊢
    obtain ⟨q5, hqq⟩ : ∃ q, q = w2.heap.size := ⟨_, rfl⟩
    rw [← hqq] at hqx ⊢
    have HQ3 := Lib.hid hqx
    have HA3 := Lib.hid (HA2.out.below hbx)
    have HB3 := Lib.hid (nx HB2.out hbx)
    clear hW hqq hqx hbx HA2
    obtain ⟨x0, x1, x2, x3, x4, x5⟩ := an_block HQ3.out
    go_wp2_with fail
    refine (refAnSame_any (a := noAns) (b := noAns) HA3.out ⟨⟨none, 0, rfl, EL.zero _ _⟩, ⟨none, 0, rfl, EL.zero _ _⟩, ⟨none, 0, rfl, EL.zero _ _⟩⟩).mono ?_
    rintro r w4 ⟨bb, rfl, hbb, hb⟩
    obtain rfl : bb = true := hbb.2 (by trivial)
    have HB4 := Lib.hid (nx HB3.out hb)
    clear hbb hb
    clear x0 x1 x2 x3 x4 x5
    go_wp2_with fail
    go_ret
    exact ⟨rfl, HB4.out⟩
end Go.Proofs.Ytfedgjahbmcpoaa
