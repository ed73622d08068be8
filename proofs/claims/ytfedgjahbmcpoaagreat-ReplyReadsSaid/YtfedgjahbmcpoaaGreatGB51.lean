/- The walk of the law ReplyReads. No conditions. -/
import Derived.Test.YtfedgjahbmcpoaaGreatGB46
import Derived.Test.YtfedgjahbmcpoaaGreatGB50
import Derived.Test.YtfedgjahbmcpoaaGreatGB01
set_option linter.unusedSimpArgs false
set_option linter.unusedVariables false
namespace Go.Proofs.YtfedgjahbmcpoaaGreat
open Go.RowKit

attribute [local go_sem] min2_mn min_2
set_option maxHeartbeats 32000000 in
set_option maxRecDepth 100000 in
theorem replyReads_walk (A : Option Addr) (c : Nat) (l0 : List Nat) (w : World) (hA : BS w A l0.length c l0) :
    Calls Tryz.prog 3 #[.slice A l0.length c] w fun e w' => e = .returned (.bool true) ∧ Below w.heap.size w w' := by
  have m1 := mnI_lit l0.length 5000 5000 rfl
  have hle := hA.le
  have hlim := hA.lim
  have kA := hA.cutN (show min l0.length 5000 ≤ l0.length by omega)
  obtain ⟨l, hl⟩ : ∃ l, l = l0.take (min l0.length 5000) := ⟨_, rfl⟩
  rw [← hl] at kA
  obtain ⟨n0, hn0⟩ : ∃ n, n = l0.length := ⟨_, rfl⟩
  rw [← hn0] at m1 hle kA hl hlim ⊢
  obtain ⟨n, hn⟩ : ∃ n, n = min n0 5000 := ⟨_, rfl⟩
  rw [← hn] at m1 kA
  have h1 : n ≤ c := by omega
  have HBY := Lib.hid kA.byt
  have HA := Lib.hid kA
  have HLM := Lib.hid kA.lim
  have hs0 := fun w : World => slice_take (w := w) (A := A) (n := n0) (c := c) (k := n) h1
  have hleN : (n : Int) ≤ (c : Int) := by omega
  have C1 := Lib.hid (fun (w : World) (A : Option Addr) (n c : Nat) (h : BS w A n c l) => rParse_any h)
  have C2 := Lib.hid (fun (w : World) (A : Option Addr) (n c : Nat) (h : BS w A n c l) => refAnParse_any h)
  generalize prAn l = X at *
  obtain ⟨b, k⟩ := X
  clear hA kA hl hn hn0
  go_enter Tryz.func3, Tryz.ntmps3
  go_wp2_with fail
  refine (copyBytes_any A n c l _ HA.out).mono ?_
  rintro e w1 ⟨v, rfl, ho, hb⟩
  obtain ⟨A1, n1, c1, rfl, hB, _⟩ := ownsRow_bs ho HBY.out HLM.out
  have E1 := Lib.hid hB
  have H1 := Lib.hid hb
  clear ho hB hb
  go_wp2_with fail
  refine (C1.out _ _ _ _ E1.out).mono ?_
  rintro r w2 ⟨v1, v2, v3, rfl, hA2, hb⟩
  have E2 := Lib.hid (E1.out.below hb)
  have H2 := Lib.hid (nx H1.out hb)
  clear hb E1 H1 C1
  obtain ⟨A2, c2, e1, _⟩ := hA2.sn
  obtain ⟨B2, d2, e2, _⟩ := hA2.ce
  obtain ⟨D2, f2, e3, _⟩ := hA2.ed
  subst e1 e2 e3
  have L2 := Lib.hid hA2
  clear hA2
  unfold anV
  go_upto_region 4 with (fail)
  obtain ⟨W2, hW⟩ : ∃ W, W = w2.alloc (.cells #[.int .i64 b.er, .slice A2 b.sn.length c2, .int .i64 b.nx, .slice B2 b.ce.length d2, .slice D2 b.ed.length f2, .int .i64 b.lf] 29) := ⟨_, rfl⟩
  have hb : Below w2.heap.size w2 W2 := by rw [hW]; exact bel1 _ _
  have hq := heap_alloc_new w2 (.cells #[.int .i64 b.er, .slice A2 b.sn.length c2, .int .i64 b.nx, .slice B2 b.ce.length d2, .slice D2 b.ed.length f2, .int .i64 b.lf] 29)
  rw [← hW] at hq ⊢
  obtain ⟨q1, hqq⟩ : ∃ q, q = w2.heap.size := ⟨_, rfl⟩
  rw [← hqq] at hq ⊢
  have Q2 := Lib.hid hq
  have L3 := Lib.hid (L2.out.below hb)
  have E3 := Lib.hid (E2.out.below hb)
  have H3 := Lib.hid (nx H2.out hb)
  clear hW hb hq hqq L2 E2 H2
  go_wp2_with fail
  refine (C2.out _ _ _ _ (HA.out.below H3.out)).mono ?_
  rintro r w4 ⟨v1, v2, v3, rfl, hA4, hb⟩
  have L4 := Lib.hid (L3.out.below hb)
  have Q4 := Lib.hid (blkB Q2.out hb)
  have E4 := Lib.hid (E3.out.below hb)
  have H4 := Lib.hid (nx H3.out hb)
  clear hb L3 E3 H3 C2 Q2
  obtain ⟨A4, c4, e1, _⟩ := hA4.sn
  obtain ⟨B4, d4, e2, _⟩ := hA4.ce
  obtain ⟨D4, f4, e3, _⟩ := hA4.ed
  subst e1 e2 e3
  have K4 := Lib.hid hA4
  clear hA4
  unfold anV
  go_upto_region 5 with (fail)
  obtain ⟨W5, hW⟩ : ∃ W, W = w4.alloc (.cells #[.int .i64 b.er, .slice A4 b.sn.length c4, .int .i64 b.nx, .slice B4 b.ce.length d4, .slice D4 b.ed.length f4, .int .i64 b.lf] 29) := ⟨_, rfl⟩
  have hb : Below w4.heap.size w4 W5 := by rw [hW]; exact bel1 _ _
  have hq := heap_alloc_new w4 (.cells #[.int .i64 b.er, .slice A4 b.sn.length c4, .int .i64 b.nx, .slice B4 b.ce.length d4, .slice D4 b.ed.length f4, .int .i64 b.lf] 29)
  rw [← hW] at hq ⊢
  obtain ⟨q2, hqq⟩ : ∃ q, q = w4.heap.size := ⟨_, rfl⟩
  rw [← hqq] at hq ⊢
  obtain ⟨x0, x1, x2, x3, x4, x5⟩ := an_block (blkB Q4.out hb)
  obtain ⟨y0, y1, y2, y3, y4, y5⟩ := an_block hq
  have K5 := Lib.hid (K4.out.below hb)
  have L5 := Lib.hid (L4.out.below hb)
  have E5 := Lib.hid (E4.out.below hb)
  have H5 := Lib.hid (nx H4.out hb)
  clear hW hb hq hqq K4 L4 E4 H4 Q4
  go_wp2_with fail
  refine (refAnSame_any (a := b) (b := b) L5.out K5.out).mono ?_
  rintro r w6 ⟨bb, rfl, hbb, hb⟩
  obtain rfl : bb = true := hbb.2 (by trivial)
  have E6 := Lib.hid (E5.out.below hb)
  have H6 := Lib.hid (nx H5.out hb)
  clear hbb hb E5 H5 L5 K5 x0 x1 x2 x3 x4 x5 y0 y1 y2 y3 y4 y5
  have hkk : (k == k) = true := by simp
  go_wp2_with fail
  refine (eqBytes_any A1 A n1 c1 n c l l _ E6.out (HA.out.below H6.out)).mono ?_
  rintro r w7 ⟨rfl, hb⟩
  rw [decide_eq_true rfl]
  have H7 := Lib.hid (nx H6.out hb)
  clear hb E6 H6
  go_wp2_with fail
  refine (rworks_any _).mono ?_
  rintro r w8 ⟨rfl, hb⟩
  have H8 := Lib.hid (nx H7.out hb)
  clear hb H7
  go_wp2_with fail
  go_ret
  exact ⟨rfl, H8.out⟩
end Go.Proofs.YtfedgjahbmcpoaaGreat
