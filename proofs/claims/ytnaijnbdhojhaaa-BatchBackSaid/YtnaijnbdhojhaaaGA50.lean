/- The walk of the law BatchBack. No conditions. -/
import Derived.Test.YtnaijnbdhojhaaaGA45
import Derived.Test.YtnaijnbdhojhaaaGA01
import Derived.Test.YtnaijnbdhojhaaaGA49
set_option linter.unusedSimpArgs false
set_option linter.unusedVariables false
namespace Go.Proofs.Ytnaijnbdhojhaaa
open Go.RowKit

set_option maxHeartbeats 16000000 in
set_option maxRecDepth 100000 in
theorem batchBack_walk (b : Bat) (A : Option Addr) (c : Nat) (w : World) (h1 : I64 b.ag) (h2 : I64 b.sq) (hL : LS w A b.sp.length c b.sp) (hs : ∀ s ∈ b.sp, SpnOk s) (hn : b.sp.length * 112 ≤ 140737488351232) :
    Calls Try.prog 7 #[.agg #[.int .i64 b.ag, .int .i64 b.sq, .slice A b.sp.length c]] w fun e w' => e = .returned (.bool true) ∧ Below w.heap.size w w' := by
  have hpt : PtB b := hL.pt
  have hat : ∀ s ∈ b.sp, s.ats.length ≤ 2199023255552 := fun s hs' => by have := (hs s hs').lim; omega
  have HPT := Lib.hid hpt
  have HAT := Lib.hid hat
  have HLN := Lib.hid (show b.sp.length ≤ 1256584717421 by omega)
  have HL := Lib.hid hL
  clear h1 h2 hL hs hn hpt hat
  obtain ⟨n, hnn⟩ : ∃ n, n = b.sp.length := ⟨_, rfl⟩
  have HN := Lib.hid hnn
  have HLb := Lib.hid (show LS w A n c b.sp by rw [hnn]; exact HL.out)
  rw [← hnn]
  clear hnn HL
  by_cases hok : OkB b
  · have HOK := Lib.hid hok
    have hlen : (btB b).length ≤ 8192 := hok.2
    have HRD := Lib.hid (prB_to hok HPT.out)
    clear hok
    go_enter Try.func7, Try.ntmps7
    go_wp2_with fail
    obtain ⟨W1, hW⟩ : ∃ W, W = w.alloc (.cells #[.int .i64 b.ag, .int .i64 b.sq, .slice A n c] 26) := ⟨_, rfl⟩
    have hbx : Below w.heap.size w W1 := by rw [hW]; exact bel1 _ _
    have hqx := heap_alloc_new w (.cells #[.int .i64 b.ag, .int .i64 b.sq, .slice A n c] 26)
    rw [← hW] at hqx ⊢
    obtain ⟨qx, hqq⟩ : ∃ q, q = w.heap.size := ⟨_, rfl⟩
    rw [← hqq] at hqx ⊢
    clear hW hqq
    have hbw1 := hbx
    have x_1 := Lib.hid (hqx)
    clear hqx
    have L_1 := Lib.hid (HLb.out.below hbw1)
    refine (works_any _).mono ?_
    rintro e w2 ⟨rfl, hb2⟩
    have x_2 := Lib.hid (blk_below x_1.out hb2)
    have L_2 := Lib.hid (L_1.out.below hb2)
    have hbw2 := nx hbw1 hb2
    clear x_1 L_1
    obtain ⟨d0, d1, d2⟩ := bat_block x_2.out
    have dq := (Array.getElem?_eq_some_iff.1 x_2.out).1
    go_wp2_with fail
    refine (batBytes_any (b := b) L_2.out).mono ?_
    rw [btP_yes HOK.out]
    intro e w3 hh
    obtain ⟨A1, n1, c1, rfl, hB, hb3⟩ := hh.open (btB_byt HOK.out.1 HPT.out) (by show (btB b).length ≤ _; omega)
    have hl1 := hB.len
    have x_3 := Lib.hid (blk_below x_2.out hb3)
    have L_3 := Lib.hid (L_2.out.below hb3)
    have hbw3 := nx hbw2 hb3
    clear x_2 L_2 hh
    have B1_3 := Lib.hid (hB)
    clear hB
    have HN1 := Lib.hid hl1
    clear hl1 d0 d1 d2 dq
    obtain ⟨d0, d1, d2⟩ := bat_block x_3.out
    have dq := (Array.getElem?_eq_some_iff.1 x_3.out).1
    go_wp2_with fail
    refine (batCheck_any (b := b) L_3.out).mono ?_
    rw [btP_yes HOK.out]
    rintro e w4 ⟨rfl, hb4⟩
    have x_4 := Lib.hid (blk_below x_3.out hb4)
    have L_4 := Lib.hid (L_3.out.below hb4)
    have B1_4 := Lib.hid (B1_3.out.below hb4)
    have hbw4 := nx hbw3 hb4
    clear x_3 L_3 B1_3
    clear d0 d1 d2 dq
    go_wp2_with fail
    refine (batParse_any B1_4.out).mono ?_
    rw [HRD.out]
    intro e w5 hh
    obtain ⟨A2, c2, rfl, hL2, hb5⟩ := hh.open HPT.out HAT.out HLN.out
    rw [← HN.out] at hL2 ⊢
    have x_5 := Lib.hid (blk_below x_4.out hb5)
    have L_5 := Lib.hid (L_4.out.below hb5)
    have B1_5 := Lib.hid (B1_4.out.below hb5)
    have hbw5 := nx hbw4 hb5
    clear x_4 L_4 B1_4 hh
    have M_5 := Lib.hid (hL2)
    clear hL2
    obtain ⟨d0, d1, d2⟩ := bat_block x_5.out
    have dq := (Array.getElem?_eq_some_iff.1 x_5.out).1
    go_wp2_with fail
    obtain ⟨W6, hW⟩ : ∃ W, W = w5.alloc (.cells #[.int .i64 b.ag, .int .i64 b.sq, .slice A2 n c2] 26) := ⟨_, rfl⟩
    have hbx : Below w5.heap.size w5 W6 := by rw [hW]; exact bel1 _ _
    have hqx := heap_alloc_new w5 (.cells #[.int .i64 b.ag, .int .i64 b.sq, .slice A2 n c2] 26)
    rw [← hW] at hqx ⊢
    obtain ⟨qy, hqq⟩ : ∃ q, q = w5.heap.size := ⟨_, rfl⟩
    rw [← hqq] at hqx ⊢
    clear hW hqq
    have x_6 := Lib.hid (blk_below x_5.out hbx)
    have L_6 := Lib.hid (L_5.out.below hbx)
    have B1_6 := Lib.hid (B1_5.out.below hbx)
    have M_6 := Lib.hid (M_5.out.below hbx)
    have hbw6 := nx hbw5 hbx
    clear x_5 L_5 B1_5 M_5
    have y_6 := Lib.hid (hqx)
    clear hqx
    clear d0 d1 d2 dq
    refine (batSame_any (a := b) (b := b) L_6.out M_6.out).mono ?_
    rintro e w7 ⟨bb, rfl, hbb, hb7⟩
    have hbt := hbb.2 rfl
    subst hbt
    clear hbb
    have x_7 := Lib.hid (blk_below x_6.out hb7)
    have L_7 := Lib.hid (L_6.out.below hb7)
    have B1_7 := Lib.hid (B1_6.out.below hb7)
    have M_7 := Lib.hid (M_6.out.below hb7)
    have y_7 := Lib.hid (blk_below y_6.out hb7)
    have hbw7 := nx hbw6 hb7
    clear x_6 L_6 B1_6 M_6 y_6
    obtain ⟨d0, d1, d2⟩ := bat_block x_7.out
    have dq := (Array.getElem?_eq_some_iff.1 x_7.out).1
    obtain ⟨g0, g1, g2⟩ := bat_block y_7.out
    have gq := (Array.getElem?_eq_some_iff.1 y_7.out).1
    go_wp2_with fail
    refine (refBatSame_any (a := b) (b := b) L_7.out M_7.out).mono ?_
    rintro e w8 ⟨bb, rfl, hbb, hb8⟩
    have hbt := hbb.2 rfl
    subst hbt
    clear hbb
    have x_8 := Lib.hid (blk_below x_7.out hb8)
    have L_8 := Lib.hid (L_7.out.below hb8)
    have B1_8 := Lib.hid (B1_7.out.below hb8)
    have M_8 := Lib.hid (M_7.out.below hb8)
    have y_8 := Lib.hid (blk_below y_7.out hb8)
    have hbw8 := nx hbw7 hb8
    clear x_7 L_7 B1_7 M_7 y_7
    clear d0 d1 d2 dq g0 g1 g2 gq
    have hn1 : (n1 : Int) ≤ 8192 := by have := HN1.out; omega
    go_wp2_with fail
    go_ret
    exact ⟨rfl, hbw8⟩
  · have HNO := Lib.hid hok
    clear hok
    go_enter Try.func7, Try.ntmps7
    go_wp2_with fail
    obtain ⟨W1, hW⟩ : ∃ W, W = w.alloc (.cells #[.int .i64 b.ag, .int .i64 b.sq, .slice A n c] 26) := ⟨_, rfl⟩
    have hbx : Below w.heap.size w W1 := by rw [hW]; exact bel1 _ _
    have hqx := heap_alloc_new w (.cells #[.int .i64 b.ag, .int .i64 b.sq, .slice A n c] 26)
    rw [← hW] at hqx ⊢
    obtain ⟨qx, hqq⟩ : ∃ q, q = w.heap.size := ⟨_, rfl⟩
    rw [← hqq] at hqx ⊢
    clear hW hqq
    have hbw1 := hbx
    have x_1 := Lib.hid (hqx)
    clear hqx
    have L_1 := Lib.hid (HLb.out.below hbw1)
    refine (works_any _).mono ?_
    rintro e w2 ⟨rfl, hb2⟩
    have x_2 := Lib.hid (blk_below x_1.out hb2)
    have L_2 := Lib.hid (L_1.out.below hb2)
    have hbw2 := nx hbw1 hb2
    clear x_1 L_1
    obtain ⟨d0, d1, d2⟩ := bat_block x_2.out
    have dq := (Array.getElem?_eq_some_iff.1 x_2.out).1
    go_wp2_with fail
    refine (batBytes_any (b := b) L_2.out).mono ?_
    rw [btP_no HNO.out]
    intro e w3 hh
    obtain ⟨A1, n1, c1, rfl, hB, hb3⟩ := hh.open (by intro x hx; cases hx) (by simp)
    have hl1 := hB.len
    have x_3 := Lib.hid (blk_below x_2.out hb3)
    have L_3 := Lib.hid (L_2.out.below hb3)
    have hbw3 := nx hbw2 hb3
    clear x_2 L_2 hh
    have B1_3 := Lib.hid (hB)
    clear hB
    obtain rfl : n1 = 0 := hl1
    clear d0 d1 d2 dq
    obtain ⟨d0, d1, d2⟩ := bat_block x_3.out
    have dq := (Array.getElem?_eq_some_iff.1 x_3.out).1
    go_wp2_with fail
    refine (batCheck_any (b := b) L_3.out).mono ?_
    rw [btP_no HNO.out]
    rintro e w4 ⟨rfl, hb4⟩
    have x_4 := Lib.hid (blk_below x_3.out hb4)
    have L_4 := Lib.hid (L_3.out.below hb4)
    have B1_4 := Lib.hid (B1_3.out.below hb4)
    have hbw4 := nx hbw3 hb4
    clear x_3 L_3 B1_3
    clear d0 d1 d2 dq
    obtain ⟨d0, d1, d2⟩ := bat_block x_4.out
    have dq := (Array.getElem?_eq_some_iff.1 x_4.out).1
    go_wp2_with fail
    refine (batCheck_any (b := b) L_4.out).mono ?_
    rw [btP_no HNO.out]
    rintro e w5 ⟨rfl, hb5⟩
    have x_5 := Lib.hid (blk_below x_4.out hb5)
    have L_5 := Lib.hid (L_4.out.below hb5)
    have B1_5 := Lib.hid (B1_4.out.below hb5)
    have hbw5 := nx hbw4 hb5
    clear x_4 L_4 B1_4
    clear d0 d1 d2 dq
    go_wp2_with fail
    go_ret
    exact ⟨rfl, hbw5⟩
end Go.Proofs.Ytnaijnbdhojhaaa
