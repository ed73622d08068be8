/- The statements' own helpers on readers: u, s, fails, works. No conditions. -/
import Derived.Test.YtbbejajnfajpoaaRdU
set_option linter.unusedSimpArgs false
set_option linter.unusedVariables false
namespace Go.Proofs.Ytbbejajnfajpoaa
open Go.RowKit

theorem nb_enc (most n : Nat) (h : n < 72057594037927936) (hm : n ≤ most) (l : List Nat) : nb most 0 (Dig.enc n ++ l) = (n, 0, l) := by
  unfold nb
  rw [if_neg (by simp), Dig.num1_enc most n h hm]
  rfl
theorem grown_bel {w0 a b : World} {g : Nat} (h : Below w0.heap.size w0 a) (hg : a.grownBy b (some g)) (hw : w0.heap.size ≤ g) : Below w0.heap.size w0 b := h.grown hg h.size (fun k e => by cases e; exact hw)

set_option maxHeartbeats 4000000 in
theorem u_any (n : Int) (h1 : 0 ≤ n) (h2 : n ≤ 9007199254740991) (A : Option Addr) (k c : Nat) (w : World) (h : BS w A k c (Dig.enc n.toNat)) :
    Calls Try.prog 62 #[.int .i64 n, .slice A k c] w fun e w' => e = .returned (.bool true) ∧ Below w.heap.size w w' := by
  have HA := Lib.hid h
  have hnb := nb_enc 9007199254740991 n.toNat (by omega) (by omega) []
  rw [List.append_nil] at hnb
  have HNB := Lib.hid hnb
  clear h hnb
  go_enter Try.func62, Try.ntmps62
  go_wp2_with fail
  refine (U_any n _ h1 h2).mono ?_
  rintro e w1 ⟨v, rfl, ho, hb1⟩
  obtain ⟨B, m, d, rfl, hB, _⟩ := ownsRow_bs ho HA.out.byt HA.out.lim
  have HB := Lib.hid hB
  clear hB ho
  go_wp2_with fail
  refine (New_any A k c _ _ (HA.out.below hb1)).mono ?_
  rintro e w2 ⟨g, rfl, hr, hb2⟩
  have HR := Lib.hid hr
  have HG := Lib.hid (Nat.le_trans hb1.size hr.lt.1)
  have hb12 := nx hb1 hb2
  clear hr
  go_wp2_with fail
  refine (eqBytes_any B A m d k c _ _ _ (HB.out.below hb2) (HA.out.below hb12)).mono ?_
  rintro e w3 ⟨rfl, hb3⟩
  go_wp2_with fail
  refine (rdU_any (HR.out.below hb3)).mono ?_
  rw [HNB.out]
  rintro e w4 ⟨rfl, hr, hg⟩
  have HR4 := Lib.hid hr
  have hb4 := grown_bel (nx hb12 hb3) hg HG.out
  clear hr hg
  have hn : ((n.toNat : Nat) : Int) = n := by omega
  go_wp2_with fail
  refine (Err_any HR4.out).mono ?_
  rintro e w5 ⟨rfl, rfl⟩
  go_wp2_with fail
  refine (Left_any HR4.out).mono ?_
  rintro e w5 ⟨rfl, rfl⟩
  go_wp2_with fail
  go_ret
  exact ⟨rfl, hb4⟩
set_option maxHeartbeats 4000000 in
theorem s_any (n : Int) (h1 : -9007199254740991 ≤ n) (h2 : n ≤ 9007199254740991) (A : Option Addr) (k c : Nat) (w : World) (h : BS w A k c (Dig.enc (zig n))) :
    Calls Try.prog 63 #[.int .i64 n, .slice A k c] w fun e w' => e = .returned (.bool true) ∧ Below w.heap.size w w' := by
  have HA := Lib.hid h
  have hzl : zig n ≤ 18014398509481982 := by unfold zig; split <;> omega
  have hnb := nb_enc 18014398509481982 (zig n) (by omega) (by omega) []
  rw [List.append_nil] at hnb
  have HNB := Lib.hid hnb
  clear h hnb
  go_enter Try.func63, Try.ntmps63
  go_wp2_with fail
  refine (S_any n _ h1 h2).mono ?_
  rintro e w1 ⟨v, rfl, ho, hb1⟩
  obtain ⟨B, m, d, rfl, hB, _⟩ := ownsRow_bs ho HA.out.byt HA.out.lim
  have HB := Lib.hid hB
  clear hB ho
  go_wp2_with fail
  refine (New_any A k c _ _ (HA.out.below hb1)).mono ?_
  rintro e w2 ⟨g, rfl, hr, hb2⟩
  have HR := Lib.hid hr
  have HG := Lib.hid (Nat.le_trans hb1.size hr.lt.1)
  have hb12 := nx hb1 hb2
  clear hr
  go_wp2_with fail
  refine (eqBytes_any B A m d k c _ _ _ (HB.out.below hb2) (HA.out.below hb12)).mono ?_
  rintro e w3 ⟨rfl, hb3⟩
  go_wp2_with fail
  refine (rdS_any (HR.out.below hb3)).mono ?_
  rw [HNB.out, zag_zig]
  rintro e w4 ⟨rfl, hr, hg⟩
  have HR4 := Lib.hid hr
  have hb4 := grown_bel (nx hb12 hb3) hg HG.out
  clear hr hg
  go_wp2_with fail
  refine (Err_any HR4.out).mono ?_
  rintro e w5 ⟨rfl, rfl⟩
  go_wp2_with fail
  refine (Left_any HR4.out).mono ?_
  rintro e w5 ⟨rfl, rfl⟩
  go_wp2_with fail
  go_ret
  exact ⟨rfl, hb4⟩
set_option maxHeartbeats 4000000 in
theorem fails_any (k : Int) (l : List Nat) (hk : k ≠ 0) (hl : (Dig.num1 9007199254740991 l).1 = 0) (hl2 : ((Dig.num1 9007199254740991 l).2.1 : Int) = k) (A : Option Addr) (n c : Nat) (w : World) (h : BS w A n c l) :
    Calls Try.prog 64 #[.int .i64 k, .slice A n c] w fun e w' => e = .returned (.bool true) ∧ Below w.heap.size w w' := by
  have HA := Lib.hid h
  have hnb : nb 9007199254740991 0 l = (0, k, (Dig.num1 9007199254740991 l).2.2) := by
    unfold nb
    rw [if_neg (by simp), hl, hl2]
  have HNB := Lib.hid hnb
  clear h hnb hl hl2
  go_enter Try.func64, Try.ntmps64
  go_wp2_with fail
  refine (New_any A n c _ _ HA.out).mono ?_
  rintro e w2 ⟨g, rfl, hr, hb2⟩
  have HR := Lib.hid hr
  have HG := Lib.hid hr.lt.1
  clear hr
  go_wp2_with fail
  refine (rdU_any HR.out).mono ?_
  rw [HNB.out]
  rintro e w4 ⟨rfl, hr, hg⟩
  have HR4 := Lib.hid hr
  have hb4 := grown_bel hb2 hg HG.out
  clear hr hg
  go_wp2_with fail
  refine (Err_any HR4.out).mono ?_
  rintro e w5 ⟨rfl, rfl⟩
  go_wp2_with fail
  refine (Left_any HR4.out).mono ?_
  rintro e w5 ⟨rfl, rfl⟩
  rw [if_neg hk]
  go_wp2_with fail
  go_ret
  exact ⟨rfl, hb4⟩
set_option maxHeartbeats 8000000 in
set_option maxRecDepth 100000 in
theorem works01_any (w : World) : Calls Try.prog 18 #[] w fun e w' => e = .returned (.bool true) ∧ Below w.heap.size w w' := by
  have t2 : (⟨#[97, 98]⟩ : ByteArray) = bs [97, 98] := by decide
  have e2 : Dig.enc (bs [97, 98]).size ++ sb (bs [97, 98]) = [2, 97, 98] := by decide
  have hx1 : txt 2 0 [2, 97, 98, 5] = ([97, 98], 0, [5]) := by decide
  have hx2 : nb 9007199254740991 0 [5] = (5, 0, []) := by decide
  have E2 := Lib.hid e2
  have X1 := Lib.hid hx1
  have X2 := Lib.hid hx2
  clear e2 hx1 hx2
  go_enter Try.func18, Try.ntmps18
  go_wp2_with fail
  refine (U_no (-1) _ (by omega)).mono ?_
  rintro e w1 ⟨rfl, rfl⟩
  go_wp2_with fail
  refine (Text_any _ _ (by decide)).mono ?_
  rw [E2.out]
  rintro e w1 ⟨v, rfl, ho, hb1⟩
  obtain ⟨B, m, d, rfl, hB, _⟩ := ownsRow_bs ho (by decide) (by decide)
  have HB := Lib.hid hB
  clear hB ho
  go_wp2_with fail
  refine (New_any _ _ _ _ _ (BS.alloc w1 [2, 97, 98, 5] _ _ (by decide) (by decide))).mono ?_
  rintro e w2 ⟨g, rfl, hr, hb2⟩
  have HR := Lib.hid hr
  have HG := Lib.hid (Nat.le_trans hb1.size (Nat.le_trans (by simp) hr.lt.1))
  have hb12 := nxA hb1 hb2
  have HG0 := Lib.hid hr.lt.1
  clear hr
  go_wp2_with fail
  refine (rdText_any 2 HR.out).mono ?_
  rw [X1.out]
  rintro e w3 ⟨rfl, _, _, hr, hg⟩
  have HR3 := Lib.hid hr
  have hb3 := grown_bel hb12 hg HG.out
  have G3 := Lib.hid hr.lt.1
  have hc3 : Below w1.heap.size w1 w3 := grown_bel (nxA (bel0 w1) hb2) hg (Nat.le_trans (by simp) HG0.out)
  clear hr hg
  go_wp2_with fail
  refine (rdU_any HR3.out).mono ?_
  rw [X2.out]
  rintro e w4 ⟨rfl, hr, hg⟩
  have HR4 := Lib.hid hr
  have hb4 := grown_bel hb3 hg HG.out
  have hc4 := grown_bel hc3 hg (Nat.le_trans (by simp) HG0.out)
  clear hr hg
  go_wp2_with fail
  refine (Left_any HR4.out).mono ?_
  rintro e w5 ⟨rfl, rfl⟩
  go_wp2_with fail
  refine (Err_any HR4.out).mono ?_
  rintro e w5 ⟨rfl, rfl⟩
  go_wp2_with fail
  refine (u_any 0 (by omega) (by omega) _ _ _ _ (by rw [show Dig.enc (Int.toNat 0) = [0] from by decide]; exact BS.alloc w4 [0] _ _ (by decide) (by decide))).mono ?_
  rintro e w5 ⟨rfl, hb⟩
  have hb5 := nxA hb4 hb
  have hc5 := nxA hc4 hb
  clear hb hb4 hc4
  go_wp2_with fail
  refine (u_any 127 (by omega) (by omega) _ _ _ _ (by rw [show Dig.enc (Int.toNat 127) = [127] from by decide]; exact BS.alloc w5 [127] _ _ (by decide) (by decide))).mono ?_
  rintro e w6 ⟨rfl, hb⟩
  have hb6 := nxA hb5 hb
  have hc6 := nxA hc5 hb
  clear hb hb5 hc5
  go_wp2_with fail
  refine (u_any 128 (by omega) (by omega) _ _ _ _ (by rw [show Dig.enc (Int.toNat 128) = [128, 128] from by decide]; exact BS.alloc w6 [128, 128] _ _ (by decide) (by decide))).mono ?_
  rintro e w7 ⟨rfl, hb⟩
  have hb7 := nxA hb6 hb
  have hc7 := nxA hc6 hb
  clear hb hb6 hc6
  go_wp2_with fail
  refine (u_any 16384 (by omega) (by omega) _ _ _ _ (by rw [show Dig.enc (Int.toNat 16384) = [192, 64, 0] from by decide]; exact BS.alloc w7 [192, 64, 0] _ _ (by decide) (by decide))).mono ?_
  rintro e w8 ⟨rfl, hb⟩
  have hb8 := nxA hb7 hb
  have hc8 := nxA hc7 hb
  clear hb hb7 hc7
  go_wp2_with fail
  refine (s_any (0) (by omega) (by omega) _ _ _ _ (by rw [show Dig.enc (zig (0)) = [0] from by decide]; exact BS.alloc w8 [0] _ _ (by decide) (by decide))).mono ?_
  rintro e w9 ⟨rfl, hb⟩
  have hb9 := nxA hb8 hb
  have hc9 := nxA hc8 hb
  clear hb hb8 hc8
  go_wp2_with fail
  refine (s_any (-1) (by omega) (by omega) _ _ _ _ (by rw [show Dig.enc (zig (-1)) = [1] from by decide]; exact BS.alloc w9 [1] _ _ (by decide) (by decide))).mono ?_
  rintro e w10 ⟨rfl, hb⟩
  have hb10 := nxA hb9 hb
  have hc10 := nxA hc9 hb
  clear hb hb9 hc9
  go_wp2_with fail
  refine (s_any (1) (by omega) (by omega) _ _ _ _ (by rw [show Dig.enc (zig (1)) = [2] from by decide]; exact BS.alloc w10 [2] _ _ (by decide) (by decide))).mono ?_
  rintro e w11 ⟨rfl, hb⟩
  have hb11 := nxA hb10 hb
  have hc11 := nxA hc10 hb
  clear hb hb10 hc10
  go_wp2_with fail
  refine (s_any (-64) (by omega) (by omega) _ _ _ _ (by rw [show Dig.enc (zig (-64)) = [127] from by decide]; exact BS.alloc w11 [127] _ _ (by decide) (by decide))).mono ?_
  rintro e w12 ⟨rfl, hb⟩
  have hb12 := nxA hb11 hb
  have hc12 := nxA hc11 hb
  clear hb hb11 hc11
  go_wp2_with fail
  refine (s_any (64) (by omega) (by omega) _ _ _ _ (by rw [show Dig.enc (zig (64)) = [128, 128] from by decide]; exact BS.alloc w12 [128, 128] _ _ (by decide) (by decide))).mono ?_
  rintro e w13 ⟨rfl, hb⟩
  have hb13 := nxA hb12 hb
  have hc13 := nxA hc12 hb
  clear hb hb12 hc12
  go_wp2_with fail
  refine (eqBytes_any _ _ _ _ _ _ [2, 97, 98] [2, 97, 98] _ ((HB.out.below hc13).newBlock _) (BS.alloc w13 [2, 97, 98] _ _ (by decide) (by decide))).mono ?_
  rintro e w14 ⟨rfl, hb⟩
  have hb14 := nxA hb13 hb
  have hc14 := nxA hc13 hb
  rw [show decide (([2, 97, 98] : List Nat) = [2, 97, 98]) = true from rfl]
  clear hb hb13 hc13
  go_wp2_with fail
  refine (fails_any 4 [128, 127] (by decide) (by decide) (by decide) _ _ _ _ (BS.alloc w14 [128, 127] _ _ (by decide) (by decide))).mono ?_
  rintro e w15 ⟨rfl, hb⟩
  have hb15 := nxA hb14 hb
  have hc15 := nxA hc14 hb
  clear hb hb14 hc14
  go_wp2_with fail
  refine (fails_any 4 [255, 0] (by decide) (by decide) (by decide) _ _ _ _ (BS.alloc w15 [255, 0] _ _ (by decide) (by decide))).mono ?_
  rintro e w16 ⟨rfl, hb⟩
  have hb16 := nxA hb15 hb
  have hc16 := nxA hc15 hb
  clear hb hb15 hc15
  go_wp2_with fail
  refine (fails_any 3 [128] (by decide) (by decide) (by decide) _ _ _ _ (BS.alloc w16 [128] _ _ (by decide) (by decide))).mono ?_
  rintro e w17 ⟨rfl, hb⟩
  have hb17 := nxA hb16 hb
  have hc17 := nxA hc16 hb
  clear hb hb16 hc16
  go_wp2_with fail
  go_ret
  exact ⟨rfl, hb17⟩
end Go.Proofs.Ytbbejajnfajpoaa
