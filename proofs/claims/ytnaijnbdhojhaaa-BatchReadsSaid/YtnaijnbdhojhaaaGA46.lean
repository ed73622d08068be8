/- The walk of the law BatchReads. No conditions. -/
import Derived.Test.YtnaijnbdhojhaaaGA45
import Derived.Test.YtnaijnbdhojhaaaGA01
set_option linter.unusedSimpArgs false
set_option linter.unusedVariables false
namespace Go.Proofs.Ytnaijnbdhojhaaa
open Go.RowKit

set_option maxHeartbeats 16000000 in
set_option maxRecDepth 100000 in
theorem batchReads_walk (A : Option Addr) (c : Nat) (l : List Nat) (w : World) (hA : BS w A l.length c l) :
    Calls Try.prog 3 #[.slice A l.length c] w fun e w' => e = .returned (.bool true) ∧ Below w.heap.size w w' := by
  have C1 := Lib.hid (fun (w : World) (A : Option Addr) (n c : Nat) (h : BS w A n c l) => batParse_any h)
  have C2 := Lib.hid (fun (w : World) (A : Option Addr) (n c : Nat) (h : BS w A n c l) => refParse_any h)
  have hpt := prB_pt l
  have hat := prB_ats l
  have hln := prB_len l
  generalize prB l = X at *
  obtain ⟨b, k⟩ := X
  simp only at hpt hat hln
  have HPT := Lib.hid hpt
  have HAT := Lib.hid hat
  have HLN := Lib.hid (show b.sp.length ≤ 1256584717421 by omega)
  have HA := Lib.hid hA
  generalize hbl : l.length = bl at *
  clear hbl hpt hat hln hA
  go_enter Try.func3, Try.ntmps3
  go_wp2_with fail
  refine (copyBytes_any A bl c l _ HA.out).mono ?_
  rintro e w1 ⟨v, rfl, ho, hb⟩
  obtain ⟨A1, n1, c1, rfl, hB, _⟩ := ownsRow_bs ho HA.out.byt HA.out.lim
  have B1 := Lib.hid hB
  have H1 := Lib.hid hb
  clear ho hB hb
  go_wp2_with fail
  refine (C1.out _ _ _ _ B1.out).mono ?_
  intro e w2 hh
  obtain ⟨A2, c2, rfl, hL, hb⟩ := hh.open HPT.out HAT.out HLN.out
  have L2 := Lib.hid hL
  have B2 := Lib.hid (B1.out.below hb)
  have H2 := Lib.hid (nx H1.out hb)
  clear hh hL hb B1 H1 C1
  go_wp2_with fail
  obtain ⟨W2, hW⟩ : ∃ W, W = w2.alloc (.cells #[.int .i64 b.ag, .int .i64 b.sq, .slice A2 b.sp.length c2] 26) := ⟨_, rfl⟩
  have hb : Below w2.heap.size w2 W2 := by rw [hW]; exact bel1 _ _
  have hq := heap_alloc_new w2 (.cells #[.int .i64 b.ag, .int .i64 b.sq, .slice A2 b.sp.length c2] 26)
  rw [← hW] at hq ⊢
  obtain ⟨q1, hqq⟩ : ∃ q, q = w2.heap.size := ⟨_, rfl⟩
  rw [← hqq] at hq ⊢
  have Q2 := Lib.hid hq
  have L3 := Lib.hid (L2.out.below hb)
  have B3 := Lib.hid (B2.out.below hb)
  have H3 := Lib.hid (nx H2.out hb)
  clear hW hb hq hqq L2 B2 H2
  refine (C2.out _ _ _ _ (HA.out.below H3.out)).mono ?_
  intro e w4 hh
  obtain ⟨A4, c4, rfl, hL, hb⟩ := hh.open HPT.out HAT.out HLN.out
  have K4 := Lib.hid hL
  have L4 := Lib.hid (L3.out.below hb)
  have Q4 := Lib.hid ((hb.block _ (Array.getElem?_eq_some_iff.1 Q2.out).1).trans Q2.out)
  have B4 := Lib.hid (B3.out.below hb)
  have H4 := Lib.hid (nx H3.out hb)
  clear hh hL hb L3 B3 H3 C2 Q2
  have hb := bel1 w4 (.cells #[.int .i64 b.ag, .int .i64 b.sq, .slice A4 b.sp.length c4] 26)
  have hq := heap_alloc_new w4 (.cells #[.int .i64 b.ag, .int .i64 b.sq, .slice A4 b.sp.length c4] 26)
  obtain ⟨d0, d1, d2⟩ := bat_block Q4.out
  have hq1 : q1 < w4.heap.size := (Array.getElem?_eq_some_iff.1 Q4.out).1
  have K5 := Lib.hid (K4.out.below hb)
  have L5 := Lib.hid (L4.out.below hb)
  have B5 := Lib.hid (B4.out.below hb)
  have H5 := Lib.hid (nx H4.out hb)
  clear hb hq K4 L4 B4 H4
  go_wp2_with fail
  refine (refBatSame_any (a := b) (b := b) L5.out K5.out).mono ?_
  rintro r w6 ⟨bb, rfl, hbb, hb⟩
  have hbt := hbb.2 rfl
  subst hbt
  have B6 := Lib.hid (B5.out.below hb)
  have H6 := Lib.hid (nx H5.out hb)
  clear hbb hb B5 H5 L5 K5 d0 d1 d2
  have hkk : (k == k) = true := by simp
  go_wp2_with fail
  refine (eqBytes_any A1 A n1 c1 bl c l l _ B6.out (HA.out.below H6.out)).mono ?_
  rintro r w7 ⟨rfl, hb⟩
  rw [decide_eq_true rfl]
  have H7 := Lib.hid (nx H6.out hb)
  clear hb B6 H6
  go_wp2_with fail
  refine (works_any _).mono ?_
  rintro r w8 ⟨rfl, hb⟩
  have H8 := Lib.hid (nx H7.out hb)
  clear hb H7
  go_wp2_with fail
  go_ret
  exact ⟨rfl, H8.out⟩
end Go.Proofs.Ytnaijnbdhojhaaa
