/- The walk of the law TallyPieces. No conditions. -/
import Derived.Test.YtpkpgmpnaomioaaTally
set_option linter.unusedSimpArgs false
set_option linter.unusedVariables false
namespace Go.Proofs.Ytpkpgmpnaomioaa
open Go.RowKit
attribute [local go_sem] min2_mn min_2

set_option maxHeartbeats 4000000 in
set_option maxRecDepth 100000 in
theorem tallyPieces_walk (A : Option Addr) (ca : Nat) (a : List Nat) (B : Option Addr) (cb : Nat) (b : List Nat) (C : Option Addr) (cc : Nat) (c : List Nat) (w : World) (hA : BS w A a.length ca a) (hB : BS w B b.length cb b) (hC : BS w C c.length cc c) :
    Calls Try.prog 4 #[.slice A a.length ca, .slice B b.length cb, .slice C c.length cc] w fun e w' => e = .returned (.bool true) ∧ Below w.heap.size w w' := by
  have m1 := mnI_lit a.length 5000 5000 rfl
  have m2 := mnI_lit b.length 5000 5000 rfl
  have m3 := mnI_lit c.length 5000 5000 rfl
  have kA := hA.cut 5000
  have kB := hB.cut 5000
  have kC := hC.cut 5000
  rw [List.length_take, Nat.min_comm] at kA kB kC
  have l1 := hA.lim
  have l2 := hB.lim
  have l3 := hC.lim
  have n1 : min a.length 5000 ≤ ca := by have := hA.le; omega
  have n2 : min b.length 5000 ≤ cb := by have := hB.le; omega
  have n3 : min c.length 5000 ≤ cc := by have := hC.le; omega
  have q1 : min a.length 5000 ≤ 5000 := by omega
  have q2 : min b.length 5000 ≤ 5000 := by omega
  have q3 : min c.length 5000 ≤ 5000 := by omega
  generalize min a.length 5000 = na at *
  generalize min b.length 5000 = nb at *
  generalize min c.length 5000 = nc at *
  generalize a.take 5000 = x at *
  generalize b.take 5000 = y at *
  generalize c.take 5000 = z at *
  have HA := Lib.hid kA
  have HB := Lib.hid kB
  have HC := Lib.hid kC
  clear hA hB hC kA kB kC
  go_enter Try.func4, Try.ntmps4
  go_wp2_with fail
  refine (works02_any _).mono ?_
  rintro e w1 ⟨rfl, hb1⟩
  go_wp2_with fail
  go_quiet (fail)
  go_wp2_with fail
  refine (copyBytes_any A _ ca _ _ (HA.out.below (below_drewN hb1 nq))).mono ?_
  rintro e w2 ⟨v, rfl, ho, hb2⟩
  have hb2' : Below w.heap.size w w2 := nx (below_drewN hb1 nq) hb2
  have HO := Lib.hid (ownsRow_base ho (hb1.size : w.heap.size ≤ w1.heap.size))
  clear ho
  have hxl : x.length ≤ 5000 := by rw [← HA.out.len]; exact q1
  have hyl : y.length ≤ 5000 := by rw [← HB.out.len]; exact q2
  have hzl : z.length ≤ 5000 := by rw [← HC.out.len]; exact q3
  have hB2 := HB.out.below hb2'
  have hxyl : (x ++ y).length ≤ 10000 := by rw [List.length_append]; omega
  go_wp2_with (first
    | (at_builtin; refine append_bytes rfl (.tmp 26) (.tmp 27) rfl w.heap.size v x y rfl HO.out B _ cb rfl (HB.out.below hb2') (by omega) hb2'.size ?_; intro v3 w3 ho3 hg3 _; have hb3 := grown_below hb2' hg3 (own_block HO.out); have HO3 := Lib.hid ho3; clear ho3 hg3)
    | (at_builtin; refine append_bytes rfl (.tmp 28) (.tmp 29) rfl w.heap.size v3 (x ++ y) z rfl HO3.out C _ cc rfl (HC.out.below hb3) (by omega) hb3.size ?_; intro v4 w4 ho4 hg4 _; have hb4 := grown_below hb3 hg4 (own_block HO3.out); have HO4 := Lib.hid ho4; clear ho4 hg4)
    | fail)
  obtain ⟨A4, nA4, c4, rfl, h4, _⟩ := ownsRow_bs HO4.out ((HA.out.byt.append HB.out.byt).append HC.out.byt) (by rw [List.length_append]; omega)
  have H4 := Lib.hid h4
  clear h4
  refine (of_any A _ ca x _ (HA.out.below hb4)).mono ?_
  rintro e w5 ⟨rfl, hb5⟩
  go_wp2_with fail
  refine (on_any _ (Crc.on_lt _ _) B _ cb y _ (HB.out.below (nx hb4 hb5))).mono ?_
  rintro e w6 ⟨rfl, hb6⟩
  rw [Crc.on_append 0 (by omega) x y HA.out.byt]
  go_wp2_with fail
  refine (on_any _ (Crc.on_lt _ _) C _ cc z _ (HC.out.below (nx (nx hb4 hb5) hb6))).mono ?_
  rintro e w7 ⟨rfl, hb7⟩
  rw [Crc.on_append 0 (by omega) (x ++ y) z (HA.out.byt.append HB.out.byt)]
  go_wp2_with fail
  refine (of_any A4 _ c4 _ _ (H4.out.below (nx (nx hb5 hb6) hb7))).mono ?_
  rintro e w8 ⟨rfl, hb8⟩
  go_wp2_with fail
  refine (of_any A _ ca x _ (HA.out.below (nx (nx (nx (nx hb4 hb5) hb6) hb7) hb8))).mono ?_
  rintro e w9 ⟨rfl, hb9⟩
  go_wp2_with fail
  refine (on_any _ (Crc.on_lt _ _) none 0 0 [] _ (BS.empty _)).mono ?_
  rintro e w10 ⟨rfl, hb10⟩
  rw [Crc.on_nil _ (Crc.on_lt _ _)]
  go_wp2_with fail
  refine (of_any A _ ca x _ (HA.out.below (nx (nx (nx (nx (nx (nx hb4 hb5) hb6) hb7) hb8) hb9) hb10))).mono ?_
  rintro e w11 ⟨rfl, hb11⟩
  go_wp2_with fail
  go_ret
  exact ⟨rfl, nx (nx (nx (nx (nx (nx (nx hb4 hb5) hb6) hb7) hb8) hb9) hb10) hb11⟩
end Go.Proofs.Ytpkpgmpnaomioaa
