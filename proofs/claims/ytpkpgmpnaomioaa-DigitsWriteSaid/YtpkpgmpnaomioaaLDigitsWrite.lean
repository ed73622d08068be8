/- The walk of the law DigitsWrite. No conditions. -/
import Derived.Test.YtpkpgmpnaomioaaDigP
import Derived.Test.YtpkpgmpnaomioaaRdW
import Derived.Test.YtpkpgmpnaomioaaRow
set_option linter.unusedSimpArgs false
set_option linter.unusedVariables false
namespace Go.Proofs.Ytpkpgmpnaomioaa
open Go.RowKit

set_option maxHeartbeats 8000000 in
set_option maxRecDepth 100000 in
theorem digitsWrite_walk (n : Int) (s : ByteArray) (w : World) (hn : I64 n) (hs : s.size ≤ 140737488351232) :
    Calls Try.prog 9 #[.int .i64 n, .string s] w fun e w' => e = .returned (.bool true) ∧ Below w.heap.size w w' := by
  obtain ⟨u1, u2⟩ := uP_ok n
  obtain ⟨s1, s2⟩ := sP_ok n
  obtain ⟨t1, t2⟩ := tP_ok s
  have U1 := Lib.hid u1
  have S1 := Lib.hid s1
  have T1 := Lib.hid t1
  have HU : Hid (∀ w, Calls Try.prog 26 #[.int .i64 n] w fun e w' => TwoB w w' e (uP n).1 (uP n).2) := Lib.hid (U_all n)
  have HRU : Hid (∀ w, Calls Try.prog 27 #[.int .i64 n] w fun e w' => TwoB w w' e (uP n).1 (uP n).2) := Lib.hid (refU_all n)
  have HS : Hid (∀ w, Calls Try.prog 28 #[.int .i64 n] w fun e w' => TwoB w w' e (sP n).1 (sP n).2) := Lib.hid (S_all n)
  have HRS : Hid (∀ w, Calls Try.prog 29 #[.int .i64 n] w fun e w' => TwoB w w' e (sP n).1 (sP n).2) := Lib.hid (refS_all n)
  have HT : Hid (∀ w, Calls Try.prog 30 #[.string s] w fun e w' => TwoB w w' e (tP s).1 (tP s).2) := Lib.hid (Text_all s)
  have HRT : Hid (∀ w, Calls Try.prog 31 #[.string s] w fun e w' => TwoB w w' e (tP s).1 (tP s).2) := Lib.hid (refText_all s)
  clear u1 s1 t1
  generalize uP n = u at *
  generalize sP n = z at *
  generalize tP s = t at *
  obtain ⟨ul, uk⟩ := u
  obtain ⟨zl, zk⟩ := z
  obtain ⟨tl, tk⟩ := t
  simp only at u2 s2 t2
  go_enter Try.func9, Try.ntmps9
  go_wp2_with fail
  refine (HU.out _).mono ?_
  intro e w1 h
  obtain ⟨A1, n1, c1, rfl, hB, hb1⟩ := h.open U1.out (by omega)
  have B1 := Lib.hid hB
  clear h hB
  go_wp2_with fail
  refine (HRU.out _).mono ?_
  intro e w2 h
  obtain ⟨A2, n2, c2, rfl, hB, hb2⟩ := h.open U1.out (by omega)
  have B2 := Lib.hid hB
  clear h hB
  go_wp2_with fail
  refine (HS.out _).mono ?_
  intro e w3 h
  obtain ⟨A3, n3, c3, rfl, hB, hb3⟩ := h.open S1.out (by omega)
  have B3 := Lib.hid hB
  clear h hB
  go_wp2_with fail
  refine (HRS.out _).mono ?_
  intro e w4 h
  obtain ⟨A4, n4, c4, rfl, hB, hb4⟩ := h.open S1.out (by omega)
  have B4 := Lib.hid hB
  clear h hB
  go_wp2_with fail
  refine (HT.out _).mono ?_
  intro e w5 h
  obtain ⟨A5, n5, c5, rfl, hB, hb5⟩ := h.open T1.out (by omega)
  have B5 := Lib.hid hB
  clear h hB
  go_wp2_with fail
  refine (HRT.out _).mono ?_
  intro e w6 h
  obtain ⟨A6, n6, c6, rfl, hB, hb6⟩ := h.open T1.out (by omega)
  have B6 := Lib.hid hB
  clear h hB
  go_wp2_with fail
  have hb56 := nx hb5 hb6
  have hb46 := nx hb4 hb56
  have hb36 := nx hb3 hb46
  have hb26 := nx hb2 hb36
  refine (eqBytes_any A1 A2 n1 c1 n2 c2 _ _ _ (B1.out.below hb26) (B2.out.below hb36)).mono ?_
  rintro e w7 ⟨rfl, hb7⟩
  go_wp2_with fail
  refine (eqBytes_any A3 A4 n3 c3 n4 c4 _ _ _ (B3.out.below (nx hb46 hb7)) (B4.out.below (nx hb56 hb7))).mono ?_
  rintro e w8 ⟨rfl, hb8⟩
  go_wp2_with fail
  refine (eqBytes_any A5 A6 n5 c5 n6 c6 _ _ _ (B5.out.below (nx hb6 (nx hb7 hb8))) (B6.out.below (nx hb7 hb8))).mono ?_
  rintro e w9 ⟨rfl, hb9⟩
  go_wp2_with fail
  refine (works01_any _).mono ?_
  rintro e w10 ⟨rfl, hb10⟩
  go_wp2_with fail
  go_ret
  exact ⟨rfl, nx (nx hb1 hb26) (nx (nx (nx hb7 hb8) hb9) hb10)⟩
end Go.Proofs.Ytpkpgmpnaomioaa
