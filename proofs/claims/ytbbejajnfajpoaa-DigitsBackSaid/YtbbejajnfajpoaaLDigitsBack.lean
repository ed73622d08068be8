/- The walk of the law DigitsBack. No conditions. -/
import Derived.Test.YtbbejajnfajpoaaDigP
import Derived.Test.YtbbejajnfajpoaaRdW
import Derived.Test.YtbbejajnfajpoaaJoin
import Derived.Test.YtbbejajnfajpoaaRow
set_option linter.unusedSimpArgs false
set_option linter.unusedVariables false
namespace Go.Proofs.Ytbbejajnfajpoaa
open Go.RowKit
attribute [local go_sem] min2_mn min_2

theorem txt_back (s d : List Nat) (hs : s.length ≤ 1000) : txt (s.length : Int) 0 (Dig.enc s.length ++ s ++ d) = (s, 0, d) := by
  unfold txt
  rw [List.append_assoc, nb_enc _ _ (by omega) (by omega)]
  simp only
  rw [if_neg (by omega)]
  unfold tk
  rw [if_neg (by simp), if_neg (by omega), if_neg (by rw [List.length_append]; omega), Int.toNat_natCast]
  simp
theorem tk_all (d : List Nat) : tk 0 (d.length : Int) d = (true, d, 0, []) := by
  unfold tk
  rw [if_neg (by simp), if_neg (by omega), if_neg (by omega), Int.toNat_natCast]
  simp
theorem extract_size2 (s : ByteArray) (m : Nat) (h : m ≤ s.size) : (s.extract 0 m).size = m := by
  rw [ByteArray.size_extract]; omega
theorem bring_nat2 (n : Int) : ∃ k : Nat, bring n 9007199254740992 = (k : Int) ∧ k ≤ 9007199254740991 := by
  have h1 : 0 ≤ bring n 9007199254740992 ∧ bring n 9007199254740992 < 9007199254740992 := by
    unfold bring
    rw [if_neg (by omega)]
    exact ⟨Int.emod_nonneg _ (by omega), Int.emod_lt_of_pos _ (by omega)⟩
  obtain ⟨k, hk⟩ := Int.eq_ofNat_of_zero_le h1.1
  exact ⟨k, hk, by omega⟩

set_option maxHeartbeats 8000000 in
set_option maxRecDepth 100000 in
theorem digitsBack_walk (n : Int) (s : ByteArray) (D : Option Addr) (cD : Nat) (d : List Nat) (w : World) (hn : I64 n) (hs : s.size ≤ 140737488351232) (hD : BS w D d.length cD d) (hd : d.length ≤ 140737488351232) :
    Calls Try.prog 3 #[.int .i64 n, .string s, .slice D d.length cD] w fun e w' => e = .returned (.bool true) ∧ Below w.heap.size w w' := by
  have m1 := mnI_lit s.size 1000 1000 rfl
  have m2 : min s.size 1000 ≤ s.size := by omega
  have m3 : min s.size 1000 ≤ 1000 := by omega
  generalize min s.size 1000 = q at *
  have m4 : (q : Int) ≤ (s.size : Int) := by omega
  obtain ⟨k, hk, hk2⟩ := bring_nat2 n
  have BK : Hid (∀ w, Calls Try.prog 19 #[.int .i64 n, .int .i64 9007199254740992] w fun e w' => e = .returned (.int .i64 (k : Int)) ∧ w = w') := Lib.hid fun w => by rw [← hk]; exact bring_any n _ w hn.1 hn.2 (by omega) (by omega)
  clear hk
  have hsz := extract_size2 s q m2
  have HD := Lib.hid hD
  obtain ⟨dl, hdl⟩ : ∃ k, k = d.length := ⟨_, rfl⟩
  rw [← hdl] at HD hd ⊢
  have HDL := Lib.hid hdl
  clear hD hdl
  have hU := U_any (k : Int)
  rw [Int.toNat_natCast] at hU
  have HU := Lib.hid hU
  have y1 : Byt (Dig.enc k) := Dig.enc_byt _ (by omega)
  have z1 : (Dig.enc k).length ≤ 8 := by rw [Dig.length_enc]; exact Dig.sz_le _
  have Y1 := Lib.hid y1
  have Z1 := Lib.hid z1
  clear hU y1 z1
  go_enter Try.func3, Try.ntmps3
  go_wp2_with fail
  refine (works01_any _).mono ?_
  rintro e w1 ⟨rfl, hb1⟩
  go_wp2_with fail
  refine (BK.out _).mono ?_
  rintro e w2 ⟨rfl, rfl⟩
  generalize s.extract 0 q = t at *
  subst hsz
  clear m1
  by_cases hneg : n < 0
  · obtain ⟨mm, hmm⟩ : ∃ m : Int, m = (-(k : Int)) := ⟨_, rfl⟩
    have hm1 : -9007199254740991 ≤ mm := by omega
    have hm2 : mm ≤ 9007199254740991 := by omega
    have hzl := zig_le mm hm1 hm2
    have y2 : Byt (Dig.enc (zig mm)) := Dig.enc_byt _ (by omega)
    have z2 : (Dig.enc (zig mm)).length ≤ 8 := by rw [Dig.length_enc]; exact Dig.sz_le _
    have hT : tP t = (Dig.enc t.size ++ sb t, 0) := if_pos (by omega)
    obtain ⟨y3, z3⟩ := tP_ok t
    rw [hT] at y3 z3
    have z3' : (Dig.enc t.size ++ sb t).length ≤ 1008 := by rw [List.length_append, Dig.length_enc, sb_length]; have := Dig.sz_le t.size; omega
    have HS : Hid (∀ w, Calls Try.prog 21 #[.int .i64 mm] w fun e w' => TwoB w w' e (Dig.enc (zig mm)) 0) := Lib.hid fun w => S_any mm w hm1 hm2
    have HT : Hid (∀ w, Calls Try.prog 22 #[.string t] w fun e w' => TwoB w w' e (Dig.enc t.size ++ sb t) 0) := Lib.hid fun w => by have := Text_all t w; rwa [hT] at this
    have N1 := Lib.hid (nb_enc 9007199254740991 k (by omega) hk2 (Dig.enc (zig mm) ++ (Dig.enc t.size ++ sb t ++ d)))
    have N2 := Lib.hid (nb_enc 18014398509481982 (zig mm) (by omega) hzl (Dig.enc t.size ++ sb t ++ d))
    have N3 : Hid (txt (t.size : Int) 0 (Dig.enc t.size ++ sb t ++ d) = (sb t, 0, d)) := Lib.hid (by have := txt_back (sb t) d (by rw [sb_length]; omega); rwa [sb_length] at this)
    have Y2 := Lib.hid y2
    have Z2 := Lib.hid z2
    have Y3 := Lib.hid y3
    have Z3 := Lib.hid z3'
    have HJ : Hid (Dig.enc k ++ Dig.enc (zig mm) ++ (Dig.enc t.size ++ sb t) ++ d = Dig.enc k ++ (Dig.enc (zig mm) ++ (Dig.enc t.size ++ sb t ++ d))) := Lib.hid (by simp only [List.append_assoc])
    have HMM := Lib.hid hmm
    have ht1000 : (t.size : Int) ≤ 1000 := by omega
    have hmm' : (-(k : Int)) = mm := hmm.symm
    clear y2 z2 y3 z3 z3' hT hzl hmm
    go_wp2_with fail
    refine (HU.out _ (by omega) (by omega)).mono ?_
    intro e w2 h
    obtain ⟨A1, n1, c1, rfl, hB, hb2⟩ := h.open Y1.out (by have := Z1.out; omega)
    have B1 := Lib.hid hB
    clear h hB
    go_wp2_with fail
    refine (HS.out _).mono ?_
    intro e w3 h
    obtain ⟨A2, n2, c2, rfl, hB, hb3⟩ := h.open Y2.out (by have := Z2.out; omega)
    have B2 := Lib.hid hB
    clear h hB
    go_wp2_with fail
    refine (HT.out _).mono ?_
    intro e w4 h
    obtain ⟨A3, n3, c3, rfl, hB, hb4⟩ := h.open Y3.out (by have := Z3.out; omega)
    have B3 := Lib.hid hB
    clear h hB
    have hb14 := nx (nx (nx hb1 hb2) hb3) hb4
    have P1 := Lib.hid ((B1.out.below (nx hb3 hb4)).newBlock (.cells #[.slice A1 n1 c1, .slice A2 n2 c2, .slice A3 n3 c3, .slice D dl cD] 22))
    have P2 := Lib.hid ((B2.out.below hb4).newBlock (.cells #[.slice A1 n1 c1, .slice A2 n2 c2, .slice A3 n3 c3, .slice D dl cD] 22))
    have P3 := Lib.hid (B3.out.newBlock (.cells #[.slice A1 n1 c1, .slice A2 n2 c2, .slice A3 n3 c3, .slice D dl cD] 22))
    have P4 := Lib.hid ((HD.out.below hb14).newBlock (.cells #[.slice A1 n1 c1, .slice A2 n2 c2, .slice A3 n3 c3, .slice D dl cD] 22))
    have HL : Hid ((Dig.enc k ++ Dig.enc (zig mm) ++ (Dig.enc t.size ++ sb t) ++ d).length ≤ 140737488354304) := Lib.hid (by
      have h1 := Z1.out
      have h2 := Z2.out
      have h3 := Z3.out
      have h4 := HDL.out
      rw [List.length_append, List.length_append, List.length_append]
      omega)
    go_wp2_with fail
    refine (join_any P1.out P2.out P3.out P4.out HL.out ⟨_, _, heap_alloc_new w4 _⟩).mono ?_
    rintro e w5 ⟨hh, rr, rfl, hJ, hb5⟩
    have J := Lib.hid hJ
    have hb15 := nxA hb14 hb5
    clear hJ
    rw [HJ.out] at J ⊢
    obtain ⟨L5, hL5⟩ : ∃ L, L = (Dig.enc k ++ (Dig.enc (zig mm) ++ (Dig.enc t.size ++ sb t ++ d))).length := ⟨_, rfl⟩
    rw [← hL5] at J ⊢
    clear hL5
    go_wp2_with fail
    refine (New_any _ _ _ _ _ J.out).mono ?_
    rintro e w6 ⟨g, rfl, hr, hb6⟩
    have R6 := Lib.hid hr
    have GB := Lib.hid (Nat.le_trans hb15.size hr.lt.1)
    have hb16 := nx hb15 hb6
    clear hr
    go_wp2_with fail
    refine (rdU_any R6.out).mono ?_
    rw [N1.out]
    rintro e w7 ⟨rfl, hr, hg⟩
    have R7 := Lib.hid hr
    have hb17 := grown_bel hb16 hg GB.out
    clear hr hg
    go_wp2_with fail
    refine (rdS_any R7.out).mono ?_
    rw [N2.out, zag_zig]
    rintro e w8 ⟨rfl, hr, hg⟩
    have R8 := Lib.hid hr
    have hb18 := grown_bel hb17 hg GB.out
    clear hr hg
    go_wp2_with fail
    refine (rdText_any (t.size : Int) R8.out).mono ?_
    rw [N3.out]
    rintro e w9 ⟨rfl, _, _, hr, hg⟩
    rw [bs_sb]
    have R9 := Lib.hid hr
    have hb19 := grown_bel hb18 hg GB.out
    clear hr hg
    go_wp2_with fail
    refine (Left_any R9.out).mono ?_
    rintro e w10 ⟨rfl, rfl⟩
    rw [if_pos rfl, ← HDL.out]
    go_wp2_with fail
    refine (Raw_any (dl : Int) R9.out).mono ?_
    rw [show tk 0 (dl : Int) d = (true, d, 0, []) by rw [HDL.out]; exact tk_all d]
    rintro e w10 ⟨v, rfl, ho, hbt, hlm, hr, hg⟩
    obtain ⟨A5, n5, c5, rfl, h5, _⟩ := ownsRow_bs ho hbt hlm
    have H5 := Lib.hid h5
    have R10 := Lib.hid hr
    have hb110 := grown_bel hb19 hg GB.out
    clear ho hbt hlm hr hg h5
    go_wp2_with fail
    refine (eqBytes_any A5 D n5 c5 dl cD d d _ H5.out (HD.out.below hb110)).mono ?_
    rintro e w11 ⟨rfl, hb11⟩
    rw [show decide (d = d) = true from decide_eq_true rfl]
    go_wp2_with fail
    refine (Err_any (R10.out.below hb11)).mono ?_
    rintro e w12 ⟨rfl, rfl⟩
    go_wp2_with fail
    go_ret
    exact ⟨rfl, nx hb110 hb11⟩
  · have hm1 : -9007199254740991 ≤ (k : Int) := by omega
    have hm2 : (k : Int) ≤ 9007199254740991 := by omega
    have hzl := zig_le (k : Int) hm1 hm2
    have y2 : Byt (Dig.enc (zig (k : Int))) := Dig.enc_byt _ (by omega)
    have z2 : (Dig.enc (zig (k : Int))).length ≤ 8 := by rw [Dig.length_enc]; exact Dig.sz_le _
    have hT : tP t = (Dig.enc t.size ++ sb t, 0) := if_pos (by omega)
    obtain ⟨y3, z3⟩ := tP_ok t
    rw [hT] at y3 z3
    have z3' : (Dig.enc t.size ++ sb t).length ≤ 1008 := by rw [List.length_append, Dig.length_enc, sb_length]; have := Dig.sz_le t.size; omega
    have HS : Hid (∀ w, Calls Try.prog 21 #[.int .i64 (k : Int)] w fun e w' => TwoB w w' e (Dig.enc (zig (k : Int))) 0) := Lib.hid fun w => S_any (k : Int) w hm1 hm2
    have HT : Hid (∀ w, Calls Try.prog 22 #[.string t] w fun e w' => TwoB w w' e (Dig.enc t.size ++ sb t) 0) := Lib.hid fun w => by have := Text_all t w; rwa [hT] at this
    have N1 := Lib.hid (nb_enc 9007199254740991 k (by omega) hk2 (Dig.enc (zig (k : Int)) ++ (Dig.enc t.size ++ sb t ++ d)))
    have N2 := Lib.hid (nb_enc 18014398509481982 (zig (k : Int)) (by omega) hzl (Dig.enc t.size ++ sb t ++ d))
    have N3 : Hid (txt (t.size : Int) 0 (Dig.enc t.size ++ sb t ++ d) = (sb t, 0, d)) := Lib.hid (by have := txt_back (sb t) d (by rw [sb_length]; omega); rwa [sb_length] at this)
    have Y2 := Lib.hid y2
    have Z2 := Lib.hid z2
    have Y3 := Lib.hid y3
    have Z3 := Lib.hid z3'
    have HJ : Hid (Dig.enc k ++ Dig.enc (zig (k : Int)) ++ (Dig.enc t.size ++ sb t) ++ d = Dig.enc k ++ (Dig.enc (zig (k : Int)) ++ (Dig.enc t.size ++ sb t ++ d))) := Lib.hid (by simp only [List.append_assoc])
    have ht1000 : (t.size : Int) ≤ 1000 := by omega
    clear y2 z2 y3 z3 z3' hT hzl
    go_wp2_with fail
    refine (HU.out _ (by omega) (by omega)).mono ?_
    intro e w2 h
    obtain ⟨A1, n1, c1, rfl, hB, hb2⟩ := h.open Y1.out (by have := Z1.out; omega)
    have B1 := Lib.hid hB
    clear h hB
    go_wp2_with fail
    refine (HS.out _).mono ?_
    intro e w3 h
    obtain ⟨A2, n2, c2, rfl, hB, hb3⟩ := h.open Y2.out (by have := Z2.out; omega)
    have B2 := Lib.hid hB
    clear h hB
    go_wp2_with fail
    refine (HT.out _).mono ?_
    intro e w4 h
    obtain ⟨A3, n3, c3, rfl, hB, hb4⟩ := h.open Y3.out (by have := Z3.out; omega)
    have B3 := Lib.hid hB
    clear h hB
    have hb14 := nx (nx (nx hb1 hb2) hb3) hb4
    have P1 := Lib.hid ((B1.out.below (nx hb3 hb4)).newBlock (.cells #[.slice A1 n1 c1, .slice A2 n2 c2, .slice A3 n3 c3, .slice D dl cD] 22))
    have P2 := Lib.hid ((B2.out.below hb4).newBlock (.cells #[.slice A1 n1 c1, .slice A2 n2 c2, .slice A3 n3 c3, .slice D dl cD] 22))
    have P3 := Lib.hid (B3.out.newBlock (.cells #[.slice A1 n1 c1, .slice A2 n2 c2, .slice A3 n3 c3, .slice D dl cD] 22))
    have P4 := Lib.hid ((HD.out.below hb14).newBlock (.cells #[.slice A1 n1 c1, .slice A2 n2 c2, .slice A3 n3 c3, .slice D dl cD] 22))
    have HL : Hid ((Dig.enc k ++ Dig.enc (zig (k : Int)) ++ (Dig.enc t.size ++ sb t) ++ d).length ≤ 140737488354304) := Lib.hid (by
      have h1 := Z1.out
      have h2 := Z2.out
      have h3 := Z3.out
      have h4 := HDL.out
      rw [List.length_append, List.length_append, List.length_append]
      omega)
    go_wp2_with fail
    refine (join_any P1.out P2.out P3.out P4.out HL.out ⟨_, _, heap_alloc_new w4 _⟩).mono ?_
    rintro e w5 ⟨hh, rr, rfl, hJ, hb5⟩
    have J := Lib.hid hJ
    have hb15 := nxA hb14 hb5
    clear hJ
    rw [HJ.out] at J ⊢
    obtain ⟨L5, hL5⟩ : ∃ L, L = (Dig.enc k ++ (Dig.enc (zig (k : Int)) ++ (Dig.enc t.size ++ sb t ++ d))).length := ⟨_, rfl⟩
    rw [← hL5] at J ⊢
    clear hL5
    go_wp2_with fail
    refine (New_any _ _ _ _ _ J.out).mono ?_
    rintro e w6 ⟨g, rfl, hr, hb6⟩
    have R6 := Lib.hid hr
    have GB := Lib.hid (Nat.le_trans hb15.size hr.lt.1)
    have hb16 := nx hb15 hb6
    clear hr
    go_wp2_with fail
    refine (rdU_any R6.out).mono ?_
    rw [N1.out]
    rintro e w7 ⟨rfl, hr, hg⟩
    have R7 := Lib.hid hr
    have hb17 := grown_bel hb16 hg GB.out
    clear hr hg
    go_wp2_with fail
    refine (rdS_any R7.out).mono ?_
    rw [N2.out, zag_zig]
    rintro e w8 ⟨rfl, hr, hg⟩
    have R8 := Lib.hid hr
    have hb18 := grown_bel hb17 hg GB.out
    clear hr hg
    go_wp2_with fail
    refine (rdText_any (t.size : Int) R8.out).mono ?_
    rw [N3.out]
    rintro e w9 ⟨rfl, _, _, hr, hg⟩
    rw [bs_sb]
    have R9 := Lib.hid hr
    have hb19 := grown_bel hb18 hg GB.out
    clear hr hg
    go_wp2_with fail
    refine (Left_any R9.out).mono ?_
    rintro e w10 ⟨rfl, rfl⟩
    rw [if_pos rfl, ← HDL.out]
    go_wp2_with fail
    refine (Raw_any (dl : Int) R9.out).mono ?_
    rw [show tk 0 (dl : Int) d = (true, d, 0, []) by rw [HDL.out]; exact tk_all d]
    rintro e w10 ⟨v, rfl, ho, hbt, hlm, hr, hg⟩
    obtain ⟨A5, n5, c5, rfl, h5, _⟩ := ownsRow_bs ho hbt hlm
    have H5 := Lib.hid h5
    have R10 := Lib.hid hr
    have hb110 := grown_bel hb19 hg GB.out
    clear ho hbt hlm hr hg h5
    go_wp2_with fail
    refine (eqBytes_any A5 D n5 c5 dl cD d d _ H5.out (HD.out.below hb110)).mono ?_
    rintro e w11 ⟨rfl, hb11⟩
    rw [show decide (d = d) = true from decide_eq_true rfl]
    go_wp2_with fail
    refine (Err_any (R10.out.below hb11)).mono ?_
    rintro e w12 ⟨rfl, rfl⟩
    go_wp2_with fail
    go_ret
    exact ⟨rfl, nx hb110 hb11⟩
end Go.Proofs.Ytbbejajnfajpoaa
