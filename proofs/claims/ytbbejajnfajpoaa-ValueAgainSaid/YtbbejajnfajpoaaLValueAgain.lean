/- The walk of the law ValueAgain. No conditions. -/
import Derived.Test.YtbbejajnfajpoaaVW
import Derived.Test.YtbbejajnfajpoaaVPure
import Derived.Test.YtbbejajnfajpoaaRow
set_option linter.unusedSimpArgs false
set_option linter.unusedVariables false
namespace Go.Proofs.Ytbbejajnfajpoaa
open Go.RowKit

theorem asB_byt {L : List Att} (h : mayA L = 0) (hp : ∀ a ∈ L, a.lab.p < 4294967296) : Byt (asB L) := by
  unfold asB
  refine Byt.append (Dig.enc_byt _ (by have := (may_yes h).1; omega)) ?_
  intro x hx
  rw [List.mem_flatten] at hx
  obtain ⟨y, hy, hxy⟩ := hx
  obtain ⟨a, ha, rfl⟩ := List.mem_map.1 hy
  obtain ⟨i, hi, rfl⟩ := List.getElem_of_mem ha
  have h1 := chkA_yes (may_att h hi)
  have h2 := nm_size h1.1
  exact (Byt.append (Byt.append (Dig.enc_byt _ (by omega)) (sb_byt _)) (Byt.append (lb_ok _ (hp _ ha)).1 (vb_ok _).1)) x hxy

set_option maxHeartbeats 16000000 in
set_option maxRecDepth 100000 in
theorem valueAgain_walk (A : Option Addr) (c : Nat) (l : List Nat) (w : World) (hA : BS w A l.length c l) :
    Calls Try.prog 13 #[.slice A l.length c] w fun e w' => e = .returned (.bool true) ∧ Below w.heap.size w w' := by
  have hv := tkV_yes (e := 0) hA.byt
  have hv2 := tkV_no (e := 0) (l := l)
  have hs := tkAs_yes (e := 0) hA.byt
  have hs2 := tkAs_no (e := 0) (l := l)
  have hsp : (∀ a ∈ (tkAs 0 l).1, a.lab.p < 4294967296) ∧ (tkAs 0 l).1.length ≤ 8 := by
    unfold tkAs
    split
    · exact tkLs_ok 0 l
    · exact ⟨(by intro a ha; cases ha), by simp⟩
  have TV := Lib.hid (fun (w : World) (lo g : Nat) (h : Rdr w lo g 0 l) => takeV_any h)
  have TS := Lib.hid (fun (w : World) (lo g : Nat) (h : Rdr w lo g 0 l) => takeAs_any h)
  have TV0 := TV.out
  have TS0 := TS.out
  clear TV TS
  have hcl := hA.le
  have hlm := hA.lim
  have HA := Lib.hid hA
  clear hA
  generalize tkV 0 l = X at *
  generalize tkAs 0 l = Y at *
  obtain ⟨v, e1, r1⟩ := X
  obtain ⟨L, e2, r2⟩ := Y
  simp only at hv hv2 hs hs2 hsp TV0 TS0
  have HV := Lib.hid hv
  have HV2 := Lib.hid hv2
  have HS := Lib.hid hs
  have HS2 := Lib.hid hs2
  have HSP := Lib.hid hsp
  have TV := Lib.hid TV0
  have TS := Lib.hid TS0
  clear hv hv2 hs hs2 hsp TV0 TS0
  obtain ⟨bl, hbl⟩ : ∃ bl, bl = l.length := ⟨_, rfl⟩
  rw [← hbl] at HA hcl hlm ⊢
  have HBL := Lib.hid hbl
  clear hbl
  obtain ⟨k, n, b⟩ := v
  unfold Val.v at TV
  simp only at TV
  go_enter Try.func13, Try.ntmps13
  go_wp2_with fail
  refine (works08_any _).mono ?_
  rintro r w1 ⟨rfl, hb1⟩
  go_wp2_with fail
  refine (New_any A bl c l _ (HA.out.below hb1)).mono ?_
  rintro r w2 ⟨g1, rfl, hr, hb2⟩
  have R2 := Lib.hid hr
  have G1 := Lib.hid hr.lt
  clear hr
  go_wp2_with fail
  refine (New_any A bl c l _ (HA.out.below (nx hb1 hb2))).mono ?_
  rintro r w3 ⟨g2, rfl, hr, hb3⟩
  have S3 := Lib.hid hr
  have G2 := Lib.hid hr.lt
  have R3 := Lib.hid (R2.out.below hb3)
  have hb03 := nx (nx hb1 hb2) hb3
  have hw1 := hb1.size
  have hg12 : g1 < w2.heap.size ∧ w2.heap.size ≤ g2 ∧ w.heap.size ≤ g1 := by
    have := G1.out
    have := G2.out
    omega
  clear hr R2
  go_wp2_with fail
  refine (TV.out _ _ _ R3.out).mono ?_
  rintro r w4 ⟨rfl, hr, hg⟩
  have R4 := Lib.hid hr
  have S4 := Lib.hid (S3.out.grown hg (fun j hj => by cases hj; omega))
  have hb04 := grown_bel hb03 hg hg12.2.2
  clear hr hg R3 S3
  go_wp2_with fail
  refine (TS.out _ _ _ S4.out).mono ?_
  rintro r w5 ⟨vL, rfl, ho, hr, hg⟩
  obtain ⟨A5, n5, c5, rfl, hAS⟩ := own_as ho HSP.out.1 (by show L.length ≤ _; have := HSP.out.2; omega)
  have S5 := Lib.hid hr
  have R5 := Lib.hid (R4.out.grown hg (fun j hj => by cases hj; omega))
  have L5 := Lib.hid hAS
  have hb05 := grown_bel hb04 hg (by omega)
  have N5 := Lib.hid hAS.len
  clear ho hr hg hAS S4 R4
  have BX := Lib.hid (BV.new w5 ⟨k, n, b⟩)
  obtain ⟨w6, hw6⟩ : ∃ W, W = w5.alloc (.cells #[.int .i64 k, .int .i64 n, .string b] 58) := ⟨_, rfl⟩
  rw [← hw6] at BX
  have R6 := Lib.hid (show Rdr w6 _ g1 e1 r1 by rw [hw6]; exact R5.out.below ((bel0 w5).alloc (Nat.le_refl _) _))
  have S6 := Lib.hid (show Rdr w6 _ g2 e2 r2 by rw [hw6]; exact S5.out.below ((bel0 w5).alloc (Nat.le_refl _) _))
  have L6 := Lib.hid (show AS w6 A5 n5 c5 L by rw [hw6]; exact L5.out.below ((bel0 w5).alloc (Nat.le_refl _) _))
  have hb06 : Below w.heap.size w w6 := by rw [hw6]; exact hb05.alloc hb05.size _
  obtain ⟨d0, d1, d2⟩ := BX.out.cells
  simp only at d0 d1 d2
  clear R5 S5 L5 hb05
  go_wp2_with fail
  rw [← hw6]
  clear hw6
  refine (Err_any R6.out).mono ?_
  rintro r w7 ⟨rfl, rfl⟩
  by_cases q1 : e1 = 0
  · subst q1
    obtain ⟨_, hck, hvl⟩ := HV.out rfl
    have hvb2 : (vb ⟨k, n, b⟩).2 = 0 := by unfold vb; rw [if_pos hck]
    have BY := Lib.hid (bytesV_any ⟨k, n, b⟩)
    rw [hvb2] at BY
    unfold Val.v at BY
    simp only at BY
    have hvok := vb_ok ⟨k, n, b⟩
    have hsum1 : (vb ⟨k, n, b⟩).1.length + r1.length = bl := by have := congrArg List.length hvl; rw [List.length_append] at this; rw [HBL.out]; exact this.symm
    have htk1 : l.take (vb ⟨k, n, b⟩).1.length = (vb ⟨k, n, b⟩).1 := by
      conv => lhs; rw [hvl]
      exact List.take_left
    have HVOK := Lib.hid hvok
    have HTK1 := Lib.hid htk1
    clear hvb2 hvok htk1 hvl hck HV HV2
    generalize (vb ⟨k, n, b⟩).1 = ys at *
    generalize hyl : ys.length = yn at *
    have HYL := Lib.hid hyl
    clear hyl
    go_wp2_with fail
    refine (BY.out _).mono ?_
    intro r w8 hh
    obtain ⟨A6, n6, c6, rfl, hB6, hb8⟩ := hh.open HVOK.out.1 (by rw [HYL.out]; have := HVOK.out.2; omega)
    have B6 := Lib.hid hB6
    obtain rfl : n6 = yn := hB6.len.trans HYL.out
    have hq1 : ∀ w : World, (Instr.slice 22 (.slice A bl c) none (some (.int .i64 (n6 : Int))) none).run Try.prog w = .ok (.slice A n6 c) w := fun w => slice_take (by omega)
    have hy1 : ((n6 : Int) + (r1.length : Int)) = (bl : Int) := by omega
    have K6 := Lib.hid ((HA.out.below (nx hb06 hb8)).cutN (k := n6) (by rw [← HBL.out]; omega))
    have hy2 : (n6 : Int) ≤ (c : Int) := by omega
    have hy3 : (0 : Int) ≤ (n6 : Int) := by omega
    have hy4 : IntKind.i64.wrap (bl : Int) = (bl : Int) := by rw [IntKind.wrap_i64]; omega
    clear hh hB6 d0 d1 d2
    go_wp2_with fail
    refine (Left_any (R6.out.below hb8)).mono ?_
    rintro r w9 ⟨rfl, rfl⟩
    rw [if_pos rfl]
    go_wp2_with fail
    refine (eqBytes_any A6 A n6 c6 n6 c ys (l.take n6) _ B6.out K6.out).mono ?_
    rintro r w10 ⟨rfl, hb10⟩
    rw [show decide (ys = l.take n6) = true from decide_eq_true HTK1.out.symm]
    have hb8' := nx hb8 hb10
    have hb010 := nx hb06 hb8'
    have S10 := Lib.hid (S6.out.below hb8')
    have L10 := Lib.hid (L6.out.below hb8')
    clear S6 L6 B6 K6 hq1 hy1 hy2 hy3 hy4 hsum1
    by_cases q2 : e2 = 0
    · subst q2
      obtain ⟨_, hmay, hsl⟩ := HS.out rfl
      have hAT : atP L = (asB L, 0) := if_pos hmay
      have hby := asB_byt hmay HSP.out.1
      have hsum : (asB L).length + r2.length = bl := by have := congrArg List.length hsl; rw [List.length_append] at this; rw [HBL.out]; exact this.symm
      have htk : l.take (asB L).length = asB L := by
        conv => lhs; rw [hsl]
        exact List.take_left
      have HAT := Lib.hid hAT
      have HBYT := Lib.hid hby
      have HTK := Lib.hid htk
      clear hAT hby htk hsl hmay
      generalize asB L = xs at *
      generalize hxl : xs.length = xn at *
      have HXL := Lib.hid hxl
      clear hxl
      go_wp2_with fail
      refine (Err_any S10.out).mono ?_
      rintro r w20 ⟨rfl, rfl⟩
      go_wp2_with fail
      refine (attrs_any L10.out).mono ?_
      rw [HAT.out]
      intro r w21 hh
      obtain ⟨A7, n7, c7, rfl, hB7, hb21⟩ := hh.open HBYT.out (by rw [HXL.out]; omega)
      have B7 := Lib.hid hB7
      obtain rfl : n7 = xn := hB7.len.trans HXL.out
      have hq : ∀ w : World, (Instr.slice 22 (.slice A bl c) none (some (.int .i64 (n7 : Int))) none).run Try.prog w = .ok (.slice A n7 c) w := fun w => slice_take (by omega)
      have hz1 : ((n7 : Int) + (r2.length : Int)) = (bl : Int) := by omega
      have K7 := Lib.hid (((HA.out.below (nx hb010 hb21))).cutN (k := n7) (by rw [← HBL.out]; omega))
      have hz2 : (n7 : Int) ≤ (c : Int) := by omega
      have hz3 : (0 : Int) ≤ (n7 : Int) := by omega
      have hz4 : IntKind.i64.wrap (bl : Int) = (bl : Int) := by rw [IntKind.wrap_i64]; omega
      clear hh hB7
      go_wp2_with fail
      refine (Left_any (S10.out.below hb21)).mono ?_
      rintro r w22 ⟨rfl, rfl⟩
      rw [if_pos rfl]
      go_wp2_with fail
      refine (eqBytes_any A7 A n7 c7 n7 c xs (l.take n7) _ B7.out K7.out).mono ?_
      rintro r w23 ⟨rfl, hb23⟩
      rw [show decide (xs = l.take n7) = true from decide_eq_true HTK.out.symm]
      go_wp2_with fail
      go_ret
      exact ⟨rfl, nx (nx hb010 hb21) hb23⟩
    · have q2' : (e2 != 0) = true := by simp; exact q2
      have hL := HS2.out q2
      have hn0 : n5 = 0 := by rw [N5.out, hL]; rfl
      subst hn0
      go_wp2_with fail
      refine (Err_any S10.out).mono ?_
      rintro r w20 ⟨rfl, rfl⟩
      go_wp2_with fail
      go_ret
      exact ⟨rfl, hb010⟩
  · have q1' : (e1 == 0) = false := by simp; exact q1
    have hv0 := HV2.out q1
    injection hv0 with hk0 hn0' hb0'
    subst hk0 hn0' hb0'
    have heq : ∀ w, (Op.equalIn 10000 58 (.agg #[.int .i64 0, .int .i64 0, .string ⟨#[]⟩]) (.agg #[.int .i64 0, .int .i64 0, .string ⟨#[]⟩])).run Try.prog w = .ok true w := fun w => by
      have := eqV_run 9998 ⟨0, 0, ⟨#[]⟩⟩ ⟨0, 0, ⟨#[]⟩⟩ w
      rw [(eqV_iff _ _).2 rfl] at this
      exact this
    by_cases q2 : e2 = 0
    · subst q2
      obtain ⟨_, hmay, hsl⟩ := HS.out rfl
      have hAT : atP L = (asB L, 0) := if_pos hmay
      have hby := asB_byt hmay HSP.out.1
      have hsum : (asB L).length + r2.length = bl := by have := congrArg List.length hsl; rw [List.length_append] at this; rw [HBL.out]; exact this.symm
      have htk : l.take (asB L).length = asB L := by
        conv => lhs; rw [hsl]
        exact List.take_left
      have HAT := Lib.hid hAT
      have HBYT := Lib.hid hby
      have HTK := Lib.hid htk
      clear hAT hby htk hsl hmay
      generalize asB L = xs at *
      generalize hxl : xs.length = xn at *
      have HXL := Lib.hid hxl
      clear hxl
      go_wp2_with fail
      refine (Err_any S6.out).mono ?_
      rintro r w20 ⟨rfl, rfl⟩
      go_wp2_with fail
      refine (attrs_any L6.out).mono ?_
      rw [HAT.out]
      intro r w21 hh
      obtain ⟨A7, n7, c7, rfl, hB7, hb21⟩ := hh.open HBYT.out (by rw [HXL.out]; omega)
      have B7 := Lib.hid hB7
      obtain rfl : n7 = xn := hB7.len.trans HXL.out
      have hq : ∀ w : World, (Instr.slice 22 (.slice A bl c) none (some (.int .i64 (n7 : Int))) none).run Try.prog w = .ok (.slice A n7 c) w := fun w => slice_take (by omega)
      have hz1 : ((n7 : Int) + (r2.length : Int)) = (bl : Int) := by omega
      have K7 := Lib.hid (((HA.out.below (nx hb06 hb21))).cutN (k := n7) (by rw [← HBL.out]; omega))
      have hz2 : (n7 : Int) ≤ (c : Int) := by omega
      have hz3 : (0 : Int) ≤ (n7 : Int) := by omega
      have hz4 : IntKind.i64.wrap (bl : Int) = (bl : Int) := by rw [IntKind.wrap_i64]; omega
      clear hh hB7
      go_wp2_with fail
      refine (Left_any (S6.out.below hb21)).mono ?_
      rintro r w22 ⟨rfl, rfl⟩
      rw [if_pos rfl]
      go_wp2_with fail
      refine (eqBytes_any A7 A n7 c7 n7 c xs (l.take n7) _ B7.out K7.out).mono ?_
      rintro r w23 ⟨rfl, hb23⟩
      rw [show decide (xs = l.take n7) = true from decide_eq_true HTK.out.symm]
      go_wp2_with fail
      go_ret
      exact ⟨rfl, nx (nx hb06 hb21) hb23⟩
    · have q2' : (e2 != 0) = true := by simp; exact q2
      have hL := HS2.out q2
      have hn0 : n5 = 0 := by rw [N5.out, hL]; rfl
      subst hn0
      go_wp2_with fail
      refine (Err_any S6.out).mono ?_
      rintro r w20 ⟨rfl, rfl⟩
      go_wp2_with fail
      go_ret
      exact ⟨rfl, hb06⟩
end Go.Proofs.Ytbbejajnfajpoaa
