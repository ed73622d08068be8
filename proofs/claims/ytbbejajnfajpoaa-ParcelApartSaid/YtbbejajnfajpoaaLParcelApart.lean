/- The walk of the law ParcelApart. No conditions. -/
import Derived.Test.YtbbejajnfajpoaaPW
import Derived.Test.YtbbejajnfajpoaaOwn
import Derived.Test.YtbbejajnfajpoaaRow
import Derived.Deep.RegionHeld3
import Derived.Deep.AppendLies
import Derived.BigRegion
import Derived.RegionTactic
import Derived.ChangeAlike
set_option linter.unusedSimpArgs false
set_option linter.unusedVariables false
namespace Go.Proofs.Ytbbejajnfajpoaa
open Go.RowKit
attribute [local go_sem] min2_mn min_2

theorem pk_yes2 {k : Nat} {b : List Nat} (hk : k ≤ 127) (hb : b.length ≤ 65536) : Par.pk (k : Int) b = (Par.frame k b, 0) := by
  unfold Par.pk
  rw [if_neg (by omega), if_neg (by omega), Int.toNat_natCast]
theorem frame_inj {k m : Nat} {a b r s : List Nat} (hk : k ≤ 127) (hm : m ≤ 127) (ha : a.length ≤ 65536) (hb : b.length ≤ 65536) (h : Par.frame k a ++ r = Par.frame m b ++ s) : k = m ∧ a = b := by
  have h1 := fstP_frame hk ha r
  have h2 := fstP_frame hm hb s
  rw [h] at h1
  rw [h1] at h2
  injection h2 with h3 _
  injection h3 with h4 h5
  injection h5 with h6 _
  exact ⟨h4, h6⟩
theorem frame_same {k m : Nat} {a b : List Nat} (hk : k ≤ 127) (hm : m ≤ 127) (ha : a.length ≤ 65536) (hb : b.length ≤ 65536) :
    (Par.frame k a = Par.frame m b ↔ k = m ∧ a = b) ∧ (∀ n, n = min (Par.frame k a).length (Par.frame m b).length → ((Par.frame k a).take n = (Par.frame m b).take n ↔ k = m ∧ a = b)) := by
  refine ⟨⟨fun h => frame_inj (r := []) (s := []) hk hm ha hb (by rw [h]), fun h => by rw [h.1, h.2]⟩, fun n hn => ⟨fun h => ?_, fun h => by rw [h.1, h.2]⟩⟩
  have h1 := List.take_append_drop n (Par.frame k a)
  have h2 := List.take_append_drop n (Par.frame m b)
  by_cases hc : (Par.frame k a).length ≤ (Par.frame m b).length
  · rw [List.take_of_length_le (l := Par.frame k a) (by omega)] at h
    exact frame_inj (r := (Par.frame m b).drop n) (s := []) hk hm ha hb (by rw [h, h2, List.append_nil])
  · rw [List.take_of_length_le (l := Par.frame m b) (by omega)] at h
    exact frame_inj (r := []) (s := (Par.frame k a).drop n) hk hm ha hb (by rw [← h, h1, List.append_nil])

set_option maxHeartbeats 8000000 in
set_option maxRecDepth 100000 in
theorem parcelApart_core (A : Option Addr) (ca : Nat) (a : List Nat) (B : Option Addr) (cb : Nat) (b : List Nat) (a0 a1 : Int) (w : World) (hA : BS w A a.length ca a) (hB : BS w B b.length cb b) (ha0 : I64 a0) (ha1 : I64 a1) :
    Calls Try.prog 7 #[.slice A a.length ca, .slice B b.length cb, .agg #[.int .i64 a0, .int .i64 a1]] w fun e w' => e = .returned (.bool true) ∧ Below w.heap.size w w' := by
  have m1 := mnI_lit a.length 3000 3000 rfl
  have m2 := mnI_lit b.length 3000 3000 rfl
  have kA := hA.cutN (show min a.length 3000 ≤ a.length by omega)
  have kB := hB.cutN (show min b.length 3000 ≤ b.length by omega)
  have na := hA.le
  have nb' := hB.le
  have q2 : min a.length 3000 ≤ 3000 := by omega
  have q3 : min a.length 3000 ≤ a.length := by omega
  have q4 : min b.length 3000 ≤ 3000 := by omega
  have q5 : min b.length 3000 ≤ b.length := by omega
  have la := hA.lim
  have lb := hB.lim
  generalize min a.length 3000 = n1 at *
  generalize min b.length 3000 = n2 at *
  generalize a.take n1 = x at *
  generalize b.take n2 = y at *
  have hx := kA.len
  have hy := kB.len
  have HX := Lib.hid kA
  have HY := Lib.hid kB
  have z0 : (0 : Int) ≤ (n1 : Int) := by omega
  have z1 : (n1 : Int) ≤ (ca : Int) := by omega
  have z2 : (0 : Int) ≤ (n2 : Int) := by omega
  have z3 : (n2 : Int) ≤ (cb : Int) := by omega
  clear hA hB kA kB
  generalize a.length = al at *
  generalize b.length = bl at *
  have HXN := Lib.hid hx
  have HYN := Lib.hid hy
  clear hx hy
  go_enter Try.func7, Try.ntmps7
  go_wp2_with fail
  obtain ⟨wa, hwa⟩ : ∃ wa, wa = w.alloc (.cells #[.int .i64 a0, .int .i64 a1] 45) := ⟨_, rfl⟩
  obtain ⟨q, hq⟩ : ∃ q, q = w.heap.size := ⟨_, rfl⟩
  rw [← hwa, ← hq]
  have hba : Below w.heap.size w wa := by rw [hwa]; exact (bel0 w).alloc (Nat.le_refl _) _
  have hat : wa.heap[q]? = some (.cells #[.int .i64 a0, .int .i64 a1] 45 (0, 0)) := by rw [hwa, hq]; exact heap_alloc_new w _
  have hqa : q < wa.heap.size := (Array.getElem?_eq_some_iff.1 hat).1
  have HAT := Lib.hid hat
  clear hat hwa hq
  refine (works03_any _).mono ?_
  rintro e w1 ⟨rfl, hb1⟩
  have AT1 := Lib.hid ((hb1.block q hqa).trans HAT.out)
  have hb01 := nx hba hb1
  have c0 := cell_of AT1.out 0
  have c1 := cell_of AT1.out 1
  simp at c0 c1
  obtain ⟨k, hk, hk7⟩ : ∃ k : Nat, bring a0 128 = k ∧ k ≤ 127 := by
    have h0 := Int.emod_nonneg a0 (b := 128) (by omega)
    have h1 := Int.emod_lt_of_pos a0 (b := 128) (by omega)
    refine ⟨(bring a0 128).toNat, ?_, ?_⟩ <;> unfold bring <;> rw [if_neg (by omega)] <;> omega
  obtain ⟨m, hm, hm7⟩ : ∃ k : Nat, bring a1 128 = k ∧ k ≤ 127 := by
    have h0 := Int.emod_nonneg a1 (b := 128) (by omega)
    have h1 := Int.emod_lt_of_pos a1 (b := 128) (by omega)
    refine ⟨(bring a1 128).toNat, ?_, ?_⟩ <;> unfold bring <;> rw [if_neg (by omega)] <;> omega
  have BR1 : Hid (∀ w, Calls Try.prog 19 #[.int .i64 a0, .int .i64 128] w fun e w' => e = .returned (.int .i64 (k : Int)) ∧ w = w') := Lib.hid fun w => by rw [← hk]; exact bring_any a0 128 _ ha0.1 ha0.2 (by omega) (by omega)
  have BR2 : Hid (∀ w, Calls Try.prog 19 #[.int .i64 a1, .int .i64 128] w fun e w' => e = .returned (.int .i64 (m : Int)) ∧ w = w') := Lib.hid fun w => by rw [← hm]; exact bring_any a1 128 _ ha1.1 ha1.2 (by omega) (by omega)
  clear hk hm ha0 ha1
  go_wp2_with fail
  go_region
  go_wp2_with fail
  go_region_held3 (fun w' => Below w1.heap.size w1 w' ∧ w'.cell? ⟨q, 0, none⟩ = some (.int .i64 a0) ∧ w'.cell? ⟨q, 1, none⟩ = some (.int .i64 a1))
    (first | exact ⟨(bel0 _).drew.drew, c0, c1⟩ | assumption)
    (first
      | (go_at_call 19; (with_reducible refine (BR1.out _).mono ?_); rintro e wb ⟨rfl, rfl⟩)
      | (go_at_call 19; (with_reducible refine (BR2.out _).mono ?_); rintro e wb ⟨rfl, rfl⟩))
  have hb02 : Below w.heap.size w w1.drew.drew := hb01.drew.drew
  generalize w1.drew.drew = w2 at *
  rename_i hK
  clear hK c0 c1 BR1 BR2 AT1 HAT hb1 hba hqa m1 m2 z0 z1 z2 z3
  obtain ⟨hs1, hs2⟩ := frame_same (k := k) (m := m) (a := x) (b := y) hk7 hm7 (by rw [← HXN.out]; omega) (by rw [← HYN.out]; omega)
  have PK1 := Lib.hid (pack_any (k : Int) A n1 ca x w2 (HX.out.below hb02))
  have PK2 := Lib.hid (fun w (h : BS w B n2 cb y) => pack_any (m : Int) B n2 cb y w h)
  rw [pk_yes2 hk7 (by rw [← HXN.out]; omega)] at PK1
  rw [pk_yes2 hm7 (by rw [← HYN.out]; omega)] at PK2
  have lf1 := par_frame_length k x
  have lf2 := par_frame_length m y
  have yf1 : Byt (Par.frame k x) := par_frame_byt (by omega) (by rw [← HXN.out]; omega) HX.out.byt
  have yf2 : Byt (Par.frame m y) := par_frame_byt (by omega) (by rw [← HYN.out]; omega) HY.out.byt
  have s1 := Dig.sz_le k
  have s2 := Dig.sz_le x.length
  have s3 := Dig.sz_le m
  have s4 := Dig.sz_le y.length
  have l1 : (Par.frame k x).length ≤ 4000 := by rw [lf1, ← HXN.out]; have := HXN.out; rw [← this] at s2; omega
  have l2 : (Par.frame m y).length ≤ 4000 := by rw [lf2, ← HYN.out]; have := HYN.out; rw [← this] at s4; omega
  clear lf1 lf2 s1 s2 s3 s4
  generalize Par.frame k x = f1 at *
  generalize Par.frame m y = f2 at *
  have Y1 := Lib.hid yf1
  have Y2 := Lib.hid yf2
  have L1 := Lib.hid l1
  have L2 := Lib.hid l2
  have S1 := Lib.hid hs1
  have S2 := Lib.hid hs2
  clear yf1 yf2 hs1 hs2
  go_wp2_with fail
  refine PK1.out.mono ?_
  intro r w3 hh
  obtain ⟨A1, k1, c1, rfl, hB1, hb3⟩ := hh.open Y1.out (by have := L1.out; omega)
  have B1 := Lib.hid hB1
  have hb03 := nx hb02 hb3
  clear hh hB1
  go_wp2_with fail
  refine (PK2.out _ (HY.out.below hb03)).mono ?_
  intro r w4 hh
  obtain ⟨A2, k2, c2, rfl, hB2, hb4⟩ := hh.open Y2.out (by have := L2.out; omega)
  have B2 := Lib.hid hB2
  have B14 := Lib.hid (B1.out.below hb4)
  have hb04 := nx hb03 hb4
  clear hh hB2
  obtain ⟨n, hn⟩ : ∃ n, n = min k1 k2 := ⟨_, rfl⟩
  have hmn : mnI (k1 : Int) (k2 : Int) = (n : Int) := by rw [hn]; exact mnI_nat k1 k2
  have hk1 := B14.out.len
  have hk2 := B2.out.len
  have hc1 := B14.out.le
  have hc2 := B2.out.le
  have C1 := Lib.hid (B14.out.cutN (k := n) (by omega))
  have C2 := Lib.hid (B2.out.cutN (k := n) (by omega))
  have hq1 : ∀ w : World, (Instr.slice 22 (.slice A1 k1 c1) none (some (.int .i64 (n : Int))) none).run Try.prog w = .ok (.slice A1 n c1) w := fun w => slice_take (by omega)
  have hq2 : ∀ w : World, (Instr.slice 22 (.slice A2 k2 c2) none (some (.int .i64 (n : Int))) none).run Try.prog w = .ok (.slice A2 n c2) w := fun w => slice_take (by omega)
  have T2 := Lib.hid (S2.out n (by rw [hn, hk1, hk2]))
  have K1 := Lib.hid hk1
  have K2 := Lib.hid hk2
  have zc1 : (n : Int) ≤ (c1 : Int) := by omega
  have zc2 : (n : Int) ≤ (c2 : Int) := by omega
  have zc0 : (0 : Int) ≤ (n : Int) := by omega
  clear hn hk1 hk2
  obtain ⟨sb, hsb⟩ : ∃ sb : Bool, sb = decide (k = m ∧ x = y) := ⟨_, rfl⟩
  have e1 : decide (f1 = f2) = sb := by rw [hsb, Bool.eq_iff_iff, decide_eq_true_eq, decide_eq_true_eq]; exact S1.out
  have e2 : decide (f1.take n = f2.take n) = sb := by rw [hsb, Bool.eq_iff_iff, decide_eq_true_eq, decide_eq_true_eq]; exact T2.out
  have QF : Hid (∀ w', Below w4.heap.size w4 w' → Calls Try.prog 29 #[.slice A1 k1 c1, .slice A2 k2 c2] w' fun e w'' => e = .returned (.bool sb) ∧ Below w'.heap.size w' w'') := Lib.hid fun w' hb => by
    rw [← e1]; exact eqBytes_any A1 A2 k1 c1 k2 c2 f1 f2 w' (B14.out.below hb) (B2.out.below hb)
  have QC : Hid (∀ w', Below w4.heap.size w4 w' → Calls Try.prog 29 #[.slice A1 n c1, .slice A2 n c2] w' fun e w'' => e = .returned (.bool sb) ∧ Below w'.heap.size w' w'') := Lib.hid fun w' hb => by
    rw [← e2]; exact eqBytes_any A1 A2 n c1 n c2 _ _ w' (C1.out.below hb) (C2.out.below hb)
  have HSB := Lib.hid hsb
  clear e1 e2 hsb T2 S1 S2 C1 C2 B1 B14 B2
  by_cases hkm : k = m
  · subst hkm
    go_wp2_with fail
    refine (eqBytes_any A B n1 ca n2 cb x y _ (HX.out.below hb04) (HY.out.below hb04)).mono ?_
    rintro r w5 ⟨rfl, hb5⟩
    rw [show decide (x = y) = sb by rw [HSB.out]; simp]
    cases sb with
    | true =>
      go_wp2_with fail
      go_region_held3 (fun w' => Below w4.heap.size w4 w')
        (first | exact hb5.drew | exact nx (by assumption) (by assumption))
        (first
          | (go_at_call 29; (with_reducible refine (QF.out _ (by assumption)).mono ?_); rintro e wc ⟨rfl, hbc⟩)
          | (go_at_call 29; (with_reducible refine (QC.out _ (by assumption)).mono ?_); rintro e wd ⟨rfl, hbd⟩))
      go_wp2_with fail
      go_ret
      exact ⟨rfl, nx hb04 (by assumption)⟩
    | false =>
      go_wp2_with fail
      go_region_held3 (fun w' => Below w4.heap.size w4 w')
        (first | exact hb5.drew | exact nx (by assumption) (by assumption))
        (first
          | (go_at_call 29; (with_reducible refine (QF.out _ (by assumption)).mono ?_); rintro e wc ⟨rfl, hbc⟩)
          | (go_at_call 29; (with_reducible refine (QC.out _ (by assumption)).mono ?_); rintro e wd ⟨rfl, hbd⟩))
      go_wp2_with fail
      go_ret
      exact ⟨rfl, nx hb04 (by assumption)⟩
  · obtain rfl : sb = false := by rw [HSB.out]; simp [hkm]
    have hkm' : ((k : Int) == (m : Int)) = false := by simp; omega
    go_wp2_with fail
    go_region_held3 (fun w' => Below w4.heap.size w4 w')
      (first | exact (bel0 _).drew | exact nx (by assumption) (by assumption))
      (first
        | (go_at_call 29; (with_reducible refine (QF.out _ (by assumption)).mono ?_); rintro e wc ⟨rfl, hbc⟩)
        | (go_at_call 29; (with_reducible refine (QC.out _ (by assumption)).mono ?_); rintro e wd ⟨rfl, hbd⟩))
    go_wp2_with fail
    go_ret
    exact ⟨rfl, nx hb04 (by assumption)⟩
theorem parcelApart_walk (A : Option Addr) (ca : Nat) (a : List Nat) (B : Option Addr) (cb : Nat) (b : List Nat) (ks : List Int) (w : World) (hA : BS w A a.length ca a) (hB : BS w B b.length cb b) (lk : ks.length = 2) (hk : ∀ x ∈ ks, I64 x) :
    Calls Try.prog 7 #[.slice A a.length ca, .slice B b.length cb, .agg (ks.map (Value.int .i64)).toArray] w fun e w' => e = .returned (.bool true) ∧ Below w.heap.size w w' := by
  match ks, lk, hk with
  | [a0, a1], _, hk => exact parcelApart_core A ca a B cb b a0 a1 w hA hB (hk a0 (by simp)) (hk a1 (by simp))
end Go.Proofs.Ytbbejajnfajpoaa
