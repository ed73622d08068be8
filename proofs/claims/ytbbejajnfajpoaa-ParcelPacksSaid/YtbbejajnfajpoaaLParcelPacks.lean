/- The walk of the law ParcelPacks. No conditions. -/
import Derived.Test.YtbbejajnfajpoaaPW
import Derived.Test.YtbbejajnfajpoaaRPk
import Derived.Test.YtbbejajnfajpoaaOwn
import Derived.Test.YtbbejajnfajpoaaRow
set_option linter.unusedSimpArgs false
set_option linter.unusedVariables false
namespace Go.Proofs.Ytbbejajnfajpoaa
open Go.RowKit

theorem pk_code (kind : Int) (l : List Nat) : ((Par.pk kind l).2 == 0) = (decide (0 ≤ kind) && (decide (kind ≤ 127) && decide (l.length ≤ 65536))) := by
  unfold Par.pk
  by_cases h1 : kind < 0 ∨ 127 < kind
  · rw [if_pos h1]
    rcases h1 with h | h
    · rw [show decide (0 ≤ kind) = false from decide_eq_false (by omega)]; rfl
    · rw [show decide (kind ≤ 127) = false from decide_eq_false (by omega)]; simp
  · rw [if_neg h1]
    by_cases h2 : 65536 < l.length
    · rw [if_pos h2, show decide (l.length ≤ 65536) = false from decide_eq_false (by omega)]; simp
    · rw [if_neg h2, show decide (l.length ≤ 65536) = true from decide_eq_true (by omega), show decide (0 ≤ kind) = true from decide_eq_true (by omega), show decide (kind ≤ 127) = true from decide_eq_true (by omega)]; rfl

set_option maxHeartbeats 8000000 in
set_option maxRecDepth 100000 in
theorem parcelPacks_walk (kind : Int) (A : Option Addr) (c : Nat) (l : List Nat) (w : World) (hk : I64 kind) (hA : BS w A l.length c l) :
    Calls Try.prog 4 #[.int .i64 kind, .slice A l.length c] w fun e w' => e = .returned (.bool true) ∧ Below w.heap.size w w' := by
  have hcode := pk_code kind l
  have hok := pk_ok (kind := kind) hA.byt
  have HP := Lib.hid (fun w (h : BS w A l.length c l) => pack_any kind A l.length c l w h)
  have HQ := Lib.hid (fun w (h : BS w A l.length c l) => refPack_any kind A l.length c l w h)
  have HPA := Lib.hid (fun (B : Option Addr) (n d : Nat) w (h : BS w B n d l) => pack_any kind B n d l w h)
  have HP0 := HP.out
  have HQ0 := HQ.out
  have HPA0 := HPA.out
  clear HP HQ HPA
  generalize Par.pk kind l = x at *
  obtain ⟨y, e⟩ := x
  simp only at hcode hok HP0 HQ0 HPA0
  have HP := Lib.hid HP0
  have HQ := Lib.hid HQ0
  have HPA := Lib.hid HPA0
  have HY := Lib.hid hok.1
  have HYL := Lib.hid hok.2
  have HL := Lib.hid hA
  have HCODE := Lib.hid hcode
  clear HP0 HQ0 HPA0 hok hcode hA
  generalize hn : l.length = n at *
  by_cases hbig : 3000 < n
  · have hbig' : (3000 : Int) < (n : Int) := by omega
    go_enter Try.func4, Try.ntmps4
    go_wp2_with fail
    refine (HP.out _ HL.out).mono ?_
    intro r w1 hh
    obtain ⟨A1, n1, c1, rfl, hB1, hb1⟩ := hh.open HY.out (by have := HYL.out; omega)
    clear hh
    have hc := HCODE.out
    have he : (e == 0) = decide (e = 0) := by rw [Bool.eq_iff_iff]; simp
    by_cases h0 : 0 ≤ kind
    · by_cases h1 : kind ≤ 127
      · by_cases h2 : n ≤ 65536
        · have h2' : (n : Int) ≤ 65536 := by omega
          have hce : e = 0 := by rw [show decide (0 ≤ kind) = true from decide_eq_true h0, show decide (kind ≤ 127) = true from decide_eq_true h1, show decide (n ≤ 65536) = true from decide_eq_true h2] at hc; simpa using hc
          subst hce
          clear hc he HCODE
          go_wp2_with fail
          refine (works03_any _).mono ?_
          rintro r w2 ⟨rfl, hb2⟩
          go_wp2_with fail
          go_ret
          exact ⟨rfl, nx hb1 hb2⟩
        · have h2' : ¬ (n : Int) ≤ 65536 := by omega
          have hce : (e == 0) = false := by rw [hc, show decide (n ≤ 65536) = false from decide_eq_false h2]; simp
          clear hc he HCODE
          go_wp2_with fail
          refine (works03_any _).mono ?_
          rintro r w2 ⟨rfl, hb2⟩
          go_wp2_with fail
          go_ret
          exact ⟨by show Ending.returned (Value.bool (!decide ((n : Int) ≤ 65536))) = _; rw [show decide ((n : Int) ≤ 65536) = false from decide_eq_false (by omega)]; rfl, nx hb1 hb2⟩
      · have hce : (e == 0) = false := by rw [hc, show decide (kind ≤ 127) = false from decide_eq_false h1]; simp
        clear hc he HCODE
        go_wp2_with fail
        refine (works03_any _).mono ?_
        rintro r w2 ⟨rfl, hb2⟩
        go_wp2_with fail
        go_ret
        exact ⟨rfl, nx hb1 hb2⟩
    · have hce : (e == 0) = false := by rw [hc, show decide (0 ≤ kind) = false from decide_eq_false h0]; simp
      clear hc he HCODE
      go_wp2_with fail
      refine (works03_any _).mono ?_
      rintro r w2 ⟨rfl, hb2⟩
      go_wp2_with fail
      go_ret
      exact ⟨rfl, nx hb1 hb2⟩
  · have hbig' : ¬ (3000 : Int) < (n : Int) := by omega
    go_enter Try.func4, Try.ntmps4
    go_wp2_with fail
    refine (copyBytes_any A n c l _ HL.out).mono ?_
    rintro r w1 ⟨v, rfl, ho, hb1⟩
    obtain ⟨A1, n1, c1, rfl, hB1, _⟩ := ownsRow_bs ho HL.out.byt HL.out.lim
    have B1 := Lib.hid hB1
    clear ho hB1
    go_wp2_with fail
    refine (HPA.out A1 n1 c1 _ B1.out).mono ?_
    rintro r w2 ⟨v, rfl, ho, hb2⟩
    obtain ⟨A2, n2, c2, rfl, hB2, _⟩ := ownsRow_bs ho HY.out (by have := HYL.out; omega)
    have B2 := Lib.hid hB2
    have O2 := Lib.hid ho
    have hb12 := nx hb1 hb2
    have HN2 := Lib.hid hB2.len
    clear ho hB2
    go_wp2_with fail
    refine (HQ.out _ (HL.out.below hb12)).mono ?_
    intro r w3 hh
    obtain ⟨A3, n3, c3, rfl, hB3, hb3⟩ := hh.open HY.out (by have := HYL.out; omega)
    have B3 := Lib.hid hB3
    have hb23 := nx hb2 hb3
    have hb13 := nx hb12 hb3
    clear hh hB3
    go_wp2_with fail
    refine (eqBytes_any A2 A3 n2 c2 n3 c3 y y _ (B2.out.below hb3) B3.out).mono ?_
    rintro r w4 ⟨rfl, hb4⟩
    rw [show decide (y = y) = true from decide_eq_true rfl]
    have O4 := Lib.hid (ownsRow_below O2.out (nx hb3 hb4))
    have hb14 := nx hb23 hb4
    rw [← HN2.out] at O4
    have hyl : n2 ≤ 65556 := by have := HYL.out; have := HN2.out; omega
    clear O2 B2 B3
    go_wp2_with fail
    go_loopw [12] (fun i wr => ∃ k : Nat, ∃ L : List Nat, k ≤ n2 ∧ i = .int .i64 k ∧ Hid (wr.ownsRow w1.heap.size 5 1 (.slice A2 n2 c2) n2 (bv L)) ∧ Hid (Byt L) ∧ Hid (Below w1.heap.size w1 wr)) (fun i _ => n2 - (intOf i).toNat)
    case atStart => exact ⟨0, y, Nat.zero_le _, rfl, O4, HY, Lib.hid hb14⟩
    case round =>
      clear O4 hb14
      obtain ⟨k, L, hk, rfl, HO, HB, HW⟩ := hrel
      by_cases hkn : k < n2
      · obtain ⟨cb, hA3, hcb⟩ := own_some HO.out (by omega)
        subst hA3
        have hlen := own_len HO.out
        have hkl : k < L.length := by omega
        have hc := own_cell HO.out hkl
        have hf := HO.out.frozenAt k
        have HLN := Lib.hid hlen
        clear hlen
        generalize L[k] = xx at *
        go_wp2_with fail
        exact ⟨⟨k + 1, L.set k 0, by omega, by go_num, Lib.hid (own_store HO.out k 0), Lib.hid (byt_set HB.out k 0 (by omega)), Lib.hid (HW.out.setCell (p := ⟨cb, k, none⟩) hcb _)⟩, by simp [intOf]; omega⟩
      · go_wp2_with fail
        refine (eqBytes_any A1 A n1 c1 n c l l _ (B1.out.below HW.out) (HL.out.below (nx hb1 HW.out))).mono ?_
        rintro r w5 ⟨rfl, hb5⟩
        rw [show decide (l = l) = true from decide_eq_true rfl]
        go_wp2_with fail
        refine (works03_any _).mono ?_
        rintro r w6 ⟨rfl, hb6⟩
        go_wp2_with fail
        go_ret
        exact ⟨rfl, nx (nx (nx hb1 HW.out) hb5) hb6⟩
end Go.Proofs.Ytbbejajnfajpoaa
