/- The walk of the law ParcelTakes. No conditions. -/
import Derived.Test.YtmnabhennibddaaGA34
import Derived.Test.YtmnabhennibddaaGA35
import Derived.Test.YtmnabhennibddaaGA01
set_option linter.unusedSimpArgs false
set_option linter.unusedVariables false
namespace Go.Proofs.Ytmnabhennibddaa
open Go.RowKit

theorem AllR.open {w w' : World} {r : Ending} {F : List (Nat × List Nat)} {t : List Nat} {e : Int} (h : AllR w w' r (F, t, e)) (hF : F.length ≤ 1000000000) (hk : ∀ x ∈ F, Byt x.2 ∧ x.2.length ≤ 65536 ∧ x.1 ≤ 127) (ht : Byt t) (htl : t.length ≤ 140737488354304) :
    ∃ A c B d D k g, r = .returned (.tuple #[.slice A F.length c, .slice B F.length d, .slice D k g, .int .i64 e]) ∧ IL w' A F.length c (F.map fun f => (f.1 : Int)) ∧ EL blR w' B F.length d (F.map (·.2)) ∧ BS w' D k g t ∧ w'.ownsRow w.heap.size 5 1 (.slice D k g) t.length (bv t) ∧ Below w.heap.size w w' := by
  obtain ⟨v, u, z, rfl, h1, h2, h3, hb⟩ := h
  obtain ⟨A, c, rfl, hI⟩ := ino_il h1 (by
    intro x hx
    obtain ⟨f, hf, rfl⟩ := List.mem_map.1 hx
    have := (hk f hf).2.2
    unfold I64
    omega) (by simp; omega)
  obtain ⟨B, d, rfl, hE, _⟩ := h2.el (p := fun x : List Nat => Byt x ∧ x.length ≤ 140737488354304) blO_rd (by
    intro x hx
    obtain ⟨f, hf, rfl⟩ := List.mem_map.1 hx
    have := hk f hf
    exact ⟨this.1, by omega⟩) (by simp; omega)
  obtain ⟨D, k, g, rfl, hD, _⟩ := ownsRow_bs h3 ht htl
  simp only [List.length_map] at hI hE ⊢
  exact ⟨_, _, _, _, _, _, _, rfl, hI, hE, hD, h3, hb⟩
theorem alP_ok {l : List Nat} (hl : Byt l) : (alP l).1.length ≤ l.length ∧ (∀ x ∈ (alP l).1, Byt x.2 ∧ x.2.length ≤ 65536 ∧ x.1 ≤ 127) ∧ Byt (alP l).2.1 ∧ (alP l).2.1.length ≤ l.length := by
  have h1 := allN_le (l.length + 1) hl
  have h2 := allN_len (l.length + 1) hl
  unfold alP
  simp only
  split
  · exact ⟨Nat.zero_le _, (by intro x hx; cases hx), (by intro x hx; cases hx), Nat.zero_le _⟩
  · exact ⟨h2, h1.2, fun x hx => hl x (List.mem_of_mem_drop hx), by simp⟩
theorem u8_inc (x : Nat) : IntKind.u8.wrap ((x : Int) + 1) = (((x + 1) % 256 : Nat) : Int) := by
  unfold IntKind.wrap
  simp [IntKind.bits, IntKind.signed]
  try omega
attribute [local go_sem] min2_mn min_2
set_option maxHeartbeats 32000000 in
set_option maxRecDepth 100000 in
theorem parcelTakes_walk (A : Option Addr) (c : Nat) (l0 : List Nat) (w : World) (hA : BS w A l0.length c l0) :
    Calls Try.prog 3 #[.slice A l0.length c] w fun e w' => e = .returned (.bool true) ∧ Below w.heap.size w w' := by
  have m1 := mnI_lit l0.length 3000 3000 rfl
  have hle := hA.le
  have hlim := hA.lim
  have kA := hA.cutN (show min l0.length 3000 ≤ l0.length by omega)
  obtain ⟨l, hl⟩ : ∃ l, l = l0.take (min l0.length 3000) := ⟨_, rfl⟩
  rw [← hl] at kA
  obtain ⟨n0, hn0⟩ : ∃ n, n = l0.length := ⟨_, rfl⟩
  rw [← hn0] at m1 hle kA hl hlim ⊢
  obtain ⟨n, hn⟩ : ∃ n, n = min n0 3000 := ⟨_, rfl⟩
  rw [← hn] at m1 kA
  have h1 : n ≤ c := by omega
  have hnl := kA.len
  have hl3 : l.length ≤ 3000 := by omega
  have HBY := Lib.hid kA.byt
  have HA := Lib.hid kA
  have HLM := Lib.hid kA.lim
  have hs0 := fun w : World => slice_take (w := w) (A := A) (n := n0) (c := c) (k := n) h1
  have hleN : (n : Int) ≤ (c : Int) := by omega
  have C1 := Lib.hid (fun (w : World) (A : Option Addr) (n c : Nat) (h : BS w A n c l) => next_any h)
  have C2 := Lib.hid (fun (w : World) (A : Option Addr) (n c : Nat) (h : BS w A n c l) => refNext_any h)
  have C3 := Lib.hid (fun (w : World) (A : Option Addr) (n c : Nat) (h : BS w A n c l) => all_any h (by omega))
  have C4 := Lib.hid (fun (w : World) (A : Option Addr) (n c : Nat) (h : BS w A n c l) => refAll_any h (by omega))
  have hnx := nxP_byt kA.byt
  have hal := alP_ok kA.byt
  generalize nxP l = X at *
  obtain ⟨k1, b1, t1, e1⟩ := X
  generalize alP l = Y at *
  obtain ⟨F2, t2, e2⟩ := Y
  simp only at hnx hal
  have HNX := Lib.hid (show Byt b1 ∧ b1.length ≤ 140737488354304 ∧ Byt t1 ∧ t1.length ≤ 140737488354304 from ⟨hnx.1, by omega, hnx.2.1, by omega⟩)
  have HAL := Lib.hid (show F2.length ≤ 1000000000 ∧ (∀ x ∈ F2, Byt x.2 ∧ x.2.length ≤ 65536 ∧ x.1 ≤ 127) ∧ Byt t2 ∧ t2.length ≤ 140737488354304 from ⟨by omega, hal.2.1, hal.2.2.1, by omega⟩)
  clear hA kA hl hn hn0 hnl hl3 hnx hal
  go_enter Try.func3, Try.ntmps3
  go_wp2_with fail
  refine (copyBytes_any A n c l _ HA.out).mono ?_
  rintro e w1 ⟨v, rfl, ho, hb⟩
  obtain ⟨A1, n1, c1, rfl, hB, _⟩ := ownsRow_bs ho HBY.out HLM.out
  have E1 := Lib.hid hB
  have EW := Lib.hid hB
  have H1 := Lib.hid hb
  clear ho hB hb
  go_wp2_with fail
  refine (C1.out _ _ _ _ E1.out).mono ?_
  intro r w2 hh
  obtain ⟨v, u, rfl, ho, hu, hb⟩ := hh
  obtain ⟨V2, m2, d2, rfl, hV2, _⟩ := ownsRow_bs ho HNX.out.1 HNX.out.2.1
  obtain ⟨U2, o2, f2, rfl, hU2, _⟩ := ownsRow_bs hu HNX.out.2.2.1 HNX.out.2.2.2
  have hm2 := hV2.len
  simp only at hm2 ho
  subst hm2
  have HV2 := Lib.hid hV2
  have HU2 := Lib.hid hU2
  have HO2 := Lib.hid ho
  have H12 := Lib.hid hb
  have E2 := Lib.hid (E1.out.below hb)
  clear ho hu hb hV2 hU2 E1 C1
  as_aux_lemma =>
    go_wp2_with fail
    refine (C2.out _ _ _ _ (HA.out.below (nx H1.out H12.out))).mono ?_
    intro r w3 hh
    obtain ⟨v, u, rfl, ho, hu, hb⟩ := hh
    obtain ⟨V3, m3, d3, rfl, hV3, _⟩ := ownsRow_bs ho HNX.out.1 HNX.out.2.1
    obtain ⟨U3, o3, f3, rfl, hU3, _⟩ := ownsRow_bs hu HNX.out.2.2.1 HNX.out.2.2.2
    have HV3 := Lib.hid hV3
    have HU3 := Lib.hid hU3
    have HV23 := Lib.hid (HV2.out.below hb)
    have HU23 := Lib.hid (HU2.out.below hb)
    have HO3 := Lib.hid (ownsRow_below HO2.out hb)
    have H13 := Lib.hid (nx H12.out hb)
    have E3 := Lib.hid (E2.out.below hb)
    have H13' := Lib.hid (nx H12.out hb).size
    have HG := Lib.hid (fun k hk => Nat.lt_of_lt_of_le (HO2.out.lt k hk).2 hb.size)
    clear ho hu hb hV3 hU3 E2 C2 HV2 HU2 HO2 H12
    go_wp2_with fail
    refine (C3.out _ _ _ _ E3.out).mono ?_
    intro r w4 hh
    obtain ⟨A4, c4, B4, d4, D4, k4, g4, rfl, hI, hE, hD, ho, hb⟩ := hh.open HAL.out.1 HAL.out.2.1 HAL.out.2.2.1 HAL.out.2.2.2
    have hk4 := hD.len
    subst hk4
    have I4 := Lib.hid hI
    have L4 := Lib.hid hE
    have D4' := Lib.hid hD
    have O4 := Lib.hid ho
    have HV24 := Lib.hid (HV23.out.below hb)
    have HU24 := Lib.hid (HU23.out.below hb)
    have HV34 := Lib.hid (HV3.out.below hb)
    have HU34 := Lib.hid (HU3.out.below hb)
    have HO4 := Lib.hid (ownsRow_below HO3.out hb)
    have H14 := Lib.hid (nx H13.out hb)
    have E4 := Lib.hid (E3.out.below hb)
    clear hI hE hD ho hb hh E3 C3 HV23 HU23 HV3 HU3 HO3 H13
    as_aux_lemma =>
      go_wp2_with fail
      refine (C4.out _ _ _ _ (HA.out.below (nx H1.out H14.out))).mono ?_
      intro r w5 hh
      obtain ⟨A5, c5, B5, d5, D5, k5, g5, rfl, hI, hE, hD, ho, hb⟩ := hh.open HAL.out.1 HAL.out.2.1 HAL.out.2.2.1 HAL.out.2.2.2
      have I5 := Lib.hid hI
      have L5 := Lib.hid hE
      have D5' := Lib.hid hD
      have I45 := Lib.hid (I4.out.below hb)
      have L45 := Lib.hid (L4.out.below hb)
      have D45 := Lib.hid (D4'.out.below hb)
      have O5 := Lib.hid (ownsRow_below O4.out hb)
      have HV25 := Lib.hid (HV24.out.below hb)
      have HU25 := Lib.hid (HU24.out.below hb)
      have HV35 := Lib.hid (HV34.out.below hb)
      have HU35 := Lib.hid (HU34.out.below hb)
      have HO5 := Lib.hid (ownsRow_below HO4.out hb)
      have H15 := Lib.hid (nx H14.out hb)
      have E5 := Lib.hid (E4.out.below hb)
      clear hI hE hD ho hb hh E4 C4 HV24 HU24 HV34 HU34 HO4 H14 I4 L4 D4' O4
      as_aux_lemma =>
        have hk0 : ((k1 : Int) != (k1 : Int)) = false := by simp
        have he0 : (e1 != e1) = false := by simp
        have hg0 : (e2 != e2) = false := by simp
        go_wp2_with fail
        refine (eqBytes_any V2 V3 _ d2 m3 d3 b1 b1 _ HV25.out HV35.out).mono ?_
        rintro r w6 ⟨rfl, hb6⟩
        rw [decide_eq_true rfl]
        go_wp2_with fail
        refine (eqBytes_any U2 U3 o2 f2 o3 f3 t1 t1 _ (HU25.out.below hb6) (HU35.out.below hb6)).mono ?_
        rintro r w7 ⟨rfl, hb7⟩
        rw [decide_eq_true rfl]
        go_wp2_with fail
        refine (eqInts_any A4 A5 _ c4 _ c5 _ _ _ (I45.out.below (nx hb6 hb7)) (I5.out.below (nx hb6 hb7))).mono ?_
        rintro r w8 ⟨rfl, hb8⟩
        rw [decide_eq_true rfl]
        go_wp2_with fail
        refine (sameList_any (L45.out.below (nx (nx hb6 hb7) hb8)) (L5.out.below (nx (nx hb6 hb7) hb8))).mono ?_
        rintro r w9 ⟨rfl, hb9⟩
        rw [decide_eq_true rfl]
        go_wp2_with fail
        refine (eqBytes_any D4 D5 _ g4 k5 g5 t2 t2 _ (D45.out.below (nx (nx (nx hb6 hb7) hb8) hb9)) (D5'.out.below (nx (nx (nx hb6 hb7) hb8) hb9))).mono ?_
        rintro r wa ⟨rfl, hba⟩
        rw [decide_eq_true rfl]
        have hz := nx (nx (nx (nx hb6 hb7) hb8) hb9) hba
        have OB := Lib.hid (ownsRow_below HO5.out hz)
        have OT := Lib.hid (ownsRow_below O5.out hz)
        have H1a := Lib.hid (nx H15.out hz)
        have Ea := Lib.hid (E5.out.below hz)
        have HB1 := Lib.hid HNX.out.1
        have HT2 := Lib.hid HAL.out.2.2.1
        have HNB := Lib.hid HNX.out.2.1
        have HNT := Lib.hid HAL.out.2.2.2
        have hs2 := nx (bel0 w1) (bel0 w1)
        clear hz hs2 hb6 hb7 hb8 hb9 hba HO5 O5 H15 E5 HV25 HV35 HU25 HU35 I45 I5 L45 L5 D45 D5' HNX HAL hk0 he0 hg0
        obtain ⟨nb, hnb⟩ : ∃ z, z = b1.length := ⟨_, rfl⟩
        obtain ⟨nt, hnt⟩ : ∃ z, z = t2.length := ⟨_, rfl⟩
        rw [← hnb] at OB ⊢
        rw [← hnt] at OT ⊢
        have hbw := OB.out.1
        have hnb3 : nb ≤ 140737488354304 := by rw [hnb]; exact HNB.out
        have hnt3 : nt ≤ 140737488354304 := by rw [hnt]; exact HNT.out
        clear hnb hnt hbw
        as_aux_lemma =>
          go_wp2_with fail
          go_loopw [20] (fun i wr => ∃ (k : Nat) (X : List Nat), k ≤ nb ∧ i = .int .i64 k ∧ Hid (wr.ownsRow w1.heap.size 5 1 (.slice V2 nb d2) nb (bv X)) ∧ Hid (Byt X) ∧ Hid (wr.ownsRow w3.heap.size 5 1 (.slice D4 nt g4) nt (bv t2)) ∧ Hid (Below w1.heap.size w1 wr)  ) (fun i _ => nb - (intOf i).toNat)
          case atStart => exact ⟨0, b1, Nat.zero_le _, rfl, OB, HB1, OT, H1a⟩
          case round =>
            clear OB OT H1a
            obtain ⟨k, X, hk, rfl, HO, HB, HT, HW⟩ := hrel
            by_cases hkn : k < nb
            · obtain ⟨cb, hA3, hcb⟩ := own_some HO.out (by omega)
              subst hA3
              have hkl : k < X.length := by have := own_len HO.out; omega
              have hc := own_cell HO.out hkl
              have hf := HO.out.frozenAt k
              have hcg := HG.out cb rfl
              have hinc := u8_inc X[k]
              have hxb := HB.out X[k] (List.getElem_mem hkl)
              have hki : (k : Int) < (nb : Int) := by omega
              have HH := Lib.hid (And.intro hcb hcg)
              clear hcb hcg
              generalize X[k] = xx at *
              have hmod : ((xx : Int) + 1) % 256 = (((xx + 1) % 256 : Nat) : Int) := by omega
              have HMD := Lib.hid hmod
              clear hmod hinc
              go_wp2_with fail
              rw [HMD.out]
              refine ⟨⟨k + 1, X.set k ((xx + 1) % 256), by omega, by go_num, Lib.hid (own_store HO.out k ((xx + 1) % 256)), Lib.hid (byt_set HB.out k _ (Nat.mod_lt _ (by omega))), Lib.hid (ownsRow_setCell_other HT.out (a := ⟨cb, k, none⟩) (fun e => ?_) _), Lib.hid (HW.out.setCell (p := ⟨cb, k, none⟩) HH.out.1 _)⟩, by simp [intOf]; omega⟩
              have h1 := own_block HT.out _ e
              have h2 := HH.out.2
              simp only at h1
              omega
            · have hki : ¬ (k : Int) < (nb : Int) := by omega
              clear HO HB
              go_wp2_with fail
              go_loopw [21] (fun i wr => ∃ (k : Nat) (X : List Nat), k ≤ nt ∧ i = .int .i64 k ∧ Hid (wr.ownsRow w3.heap.size 5 1 (.slice D4 nt g4) nt (bv X)) ∧ Hid (Byt X) ∧ Hid (Below w1.heap.size w1 wr)) (fun i _ => nt - (intOf i).toNat)
              case atStart => exact ⟨0, t2, Nat.zero_le _, rfl, HT, HT2, HW⟩
              case round =>
                clear HT HW hki
                obtain ⟨k, X, hk, rfl, HO, HB, HW⟩ := hrel
                by_cases hkn : k < nt
                · obtain ⟨cb, hA3, hcb⟩ := own_some HO.out (by omega)
                  subst hA3
                  have hkl : k < X.length := by have := own_len HO.out; omega
                  have hc := own_cell HO.out hkl
                  have hf := HO.out.frozenAt k
                  have hxb := HB.out X[k] (List.getElem_mem hkl)
                  have hki : (k : Int) < (nt : Int) := by omega
                  have hw13 := H13'.out
                  have HH := Lib.hid (show w1.heap.size ≤ cb by omega)
                  clear hcb hw13
                  generalize X[k] = xx at *
                  have HMD := Lib.hid (show ((xx : Int) + 1) % 256 = (((xx + 1) % 256 : Nat) : Int) by omega)
                  go_wp2_with fail
                  rw [HMD.out]
                  exact ⟨⟨k + 1, X.set k ((xx + 1) % 256), by omega, by go_num, Lib.hid (own_store HO.out k ((xx + 1) % 256)), Lib.hid (byt_set HB.out k _ (Nat.mod_lt _ (by omega))), Lib.hid (HW.out.setCell (p := ⟨cb, k, none⟩) HH.out _)⟩, by simp [intOf]; omega⟩
                · have hki : ¬ (k : Int) < (nt : Int) := by omega
                  clear HO HB
                  go_wp2_with fail
                  refine (eqBytes_any A1 A n1 c1 n c l l _ (EW.out.below HW.out) (HA.out.below (nx H1.out HW.out))).mono ?_
                  rintro r wc ⟨rfl, hb⟩
                  rw [decide_eq_true rfl]
                  have HWC := Lib.hid (nx (nx H1.out HW.out) hb)
                  clear hb
                  go_wp2_with fail
                  refine (works03_any _).mono ?_
                  rintro r wd ⟨rfl, hb⟩
                  go_wp2_with fail
                  go_ret
                  exact ⟨rfl, nx HWC.out hb⟩
end Go.Proofs.Ytmnabhennibddaa
