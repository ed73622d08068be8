/- The walk of the law ParcelTurned. No conditions. -/
import Derived.Test.YtbbejajnfajpoaaPW
import Derived.Test.YtbbejajnfajpoaaRNxt
import Derived.Test.YtbbejajnfajpoaaOwn
import Derived.Test.YtbbejajnfajpoaaRow
import Derived.Deep.RegionHeld3
import Derived.Deep.AppendLies
import Derived.BigRegion
import Derived.RegionTactic
import Derived.ChangeAlike
set_option linter.unusedSimpArgs false
set_option linter.unusedVariables false
namespace Go.Proofs.Ytbbejajnfajpoaa
open Go.RowKit
attribute [local go_sem] min2_mn min_2

theorem pk_yes {k : Nat} {b : List Nat} (hk : k ≤ 127) (hb : b.length ≤ 65536) : Par.pk (k : Int) b = (Par.frame k b, 0) := by
  unfold Par.pk
  rw [if_neg (by omega), if_neg (by omega), Int.toNat_natCast]
theorem nx_turned {k : Nat} {b L : List Nat} (hk : k ≤ 127) (hb : b.length ≤ 65536) (hl : L.length = (Par.frame k b).length)
    (hh : ∀ i, i < (Dig.enc k).length + (Dig.enc b.length).length → L[i]? = (Par.frame k b)[i]?) :
    (Crc.Fits (Par.hd k b).length L → (nxP L).2.2.2 = 0) ∧ (¬ Crc.Fits (Par.hd k b).length L → (nxP L).2.2.2 = 30) := by
  have e0 : Par.frame k b = Dig.enc k ++ (Dig.enc b.length ++ (b ++ Crc.row (Crc.on 0 (Par.hd k b)))) := by
    have := hd_enc k b []
    simpa using this
  have hH : (Par.hd k b).length = (Dig.enc k).length + ((Dig.enc b.length).length + b.length) := by
    unfold Par.hd
    simp only [List.length_append]
  have hF : (Par.frame k b).length = (Par.hd k b).length + 4 := by unfold Par.frame; rw [List.length_append, crc_row_length]
  have ht : L.take ((Dig.enc k).length + (Dig.enc b.length).length) = Dig.enc k ++ Dig.enc b.length := by
    have e1 : Dig.enc k ++ Dig.enc b.length = (Par.frame k b).take ((Dig.enc k).length + (Dig.enc b.length).length) := by
      rw [e0, ← List.append_assoc, ← List.length_append, List.take_left]
    rw [e1]
    apply List.ext_getElem?
    intro i
    rw [List.getElem?_take, List.getElem?_take]
    split
    · rename_i hi; exact hh i hi
    · rfl
  obtain ⟨M, hM⟩ : ∃ M, M = L.drop ((Dig.enc k).length + (Dig.enc b.length).length) := ⟨_, rfl⟩
  have hL : L = Dig.enc k ++ (Dig.enc b.length ++ M) := by
    rw [← List.append_assoc, ← ht, hM, List.take_append_drop]
  have hml : M.length = b.length + 4 := by
    have := congrArg List.length hL
    simp only [List.length_append] at this
    omega
  have n1 : numP 127 L = (k, 0, Dig.enc b.length ++ M) := by rw [hL]; exact numP_enc hk (by omega) _
  have n2 : numP 65536 (Dig.enc b.length ++ M) = (b.length, 0, M) := numP_enc hb (by omega) _
  obtain ⟨_, h2, h3⟩ := nx_c n1 n2
  have hE : L.length - M.length + b.length = (Par.hd k b).length := by omega
  rw [hE] at h2 h3
  have h4 : (L.drop (Par.hd k b).length).take 4 = L.drop (Par.hd k b).length := List.take_of_length_le (by rw [List.length_drop]; omega)
  rw [h4] at h2 h3
  unfold Crc.Fits
  refine ⟨fun h => ?_, fun h => ?_⟩
  · rw [h2 (by omega) h.symm]
  · rw [h3 (by omega) (fun e => h e.symm)]

set_option maxHeartbeats 8000000 in
set_option maxRecDepth 100000 in
theorem parcelTurned_core (B : Option Addr) (cb : Nat) (b : List Nat) (a0 a1 : Int) (bt : Nat) (w : World) (hB : BS w B b.length cb b) (ha0 : I64 a0) (ha1 : I64 a1) (hbt : bt < 4294967296) :
    Calls Try.prog 6 #[.slice B b.length cb, .agg #[.int .i64 a0, .int .i64 a1], .int .u32 bt] w fun e w' => e = .returned (.bool true) ∧ Below w.heap.size w w' := by
  have m1 := mnI_lit b.length 3000 3000 rfl
  have kB := hB.cutN (show min b.length 3000 ≤ b.length by omega)
  have l2 := hB.lim
  have n2 := hB.le
  have q2 : min b.length 3000 ≤ 3000 := by omega
  have q3 : min b.length 3000 ≤ b.length := by omega
  generalize min b.length 3000 = n at *
  generalize b.take n = x at *
  have hxn := kB.len
  have HX := Lib.hid kB
  clear hB kB
  have z0 : (0 : Int) ≤ (n : Int) := by omega
  have z1 : (n : Int) ≤ (cb : Int) := by omega
  have HXN := Lib.hid hxn
  clear hxn
  go_enter Try.func6, Try.ntmps6
  go_wp2_with fail
  obtain ⟨wa, hwa⟩ : ∃ wa, wa = w.alloc (.cells #[.int .i64 a0, .int .i64 a1] 45) := ⟨_, rfl⟩
  obtain ⟨q, hq⟩ : ∃ q, q = w.heap.size := ⟨_, rfl⟩
  rw [← hwa, ← hq]
  have hba : Below w.heap.size w wa := by rw [hwa]; exact (bel0 w).alloc (Nat.le_refl _) _
  have hat : wa.heap[q]? = some (.cells #[.int .i64 a0, .int .i64 a1] 45 (0, 0)) := by rw [hwa, hq]; exact heap_alloc_new w _
  have hqa : q < wa.heap.size := (Array.getElem?_eq_some_iff.1 hat).1
  have HAT := Lib.hid hat
  clear hat hwa hq
  refine (works03_any _).mono ?_
  rintro e w1 ⟨rfl, hb1⟩
  have AT1 := Lib.hid ((hb1.block q hqa).trans HAT.out)
  have hb01 := nx hba hb1
  have c0 := cell_of AT1.out 0
  have c1 := cell_of AT1.out 1
  simp at c0 c1
  go_wp2_with fail
  refine (bring_any a0 128 _ ha0.1 ha0.2 (by omega) (by omega)).mono ?_
  rintro e w2 ⟨rfl, rfl⟩
  obtain ⟨k, hk, hk7⟩ : ∃ k : Nat, bring a0 128 = k ∧ k ≤ 127 := by
    have h0 := Int.emod_nonneg a0 (b := 128) (by omega)
    have h1 := Int.emod_lt_of_pos a0 (b := 128) (by omega)
    refine ⟨(bring a0 128).toNat, ?_, ?_⟩ <;> unfold bring <;> rw [if_neg (by omega)] <;> omega
  rw [hk]
  clear hk ha0
  have PK := Lib.hid (pack_any (k : Int) B n cb x w1 (HX.out.below hb01))
  rw [pk_yes hk7 (by rw [← HXN.out]; omega)] at PK
  obtain ⟨y, hy⟩ : ∃ y, y = Par.frame k x := ⟨_, rfl⟩
  rw [← hy] at PK
  obtain ⟨h, hh⟩ : ∃ h, h = (Dig.enc k).length + (Dig.enc x.length).length := ⟨_, rfl⟩
  obtain ⟨N, hN⟩ : ∃ N, N = (Par.hd k x).length := ⟨_, rfl⟩
  have hNh : N = h + n := by rw [hN, hh, HXN.out]; unfold Par.hd; simp only [List.length_append]; omega
  have hyl : y.length = N + 4 := by rw [hy, hN]; unfold Par.frame; rw [List.length_append, crc_row_length]
  have hyb : Byt y := by rw [hy]; exact par_frame_byt (by omega) (by rw [← HXN.out]; omega) HX.out.byt
  have hyf : Crc.Fits N y := by rw [hy, hN]; exact Crc.fits_row _
  have hh2 : 2 ≤ h := by rw [hh, Dig.length_enc, Dig.length_enc]; have := Dig.sz_pos k; have := Dig.sz_pos x.length; omega
  have hh8 : h ≤ 16 := by rw [hh, Dig.length_enc, Dig.length_enc]; have := Dig.sz_le k; have := Dig.sz_le x.length; omega
  have HTN := Lib.hid (fun (L : List Nat) (hl : L.length = y.length) (hp : ∀ i, i < h → L[i]? = y[i]?) => nx_turned (k := k) (b := x) (L := L) hk7 (by rw [← HXN.out]; omega) (by rw [← hy]; exact hl) (by rw [← hy, ← hh]; exact hp))
  rw [← hN] at HTN
  clear hy hh hN
  go_wp2_with fail
  refine PK.out.mono ?_
  rintro e w3 ⟨v, rfl, hod, hb3⟩
  obtain ⟨g, c4, hv4, hg, _⟩ := hod.form (show 0 < y.length by omega)
  rw [hyl] at hv4 hod
  subst hv4
  have HO := Lib.hid hod
  have HY := Lib.hid (And.intro hyb (And.intro hyl hyf))
  have AT3 := Lib.hid ((hb3.block q (by have := hb1.size; omega)).trans AT1.out)
  clear c0 c1
  have c0 := cell_of AT3.out 0
  have c1 := cell_of AT3.out 1
  simp at c0 c1
  have hg1 : w.heap.size ≤ g := by have := hb01.size; omega
  have HS1 := Lib.hid hb01.size
  have hb4 := nx hb01 hb3
  clear hod hyb hyl hyf PK AT1 hb3 hb1 hb01 hg
  have e1 : ((N + 4 : Nat) : Int) - (n : Int) = ((h + 4 : Nat) : Int) := by omega
  have e2 : ((h + 4 : Nat) : Int) - 4 = (h : Int) := by omega
  have e3 : ((N + 4 : Nat) : Int) - (h : Int) = ((n + 4 : Nat) : Int) := by omega
  have e4 : ¬ (h : Int) < 2 := by omega
  obtain ⟨Z, hZ⟩ : ∃ Z, Z = N + 4 := ⟨_, rfl⟩
  obtain ⟨M, hM⟩ : ∃ M, M = n + 4 := ⟨_, rfl⟩
  obtain ⟨h4, hh4⟩ : ∃ h4, h4 = h + 4 := ⟨_, rfl⟩
  rw [← hZ] at e1 e3 HO HY ⊢
  rw [← hM] at e3
  rw [← hh4] at e1 e2
  have hZM : Z = h + M := by omega
  have HZN := Lib.hid hZ
  have HMN := Lib.hid hM
  have HHN := Lib.hid hh4
  have hMb : M ≤ 3004 := by omega
  have hZb : Z ≤ 3020 := by omega
  have hM4 : 4 ≤ M := by omega
  have HZM := Lib.hid hZM
  clear hZ hM hh4 hNh hZM
  go_wp2_with fail
  refine (bring_any a1 (8 * (M : Int)) _ ha1.1 ha1.2 (by omega) (by omega)).mono ?_
  rintro e w5 ⟨rfl, rfl⟩
  obtain ⟨t, ht, htT⟩ : ∃ t : Nat, bring a1 (8 * (M : Int)) = t ∧ t < 8 * M := by
    have h0 := Int.emod_nonneg a1 (b := 8 * (M : Int)) (by omega)
    have h1 := Int.emod_lt_of_pos a1 (b := 8 * (M : Int)) (by omega)
    refine ⟨(bring a1 (8 * (M : Int))).toNat, ?_, ?_⟩ <;> unfold bring <;> rw [if_neg (by omega)] <;> omega
  rw [ht]
  clear ht ha1 c0 c1 e1 e2 e4
  go_wp2_with fail
  go_loopw [11, 12] (fun u i wr => ∃ k : Nat, ∃ L : List Nat, k ≤ 32 ∧ i = .int .i64 k ∧ (∃ ub, u = .bool ub ∧ Hid (ub = decide (Crc.pat bt (8 * h + t) (8 * Z) k ≠ 0))) ∧ Hid (wr.ownsRow w.heap.size 5 1 (.slice (some ⟨g, 0, none⟩) Z c4) Z (bv L)) ∧ Hid (Byt L) ∧ Hid (∀ i, i < h → L[i]? = y[i]?) ∧ Hid (Crc.num L = Crc.num y ^^^ 2 ^ (8 * h + t) * Crc.pat bt (8 * h + t) (8 * Z) k) ∧ Below w.heap.size w wr) (fun _ i _ => 32 - (intOf i).toNat)
  case atStart => exact ⟨0, y, Nat.zero_le _, rfl, ⟨false, rfl, Lib.hid (by simp [Crc.pat])⟩, Lib.hid (ownsRow_base HO.out HS1.out), Lib.hid HY.out.1, Lib.hid (fun _ _ => rfl), Lib.hid (by simp [Crc.pat]), hb4⟩
  case round =>
    clear HO hb4
    obtain ⟨k, L, hk, rfl, ⟨ub, rfl, HU⟩, HO, HL, HP, HN, hb⟩ := hrel
    have HLn := Lib.hid (own_len HO.out)
    by_cases hlt : k < 32 ∧ t + k < 8 * M
    · obtain ⟨hk32, hkT⟩ := hlt
      have hbe : bits .and .u32 ((bt : Int) / 2 ^ k) 1 = ((bt / 2 ^ k % 2 : Nat) : Int) := by
        have h1 := u32_bit (bt / 2 ^ k) (Nat.lt_of_le_of_lt (Nat.div_le_self _ _) hbt)
        rw [← h1]
        congr 1
      by_cases hbit : bt / 2 ^ k % 2 = 1
      · have hbx : (bits .and .u32 ((bt : Int) / 2 ^ k) 1 == 1) = true := by rw [hbe, hbit]; rfl
        clear hbe
        have hj : h + (t + k) / 8 < L.length := by rw [← HLn.out]; have := HZM.out; omega
        have hc4 := own_cell HO.out hj
        have hf4 := HO.out.frozenAt (h + (t + k) / 8)
        have hold : L[h + (t + k) / 8] < 256 := HL.out.at hj
        have hturn := Crc.num_turn L (h + (t + k) / 8) ((t + k) % 8) HL.out hj (by omega)
        rw [show 8 * (h + (t + k) / 8) + (t + k) % 8 = 8 * h + t + k by omega] at hturn
        generalize L[h + (t + k) / 8] = old at *
        have HT := Lib.hid hturn
        have HB := Lib.hid hbit
        clear hturn hbit hj
        go_wp2_with fail
        go_region
        go_wp2
        have hs8 : 2 ^ ((t + k) % 8) < 2 ^ 8 := Nat.pow_lt_pow_right (by omega) (by omega)
        have hxe : bits .xor .u8 (old : Int) (2 ^ ((t + k) % 8) % 256) = ((old ^^^ 2 ^ ((t + k) % 8) : Nat) : Int) := by
          rw [← u8_xor_nat old (2 ^ ((t + k) % 8)) hold (by omega)]
          congr 1
          rw [Int.natCast_pow]
          have : ((2 ^ ((t + k) % 8) : Nat) : Int) < 256 := by omega
          rw [Int.natCast_pow] at this
          exact Int.emod_eq_of_lt (Int.pow_nonneg (by decide)) this
        rw [hxe]
        refine ⟨⟨k + 1, L.set (h + (t + k) / 8) (old ^^^ 2 ^ ((t + k) % 8)), by omega, by go_num, ⟨true, rfl, Lib.hid ?_⟩, Lib.hid ((own_store HO.out _ _).drew), Lib.hid ?_, Lib.hid ?_, Lib.hid ?_, (hb.setCell (p := ⟨g, h + (t + k) / 8, none⟩) hg1 _).drew⟩, by simp [intOf]; omega⟩
        · exact (decide_eq_true (Crc.pat_ne bt (8 * h + t) _ k (by have := HZM.out; omega) HB.out)).symm
        · exact byt_set HL.out _ _ (Nat.xor_lt_two_pow (n := 8) hold hs8)
        · intro i hi
          rw [List.getElem?_set_ne (by omega)]
          exact HP.out i hi
        · rw [HT.out, HN.out, Crc.pat_turn bt (8 * h + t) _ k (by have := HZM.out; omega) HB.out, Crc.mul_xor, ← Nat.pow_add, Nat.xor_assoc]
      · have hbx : (bits .and .u32 ((bt : Int) / 2 ^ k) 1 == 1) = false := by rw [hbe]; simp only [beq_eq_false_iff_ne]; intro h; exact hbit (by exact_mod_cast h)
        have hps := Crc.pat_stay bt (8 * h + t) (8 * Z) k hbit
        have HPS := Lib.hid hps
        clear hbe hbit hps
        go_wp2_with fail
        exact ⟨⟨k + 1, L, by omega, by go_num, ⟨ub, rfl, by rw [HPS.out]; exact HU⟩, HO, HL, HP, by rw [HPS.out]; exact HN, hb⟩, by simp [intOf]; omega⟩
    · have h32 : Crc.pat bt (8 * h + t) (8 * Z) 32 = Crc.pat bt (8 * h + t) (8 * Z) k := by
        by_cases hk32 : k < 32
        · have := Crc.pat_end bt (8 * h + t) (8 * Z) k (by have := HZM.out; omega) (32 - k)
          rwa [show k + (32 - k) = 32 by omega] at this
        · rw [show k = 32 by omega]
      have hfit := Crc.fits_turned N (8 * h + t) (Crc.pat bt (8 * h + t) (8 * Z) k) y L HY.out.1 HL.out (by rw [HY.out.2.1, HZN.out]) (by rw [← HLn.out, HZN.out]) HY.out.2.2 (by have := HZN.out; have := HZM.out; omega) (by rw [← h32]; exact Crc.pat_lt _ _ _ 32) HN.out
      have hnx := HTN.out L (by rw [← HLn.out, HY.out.2.1]) HP.out
      have hby := nxP_byt HL.out
      obtain ⟨A4, n4, c5, e4, hs4, _⟩ := ownsRow_bs (l := L) (by rw [← HLn.out]; exact HO.out) HL.out (by rw [← HLn.out]; omega)
      injection e4 with e5 e6 e7
      subst e5 e6 e7
      have NX := Lib.hid (next_any hs4)
      have HBY := Lib.hid hby
      have HLB := Lib.hid (show L.length ≤ 140737488354304 by rw [← HLn.out]; omega)
      have hcd : (nxP L).2.2.2 = if ub = true then 30 else 0 := by
        rw [HU.out]
        by_cases hp : Crc.pat bt (8 * h + t) (8 * Z) k = 0
        · rw [hnx.1 (hfit.2 hp)]; simp [hp]
        · rw [hnx.2 (fun h => hp (hfit.1 h))]; simp [hp]
      have NX0 := NX.out
      have HBY0 := HBY.out
      clear NX HBY hby hnx
      generalize nxP L = xx at *
      obtain ⟨k1, b1, t1, e9⟩ := xx
      simp only at NX0 HBY0 hcd
      have NX := Lib.hid NX0
      have HBY := Lib.hid HBY0
      clear NX0 HBY0 hfit h32 hs4 HO HTN HN HP HU
      cases ub with
      | true =>
        obtain rfl : e9 = 30 := by simpa using hcd
        clear hcd
        by_cases hk32 : k < 32
        · have hd : decide ((t : Int) + (k : Int) < 8 * (M : Int)) = false := by simp; omega
          go_wp2_with fail
          refine NX.out.mono ?_
          intro r w6 hh
          obtain ⟨A1, n1, c1, A2, n2, c2, rfl, _, _, _, _, hb6⟩ := hh.open HBY.out.1 (by have := HBY.out; omega) HBY.out.2.1 (by have := HBY.out; have := HLB.out; omega)
          go_wp2_with fail
          go_ret
          exact ⟨rfl, nx hb hb6⟩
        · go_wp2_with fail
          refine NX.out.mono ?_
          intro r w6 hh
          obtain ⟨A1, n1, c1, A2, n2, c2, rfl, _, _, _, _, hb6⟩ := hh.open HBY.out.1 (by have := HBY.out; omega) HBY.out.2.1 (by have := HBY.out; have := HLB.out; omega)
          go_wp2_with fail
          go_ret
          exact ⟨rfl, nx hb hb6⟩
      | false =>
        obtain rfl : e9 = 0 := by simpa using hcd
        clear hcd
        by_cases hk32 : k < 32
        · have hd : decide ((t : Int) + (k : Int) < 8 * (M : Int)) = false := by simp; omega
          go_wp2_with fail
          refine NX.out.mono ?_
          intro r w6 hh
          obtain ⟨A1, n1, c1, A2, n2, c2, rfl, _, _, _, _, hb6⟩ := hh.open HBY.out.1 (by have := HBY.out; omega) HBY.out.2.1 (by have := HBY.out; have := HLB.out; omega)
          go_wp2_with fail
          go_ret
          exact ⟨rfl, nx hb hb6⟩
        · go_wp2_with fail
          refine NX.out.mono ?_
          intro r w6 hh
          obtain ⟨A1, n1, c1, A2, n2, c2, rfl, _, _, _, _, hb6⟩ := hh.open HBY.out.1 (by have := HBY.out; omega) HBY.out.2.1 (by have := HBY.out; have := HLB.out; omega)
          go_wp2_with fail
          go_ret
          exact ⟨rfl, nx hb hb6⟩
theorem parcelTurned_walk (B : Option Addr) (cb : Nat) (b : List Nat) (a : List Int) (bt : Nat) (w : World) (hB : BS w B b.length cb b) (la : a.length = 2) (ha : ∀ x ∈ a, I64 x) (hbt : bt < 4294967296) :
    Calls Try.prog 6 #[.slice B b.length cb, .agg (a.map (Value.int .i64)).toArray, .int .u32 bt] w fun e w' => e = .returned (.bool true) ∧ Below w.heap.size w w' := by
  match a, la, ha with
  | [a0, a1], _, ha => exact parcelTurned_core B cb b a0 a1 bt w hB (ha a0 (by simp)) (ha a1 (by simp)) hbt
end Go.Proofs.Ytbbejajnfajpoaa
