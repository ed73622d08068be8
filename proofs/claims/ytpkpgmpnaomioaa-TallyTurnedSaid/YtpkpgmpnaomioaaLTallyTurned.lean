/- The walk of the law TallyTurned. No conditions. -/
import Derived.Test.YtpkpgmpnaomioaaTally
import Derived.Test.YtpkpgmpnaomioaaRow
import Derived.Deep.RegionHeld3
import Derived.Deep.AppendLies
import Derived.BigRegion
import Derived.RegionTactic
import Derived.ChangeAlike
set_option linter.unusedSimpArgs false
set_option linter.unusedVariables false
namespace Go.Proofs.Ytpkpgmpnaomioaa
open Go.RowKit
attribute [local go_sem] min2_mn min_2

set_option maxHeartbeats 8000000 in
set_option maxRecDepth 100000 in
theorem tallyTurned_walk (B : Option Addr) (cb : Nat) (b : List Nat) (at_ : Int) (bt : Nat) (w : World) (hB : BS w B b.length cb b) (hat : I64 at_) (hbt : bt < 4294967296) :
    Calls Try.prog 5 #[.slice B b.length cb, .int .i64 at_, .int .u32 bt] w fun e w' => e = .returned (.bool true) ∧ Below w.heap.size w w' := by
  have m1 := mnI_lit b.length 10000 10000 rfl
  have kB := hB.cutN (show min b.length 10000 ≤ b.length by omega)
  have l2 := hB.lim
  have n2 := hB.le
  have q2 : min b.length 10000 ≤ 10000 := by omega
  have q3 : min b.length 10000 ≤ b.length := by omega
  generalize min b.length 10000 = n at *
  generalize b.take n = x at *
  have hxn := kB.len
  have HX := Lib.hid kB
  clear hB kB
  have z0 : (0 : Int) ≤ (n : Int) := by omega
  have z1 : (n : Int) ≤ (cb : Int) := by omega
  have HXN := Lib.hid hxn
  clear hxn
  go_enter Try.func5, Try.ntmps5
  go_wp2_with fail
  refine (works02_any _).mono ?_
  rintro e w1 ⟨rfl, hb1⟩
  go_wp2_with fail
  go_region_held3 (fun w' => Below w.heap.size w w')
    (first | exact hb1.drew | exact grown_below (by assumption) hgd (own_block hoa') | exact nx (by assumption) (by assumption))
    (first
      | (go_at_call 16; (with_reducible refine (copyBytes_any B n cb x _ (HX.out.below (by assumption))).mono ?_); rintro e wa ⟨v, rfl, hoa, hba⟩; have hoa' := ownsRow_base hoa (show w.heap.size ≤ _ from Below.size (by assumption)))
      | (go_at_call 17; (with_reducible refine (of_any B n cb x _ (HX.out.below (by assumption))).mono ?_); rintro e wb ⟨rfl, hbb⟩)
      | (go_at_call 22; (with_reducible refine (row_any (Crc.on 0 x) (Crc.on_lt _ _) _).mono ?_); rintro e wc ⟨u, rfl, hoc, hbc⟩; obtain ⟨A2, n2, c2, rfl, hs2, _⟩ := ownsRow_bs hoc (Crc.row_byt _) (by rw [Crc.length_row]; decide))
      | (refine step_append_bytes rfl (.tmp 18) (.tmp 23) rfl w.heap.size v x (Crc.row (Crc.on 0 x)) rfl (ownsRow_below hoa' (nx hbb hbc)) A2 n2 c2 rfl hs2 (by rw [Crc.length_row, ← HXN.out]; omega) (Below.size (by assumption)) ?_; intro v4 w4 hod hgd _))
  have hb4 : Below w.heap.size w w4 := by assumption
  obtain ⟨y, hy⟩ : ∃ y, y = x ++ Crc.row (Crc.on 0 x) := ⟨_, rfl⟩
  rw [← hy] at hod
  have hyb : Byt y := by rw [hy]; exact HX.out.byt.append (Crc.row_byt _)
  have hyl : y.length = n + 4 := by rw [hy, List.length_append, Crc.length_row, ← HXN.out]
  have hyf : Crc.Fits n y := by rw [hy, HXN.out]; exact Crc.fits_row x
  obtain ⟨g, c4, hv4, hg, _⟩ := hod.form (show 0 < y.length by omega)
  rw [hyl] at hv4 hod
  subst hv4
  have HO := Lib.hid hod
  have HY := Lib.hid (And.intro hyb (And.intro hyl hyf))
  clear hod hoa hoa' hoc hs2 hgd hy hyb hyl hyf hba hbb hbc hb1
  have ed : (((n + 4 : Nat) : Int) != (n : Int) + 4) = false := by simp
  go_wp2_with fail
  refine (bring_any at_ (8 * ((n : Int) + 4)) _ hat.1 hat.2 (by omega) (by omega)).mono ?_
  rintro e w5 ⟨rfl, rfl⟩
  obtain ⟨t, ht, htT⟩ : ∃ t : Nat, bring at_ (8 * ((n : Int) + 4)) = t ∧ t < 8 * (n + 4) := by
    have h0 := Int.emod_nonneg at_ (b := 8 * ((n : Int) + 4)) (by omega)
    have h1 := Int.emod_lt_of_pos at_ (b := 8 * ((n : Int) + 4)) (by omega)
    refine ⟨(bring at_ (8 * ((n : Int) + 4))).toNat, ?_, ?_⟩ <;> unfold bring <;> rw [if_neg (by omega)] <;> omega
  rw [ht]
  clear ht hat
  go_wp2_with fail
  go_loopw [8, 9] (fun u i wr => ∃ k : Nat, ∃ L : List Nat, k ≤ 32 ∧ i = .int .i64 k ∧ (∃ ub, u = .bool ub ∧ Hid (ub = decide (Crc.pat bt t (8 * (n + 4)) k ≠ 0))) ∧ Hid (wr.ownsRow w.heap.size 5 1 (.slice (some ⟨g, 0, none⟩) (n + 4) c4) (n + 4) (bv L)) ∧ Hid (Byt L) ∧ Hid (Crc.num L = Crc.num y ^^^ 2 ^ t * Crc.pat bt t (8 * (n + 4)) k) ∧ Below w.heap.size w wr) (fun _ i _ => 32 - (intOf i).toNat)
  case atStart => exact ⟨0, y, Nat.zero_le _, rfl, ⟨false, rfl, Lib.hid (by simp [Crc.pat])⟩, HO, Lib.hid HY.out.1, Lib.hid (by simp [Crc.pat]), hb4⟩
  case round =>
    clear HO hb4
    obtain ⟨k, L, hk, rfl, ⟨ub, rfl, HU⟩, HO, HL, HN, hb⟩ := hrel
    have HLn := Lib.hid (own_len HO.out)
    by_cases hlt : k < 32 ∧ t + k < 8 * (n + 4)
    · obtain ⟨hk32, hkT⟩ := hlt
      have hbe : bits .and .u32 ((bt : Int) / 2 ^ k) 1 = ((bt / 2 ^ k % 2 : Nat) : Int) := by
        have h1 := u32_bit (bt / 2 ^ k) (Nat.lt_of_le_of_lt (Nat.div_le_self _ _) hbt)
        rw [← h1]
        congr 1
      by_cases hbit : bt / 2 ^ k % 2 = 1
      · have hbx : (bits .and .u32 ((bt : Int) / 2 ^ k) 1 == 1) = true := by rw [hbe, hbit]; rfl
        clear hbe
        have hj : (t + k) / 8 < L.length := by rw [← HLn.out]; omega
        have hc4 := own_cell HO.out hj
        have hf4 := HO.out.frozenAt ((t + k) / 8)
        have hold : L[(t + k) / 8] < 256 := HL.out.at hj
        have hturn := Crc.num_turn L ((t + k) / 8) ((t + k) % 8) HL.out hj (by omega)
        rw [show 8 * ((t + k) / 8) + (t + k) % 8 = t + k by omega] at hturn
        generalize L[(t + k) / 8] = old at *
        have HT := Lib.hid hturn
        have HB := Lib.hid hbit
        clear hturn hbit hj
        go_wp2_with fail
        go_region
        go_wp2
        have hs8 : 2 ^ ((t + k) % 8) < 2 ^ 8 := Nat.pow_lt_pow_right (by omega) (by omega)
        have hxe : bits .xor .u8 (old : Int) (2 ^ ((t + k) % 8) % 256) = ((old ^^^ 2 ^ ((t + k) % 8) : Nat) : Int) := by
          rw [← u8_xor_nat old (2 ^ ((t + k) % 8)) hold (by omega)]
          congr 1
          rw [Int.natCast_pow]
          have : ((2 ^ ((t + k) % 8) : Nat) : Int) < 256 := by omega
          rw [Int.natCast_pow] at this
          exact Int.emod_eq_of_lt (Int.pow_nonneg (by decide)) this
        rw [hxe]
        refine ⟨⟨k + 1, L.set ((t + k) / 8) (old ^^^ 2 ^ ((t + k) % 8)), by omega, by go_num, ⟨true, rfl, Lib.hid ?_⟩, Lib.hid ((own_store HO.out _ _).drew), Lib.hid ?_, Lib.hid ?_, (hb.setCell (p := ⟨g, (t + k) / 8, none⟩) hg _).drew⟩, by simp [intOf]; omega⟩
        · exact (decide_eq_true (Crc.pat_ne bt t _ k hkT HB.out)).symm
        · intro q hq
          rcases List.mem_or_eq_of_mem_set hq with h | h
          · exact HL.out q h
          · rw [h]; exact Nat.xor_lt_two_pow (n := 8) hold hs8
        · rw [HT.out, HN.out, Crc.pat_turn bt t _ k hkT HB.out, Crc.mul_xor, ← Nat.pow_add, Nat.xor_assoc]
      · have hbx : (bits .and .u32 ((bt : Int) / 2 ^ k) 1 == 1) = false := by rw [hbe]; simp only [beq_eq_false_iff_ne]; intro h; exact hbit (by exact_mod_cast h)
        have hps := Crc.pat_stay bt t (8 * (n + 4)) k hbit
        have HPS := Lib.hid hps
        clear hbe hbit hps
        go_wp2_with fail
        exact ⟨⟨k + 1, L, by omega, by go_num, ⟨ub, rfl, by rw [HPS.out]; exact HU⟩, HO, HL, by rw [HPS.out]; exact HN, hb⟩, by simp [intOf]; omega⟩
    · have h32 : Crc.pat bt t (8 * (n + 4)) 32 = Crc.pat bt t (8 * (n + 4)) k := by
        by_cases hk32 : k < 32
        · have := Crc.pat_end bt t (8 * (n + 4)) k (by omega) (32 - k)
          rwa [show k + (32 - k) = 32 by omega] at this
        · rw [show k = 32 by omega]
      have hfit := Crc.fits_turned n t (Crc.pat bt t (8 * (n + 4)) k) y L HY.out.1 HL.out HY.out.2.1 HLn.out.symm HY.out.2.2 (by omega) (by rw [← h32]; exact Crc.pat_lt _ _ _ 32) HN.out
      have HF := Lib.hid hfit
      clear hfit h32
      obtain ⟨A4, n4, c5, e4, hs4, _⟩ := ownsRow_bs (l := L) (by rw [← HLn.out]; exact HO.out) HL.out (by rw [← HLn.out]; omega)
      injection e4 with e5 e6 e7
      subst e5 e6 e7
      have hlc := hs4.le
      have hk1 := hs4.cutN (show n ≤ L.length by rw [← HLn.out]; omega)
      have hk2 := hs4.from (k := n) (by rw [← HLn.out]; omega)
      rw [Nat.zero_add, show n + 4 - n = 4 by omega] at hk2
      have HK1 := Lib.hid hk1
      have HK2 := Lib.hid hk2
      rw [← HLn.out] at hlc
      have z5 : (n : Int) ≤ (c4 : Int) := by omega
      have z8 : (n : Int) ≤ (n : Int) + 4 := by omega
      have z6 : (c4 == n) = false := by simp; omega
      have z7 : ¬ c4 = n := by omega
      clear hk1 hk2 hs4
      have hfin : ((decide (Crc.row (Crc.on 0 (L.take n)) = L.drop n)) == !ub) = true := by
        rw [HU.out]
        by_cases hp : Crc.pat bt t (8 * (n + 4)) k = 0
        · have h1 : Crc.row (Crc.on 0 (L.take n)) = L.drop n := HF.out.2 hp
          simp [h1, hp]
        · have h1 : ¬ Crc.row (Crc.on 0 (L.take n)) = L.drop n := fun h => hp (HF.out.1 h)
          simp [h1, hp]
      have HFIN := Lib.hid hfin
      clear hfin
      by_cases hk32 : k < 32
      · have hd : decide ((t : Int) + (k : Int) < 8 * ((n : Int) + 4)) = false := by simp; omega
        go_wp2_with fail
        go_region_held3 (fun w' => Below wr.heap.size wr w')
          (first | exact (bel0 _).drew | exact nx (by assumption) (by assumption))
          (first
            | (go_at_call 17; (with_reducible refine (of_any (some ⟨g, 0, none⟩) n c4 (L.take n) _ (HK1.out.below (by assumption))).mono ?_); rintro e wb ⟨rfl, hbb⟩)
            | (go_at_call 22; (with_reducible refine (row_any (Crc.on 0 (L.take n)) (Crc.on_lt _ _) _).mono ?_); rintro e wc ⟨u, rfl, hoc, hbc⟩; obtain ⟨A2, n2, c2, rfl, hs2, _⟩ := ownsRow_bs hoc (Crc.row_byt _) (by rw [Crc.length_row]; decide))
            | (go_at_call 21; (with_reducible refine (eqBytes_any A2 (some ⟨g, n, none⟩) n2 c2 _ (c4 - n) _ (L.drop n) _ hs2 (HK2.out.below (by assumption))).mono ?_); rintro e wd ⟨rfl, hbd⟩))
        go_wp2
        go_ret
        exact ⟨by rw [← HFIN.out]; rfl, nx hb (by assumption)⟩
      · go_wp2_with fail
        go_region_held3 (fun w' => Below wr.heap.size wr w')
          (first | exact (bel0 _).drew | exact nx (by assumption) (by assumption))
          (first
            | (go_at_call 17; (with_reducible refine (of_any (some ⟨g, 0, none⟩) n c4 (L.take n) _ (HK1.out.below (by assumption))).mono ?_); rintro e wb ⟨rfl, hbb⟩)
            | (go_at_call 22; (with_reducible refine (row_any (Crc.on 0 (L.take n)) (Crc.on_lt _ _) _).mono ?_); rintro e wc ⟨u, rfl, hoc, hbc⟩; obtain ⟨A2, n2, c2, rfl, hs2, _⟩ := ownsRow_bs hoc (Crc.row_byt _) (by rw [Crc.length_row]; decide))
            | (go_at_call 21; (with_reducible refine (eqBytes_any A2 (some ⟨g, n, none⟩) n2 c2 _ (c4 - n) _ (L.drop n) _ hs2 (HK2.out.below (by assumption))).mono ?_); rintro e wd ⟨rfl, hbd⟩))
        go_wp2
        go_ret
        exact ⟨by rw [← HFIN.out]; rfl, nx hb (by assumption)⟩
end Go.Proofs.Ytpkpgmpnaomioaa
