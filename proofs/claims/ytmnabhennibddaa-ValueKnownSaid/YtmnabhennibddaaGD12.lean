/- Contracts of a reader of numbers and texts: number, U, S. No conditions. -/
import Derived.Test.YtmnabhennibddaaGD09
import Derived.WalkMore
set_option linter.unusedSimpArgs false
set_option linter.unusedVariables false
namespace Go.Proofs.Ytmnabhennibddaa
open Go.RowKit

/-- A number off a reader: the number, the error, what is left. -/
def nb (most : Nat) (e : Int) (l : List Nat) : Nat × Int × List Nat :=
  if e ≠ 0 then (0, e, l) else ((Dig.num1 most l).1, ((Dig.num1 most l).2.1 : Int), (Dig.num1 most l).2.2)
/-- .. in memory. -/
def NumR (w w' : World) (r : Ending) (lo g : Nat) (x : Nat × Int × List Nat) : Prop :=
  r = .returned (.int .u64 (x.1 : Int)) ∧ Rdr w' lo g x.2.1 x.2.2 ∧ w.grownBy w' (some g)

theorem grown_of_below {w w' : World} (h : Below w.heap.size w w') (row : Option Nat) : w.grownBy w' row := ⟨h.os, h.tape, h.output, h.size, fun k hk _ => h.block k hk⟩
theorem not_byte (c : Nat) (h : c < 256) : bits .xor .u8 IntKind.u8.max (c : Int) = ((255 - c : Nat) : Int) := by
  have : ∀ c : Fin 256, bits .xor .u8 IntKind.u8.max (c.val : Int) = ((255 - c.val : Nat) : Int) := by decide +kernel
  exact this ⟨c, h⟩
theorem or_join (n c : Nat) (hn : n < 72057594037927936) (hc : c < 256) : bits .or .u64 ((n : Int) * 256) (c : Int) = ((n * 256 + c : Nat) : Int) := by
  rw [show (n : Int) * 256 = ((n * 256 : Nat) : Int) by omega, u64_or_nat _ _ (by omega) (by omega)]
  have := Nat.two_pow_add_eq_or_of_lt (i := 8) (b := c) hc n
  rw [Nat.mul_comm] at this
  rw [show (256 : Nat) = 2 ^ 8 from rfl, ← this]
theorem clr_byte (c k : Nat) (h : c < 256) (h1 : 1 ≤ k) (h8 : k ≤ 8) : bits .andNot .u8 (c : Int) (255 * 2 ^ (8 - k) % 256) = ((c % 2 ^ (8 - k) : Nat) : Int) := by
  have : ∀ k : Fin 9, ∀ c : Fin 256, 1 ≤ k.val → bits .andNot .u8 (c.val : Int) (255 * 2 ^ (8 - k.val) % 256) = ((c.val % 2 ^ (8 - k.val) : Nat) : Int) := by decide +kernel
  exact this ⟨k, by omega⟩ ⟨c, h⟩ h1

set_option maxHeartbeats 8000000 in
set_option maxRecDepth 100000 in
theorem number_any {lo g : Nat} {e : Int} {l : List Nat} {w : World} (most : Nat) (hm : most < 72057594037927936) (h : Rdr w lo g e l) :
    Calls Try.prog 79 #[.pointer (some ⟨g, 0, none⟩), .int .u64 most] w fun r w' => NumR w w' r lo g (nb most e l) := by
  have HH := Lib.hid h
  obtain ⟨A, k, c, m, h1, hg, h2, h3, h5⟩ := h
  have c1 := cell_of h1 1
  have f1 := frozen_of h1 1
  have c0 := cell_of h1 0
  simp at c1 c0
  have H1 := Lib.hid h1
  have H2 := Lib.hid h2
  have H5 := Lib.hid h5
  have hl := h2.len
  have hle := h2.le
  clear h1 h2 h5
  by_cases he : e = 0
  · subst he
    have := h3 rfl
    subst this
    clear h3
    cases m with
    | nil =>
      obtain rfl : k = 0 := hl
      have ht : tk 0 1 [] = (false, [], 3, []) := rfl
      go_enter Try.func79, Try.ntmps79
      go_wp2_with fail
      go_step3
      go_wp2_with fail
      refine (take_any 1 HH.out).mono ?_
      rintro e w1 ⟨A1, n1, a1, rfl, hb1, hbl, hr, hgr⟩
      rw [ht] at hb1 hr
      rw [ht]
      clear ht
      have H3 := Lib.hid hr
      go_wp2_with fail
      (try simp only [Exit.inBlock, Exit.then, Exit.noGoto])
      go_ret
      exact ⟨rfl, H3.out, hgr⟩
    | cons x t =>
      have hx : x < 256 := H2.out.byt x (by simp)
      obtain ⟨ad, hA, hcx⟩ := H2.out.lies.byte (i := 0) (by simp)
      subst hA
      simp only [List.getElem_cons_zero] at hcx
      rw [List.length_cons] at hl hle
      rw [show ad.add 0 = ad by simp [Addr.add]] at hcx
      have hnx := not_byte x hx
      have hlz := Dig.lead_bits x hx
      have hz8 := Dig.lead_le x
      have hcl := clr_byte x (Dig.lead x + 1) hx (by omega)
      have hsp := Dig.lead_split x hx
      have hnum : nb most 0 (x :: t) = ((Dig.num1 most (x :: t)).1, ((Dig.num1 most (x :: t)).2.1 : Int), (Dig.num1 most (x :: t)).2.2) := rfl
      simp only [Dig.num1] at hnum
      have HN := Lib.hid hnum
      clear hnum
      generalize Dig.lead x = z at *
      have HC := Lib.hid hcl
      have HSP := Lib.hid hsp
      clear hcl hsp
      subst hl
      go_enter Try.func79, Try.ntmps79
      go_wp2_with fail
      go_step3
      go_wp2_with fail
      refine (Try.bits_LeadingZeros8 _ _ (by omega) (by omega)).mono ?_
      rintro e w1 ⟨rfl, rfl⟩
      rw [Int.toNat_natCast, hlz]
      by_cases hz : z = 8
      · subst hz
        have HN' := HN.out
        rw [if_pos (by omega)] at HN'
        have HM := Lib.hid HN'
        clear HN' HN
        go_wp2_with fail
        have ht : tk 4 9 (x :: t) = (false, [], 4, x :: t) := rfl
        refine (take_any 9 (HH.out.set1 4 (x :: t) (by simp))).mono ?_
        rintro e w1 ⟨A1, n1, a1, rfl, hb1, hbl, hr, hgr⟩
        rw [ht] at hb1 hr
        rw [ht]
        clear ht
        have H3 := Lib.hid hr
        go_wp2_with fail
        (try simp only [Exit.inBlock, Exit.then, Exit.noGoto])
        go_ret
        rw [HM.out]
        exact ⟨rfl, H3.out.any (by simp) _, (grown_set _ _ _ _).trans hgr⟩
      · by_cases hs : t.length < z
        · have ht : tk 0 ((z : Int) + 1) (x :: t) = (false, [], 3, x :: t) := by
            unfold tk
            rw [if_neg (by simp), if_neg (by omega), if_pos (by rw [List.length_cons]; omega)]
          have HN' := HN.out
          rw [if_neg (by omega), if_pos hs] at HN'
          have HM := Lib.hid HN'
          have HT := Lib.hid ht
          clear HN' HN ht
          obtain ⟨k, hk⟩ : ∃ k : Int, k = 1 + z := ⟨_, rfl⟩
          go_wp2_with fail
          rw [show (1 : Int) + z = z + 1 by omega]
          refine (take_any _ HH.out).mono ?_
          rw [HT.out]
          rintro e w1 ⟨A1, n1, a1, rfl, hb1, hbl, hr, hgr⟩
          have H3 := Lib.hid hr
          go_wp2_with fail
          (try simp only [Exit.inBlock, Exit.then, Exit.noGoto])
          go_ret
          rw [HM.out]
          exact ⟨rfl, H3.out.any (by simp) _, hgr⟩
        · have ht : tk 0 ((z : Int) + 1) (x :: t) = (true, x :: t.take z, 0, t.drop z) := by
            unfold tk
            rw [if_neg (by simp), if_neg (by omega), if_neg (by rw [List.length_cons]; omega), show ((z : Int) + 1).toNat = z + 1 by omega]
            rfl
          have HN' := HN.out
          rw [if_neg (by omega), if_neg hs] at HN'
          have HM := Lib.hid HN'
          have HT := Lib.hid ht
          have hcl := HC.out (by omega)
          have hTl : (t.take z).length = z := by rw [List.length_take]; omega
          have hbt : x % 2 ^ (8 - (z + 1)) < 2 ^ (8 - (z + 1)) := Nat.mod_lt _ (Nat.pow_pos (by omega))
          have hTb : Byt (t.take z) := fun y hy => H2.out.byt y (by simp [List.mem_of_mem_take hy])
          have hvl : ∀ j, j ≤ z → Dig.val (x % 2 ^ (8 - (z + 1))) ((t.take z).take j) < 2 ^ (8 - (z + 1)) * 256 ^ j := by
            intro j hj
            have := Dig.val_lt _ ((t.take z).take j) (hTb.take j) _ hbt
            rwa [List.length_take, Nat.min_eq_left (by omega)] at this
          have hvs : ∀ j, j ≤ z → Dig.val (x % 2 ^ (8 - (z + 1))) ((t.take z).take j) < 72057594037927936 := by
            intro j hj
            refine Nat.lt_of_lt_of_le (hvl j hj) ?_
            rw [show 256 ^ j = 2 ^ (8 * j) by rw [Nat.pow_mul], ← Nat.pow_add]
            exact Nat.pow_le_pow_right (n := 2) (i := 8 - (z + 1) + 8 * j) (j := 56) (by omega) (by omega)
          clear HN' HN ht hvl
          generalize t.take z = T at *
          generalize t.drop z = D at *
          have hb0 : x % 2 ^ (8 - (z + 1)) < 256 := by
            have := Nat.mod_le x (2 ^ (8 - (z + 1)))
            omega
          generalize x % 2 ^ (8 - (z + 1)) = b at *
          obtain ⟨k, hk⟩ : ∃ k, k = z + 1 := ⟨_, rfl⟩
          have hk' : (1 : Int) + z = (k : Int) := by omega
          have hk'' : (z : Int) + 1 = (k : Int) := by omega
          rw [hk''] at HT
          rw [← hk] at hcl
          have HVS := Lib.hid hvs
          have HTB := Lib.hid hTb
          have HTL := Lib.hid hTl
          have HK := Lib.hid hk
          clear hvs hTb hTl HSP HC hbt hk hk''
          have hk8 : k ≤ 8 := by have := HK.out; omega
          have hk1 : 1 ≤ k := by have := HK.out; omega
          go_wp2_with fail
          refine (take_any _ HH.out).mono ?_
          rw [HT.out]
          rintro e w2 ⟨A1, n1, a1, rfl, hb1, hbl, hr, hgr⟩
          have H3 := Lib.hid hr
          have HB1 := Lib.hid hb1
          obtain ⟨ad1, hA1, hcx1⟩ := hb1.lies.byte (i := 0) (by simp)
          subst hA1
          simp only [List.getElem_cons_zero] at hcx1
          rw [show ad1.add 0 = ad1 by simp [Addr.add]] at hcx1
          have hn1 := hb1.len
          rw [List.length_cons, HTL.out, ← HK.out] at hn1
          subst hn1
          clear hb1 hr hk'
          go_wp2_with fail
          go_quiet (fail)
          go_wp2_with fail
          go_step3
          go_wp2_with fail
          go_loop [8, 57] (fun n i => ∃ j : Nat, j ≤ n1 ∧ i = .int .i64 j ∧ n = .int .u64 ((Dig.val b (T.take (j - 1)) : Nat) : Int)) (fun _ i => n1 - (intOf i).toNat)
          case atStart => exact ⟨0, by omega, rfl, rfl⟩
          case round =>
            obtain ⟨j, hj, rfl, rfl⟩ := hrel
            by_cases hjk : j < n1
            · by_cases hj0 : j = 0
              · subst hj0
                have hb56 : Dig.val b (T.take (0 - 1)) = b := rfl
                rw [hb56]
                clear hb56
                go_wp2_with fail
                exact ⟨⟨1, by omega, rfl, rfl⟩, by simp [intOf]; omega⟩
              · have hkz := HK.out
                have hjT : j - 1 < T.length := by rw [HTL.out]; omega
                have hc := HTB.out.at hjT
                have hv := HVS.out (j - 1) (by omega)
                have hsn := take_snoc T (j - 1) hjT
                have hval : Dig.val b (T.take (j + 1 - 1)) = Dig.val b (T.take (j - 1)) * 256 + T[j - 1] := by
                  rw [show j + 1 - 1 = j - 1 + 1 by omega, hsn, Dig.val_snoc]
                have hor := or_join (Dig.val b (T.take (j - 1))) T[j - 1] hv hc
                obtain ⟨ad2, hA2, hcj⟩ := HB1.out.lies.byte (i := j) (by rw [List.length_cons]; omega)
                cases hA2
                have hget : (x :: T)[j]'(by rw [List.length_cons]; omega) = T[j - 1] := by
                  rw [List.getElem_cons]; simp [hj0]
                rw [hget] at hcj
                clear hget hsn
                generalize T[j - 1] = y at *
                generalize Dig.val b (T.take (j - 1)) = v at *
                have HV := Lib.hid hval
                clear hval hjT hkz
                go_wp2_with fail
                exact ⟨⟨j + 1, by omega, by go_num, by rw [HV.out]; go_num⟩, by simp [intOf]; omega⟩
            · have hkz := HK.out
              have hTt : T.take (j - 1) = T := List.take_of_length_le (by rw [HTL.out]; omega)
              have hv := HVS.out (j - 1) (by omega)
              rw [hTt] at hv ⊢
              have HM' := HM.out
              rw [← hkz] at HM'
              have HM2 := Lib.hid HM'
              clear HM' hTt HM hkz
              generalize Dig.val b T = v at *
              go_wp2_with fail
              refine (size_any v hv _).mono ?_
              rintro e w3 ⟨rfl, rfl⟩
              have HR : Hid (Rdr (w2.drewN nq) lo g 0 D) := Lib.hid (H3.out.below (below_drewN (bel0 w2) nq))
              have HG : Hid (w1.grownBy (w2.drewN nq) (some g)) := Lib.hid (hgr.trans (grown_of_below (below_drewN (bel0 w2) nq) _))
              by_cases hsz : Dig.sz v = n1
              · by_cases hmo : v ≤ most
                · have HM3 := HM2.out
                  rw [if_neg (by omega)] at HM3
                  have HM4 := Lib.hid HM3
                  have hle3 : (v : Int) ≤ (most : Int) := by omega
                  clear HM3 HM2
                  go_wp2_with fail
                  (try simp only [Exit.inBlock, Exit.then, Exit.noGoto])
                  go_ret
                  rw [HM4.out]
                  exact ⟨rfl, HR.out, HG.out⟩
                · have hgt : (most : Int) < (v : Int) := by omega
                  have HM3 := HM2.out
                  rw [if_pos (by omega)] at HM3
                  have HM4 := Lib.hid HM3
                  obtain ⟨A3, k3, c3, m3, hh, _⟩ := HR.out
                  have d1 := cell_of hh 1
                  have e1 := frozen_of hh 1
                  simp at d1
                  clear HM3 HM2 hh
                  go_wp2_with fail
                  (try simp only [Exit.inBlock, Exit.then, Exit.noGoto])
                  go_ret
                  rw [HM4.out]
                  exact ⟨rfl, (HR.out.set1 4 D (by simp)).any (by simp) _, HG.out.trans (grown_set _ _ _ _)⟩
              · have hsz' : ¬ (Dig.sz v : Int) = (n1 : Int) := by omega
                have HM3 := HM2.out
                rw [if_pos (by omega)] at HM3
                have HM4 := Lib.hid HM3
                obtain ⟨A3, k3, c3, m3, hh, _⟩ := HR.out
                have d1 := cell_of hh 1
                have e1 := frozen_of hh 1
                simp at d1
                clear HM3 HM2 hh
                go_wp2_with fail
                (try simp only [Exit.inBlock, Exit.then, Exit.noGoto])
                go_ret
                rw [HM4.out]
                exact ⟨rfl, (HR.out.set1 4 D (by simp)).any (by simp) _, HG.out.trans (grown_set _ _ _ _)⟩
  · have ht : tk e 1 l = (false, [], e, l) := if_pos he
    have hn : nb most e l = (0, e, l) := if_pos he
    have HT := Lib.hid ht
    have HN := Lib.hid hn
    clear ht hn
    go_enter Try.func79, Try.ntmps79
    go_wp2_with fail
    go_step3
    go_wp2_with fail
    refine (take_any 1 HH.out).mono ?_
    rw [HT.out]
    rintro e w1 ⟨A1, n1, a1, rfl, hb1, hbl, hr, hgr⟩
    have H3 := Lib.hid hr
    clear hb1 hr
    go_wp2_with fail
    (try simp only [Exit.inBlock, Exit.then, Exit.noGoto])
    go_ret
    rw [HN.out]
    exact ⟨rfl, H3.out, hgr⟩
end Go.Proofs.Ytmnabhennibddaa
