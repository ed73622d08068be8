/- Contracts of the document's own reader: number. No conditions. -/
import Derived.Test.YtmnabhennibddaaGC27
set_option linter.unusedSimpArgs false
set_option linter.unusedVariables false
namespace Go.Proofs.Ytmnabhennibddaa
open Go.RowKit

/-- .. in memory. -/
def RNumR (w w' : World) (r : Ending) (lo g : Nat) (x : Nat × Int × List Nat) : Prop :=
  r = .returned (.int .i64 (x.1 : Int)) ∧ Rfr w' lo g x.2.1 x.2.2 ∧ w.grownBy w' (some g)
theorem bit_lead (x j : Nat) (hx : x < 256) (hj : j ≤ Dig.lead x) (h8 : j < 8) : bits .and .u8 (x : Int) ((128 / 2 ^ j : Nat) : Int) = 0 ↔ j = Dig.lead x := by
  have : ∀ j : Fin 8, ∀ x : Fin 256, j.val ≤ Dig.lead x.val → (bits .and .u8 (x.val : Int) ((128 / 2 ^ j.val : Nat) : Int) = 0 ↔ j.val = Dig.lead x.val) := by decide +kernel
  exact this ⟨j, h8⟩ ⟨x, hx⟩ hj

set_option maxHeartbeats 8000000 in
set_option maxRecDepth 100000 in
theorem refNumber_any {lo g : Nat} {e : Int} {l : List Nat} {w : World} (most : Nat) (hm : most < 72057594037927936) (h : Rfr w lo g e l) :
    Calls Try.prog 65 #[.pointer (some ⟨g, 0, none⟩), .int .i64 most] w fun r w' => RNumR w w' r lo g (nb most e l) := by
  have HH := Lib.hid h
  obtain ⟨A, n, c, m, c0, c1, f0, f1, hb, hl, h5⟩ := h.open
  have HB := Lib.hid hb
  have hn := hb.len
  have hle := hb.le
  clear h hb
  by_cases he : e = 0
  · subst he
    have := hl rfl
    subst this
    clear hl
    cases m with
    | nil =>
      obtain rfl : n = 0 := hn
      have hnum : nb most 0 [] = (0, 3, []) := rfl
      rw [hnum]
      clear hnum
      go_enter Try.func65, Try.ntmps65
      go_wp2_with fail
      go_ret
      exact ⟨rfl, HH.out.set1 3 [] (by simp), grown_set _ _ _ _⟩
    | cons x t =>
      have hx : x < 256 := HB.out.byt x (by simp)
      obtain ⟨ad, hA, hcx⟩ := HB.out.lies.byte (i := 0) (by simp)
      subst hA
      simp only [List.getElem_cons_zero] at hcx
      rw [List.length_cons] at hn hle
      subst hn
      rw [show ad.add 0 = ad by simp [Addr.add]] at hcx
      have hz8 := Dig.lead_le x
      have hbl := bit_lead x
      have hnum : nb most 0 (x :: t) = ((Dig.num1 most (x :: t)).1, ((Dig.num1 most (x :: t)).2.1 : Int), (Dig.num1 most (x :: t)).2.2) := rfl
      simp only [Dig.num1] at hnum
      have HN := Lib.hid hnum
      clear hnum
      generalize nb most 0 (x :: t) = R at *
      generalize Dig.lead x = z at *
      have HBL := Lib.hid hbl
      have H5 := Lib.hid h5
      clear hbl h5
      go_enter Try.func65, Try.ntmps65
      go_wp2_with fail
      go_loopw [5] (fun i wr => ∃ j : Nat, j ≤ z ∧ i = .int .i64 ((j : Int) + 1) ∧ ∃ q, wr = w.drewN q) (fun i _ => 9 - (intOf i).toNat)
      case atStart => exact ⟨0, by omega, rfl, 0, rfl⟩
      case round =>
        obtain ⟨j, hj, rfl, q, rfl⟩ := hrel
        by_cases hj8 : j < 8
        · have hbj := HBL.out j hx hj hj8
          have hj8' : (j : Int) + 1 ≤ 8 := by omega
          have hsh : (128 : Int) / 2 ^ j = ((128 / 2 ^ j : Nat) : Int) := by push_cast; rfl
          by_cases hjz : j = z
          · subst hjz
            have heq : bits .and .u8 (x : Int) ((128 / 2 ^ j : Nat) : Int) = 0 := hbj.2 rfl
            clear hbj
            generalize 128 / 2 ^ j = y at *
            go_wp2_with fail
            go_quiet (fail)
            rw [World.drewN_drewN]
            generalize q + nq = q2
            have HH2 := Lib.hid (HH.out.below (below_drewN (bel0 w) q2))
            have G2 := Lib.hid (grown_of_below (below_drewN (bel0 w) q2) (some g))
            clear HBL heq hsh
            by_cases hs : t.length < j
            · have HN' := HN.out
              rw [if_neg (by omega), if_pos hs] at HN'
              have HM := Lib.hid HN'
              clear HN' HN
              have hs' : (t.length : Int) + 1 < (j : Int) + 1 := by omega
              go_wp2_with fail
              go_ret
              rw [HM.out]
              exact ⟨rfl, (HH2.out.set1 3 (x :: t) (by simp)).any (by simp) _, G2.out.trans (grown_set _ _ _ _)⟩
            · have hs' : ¬ (t.length : Int) + 1 < (j : Int) + 1 := by omega
              go_wp2_with fail
              obtain ⟨k, hk⟩ : ∃ k, k = j + 1 := ⟨_, rfl⟩
              have hk' : (j : Int) + 1 = (k : Int) := by omega
              rw [hk']
              have hk8 : (k : Int) ≤ 8 := by omega
              have hk1 : (1 : Int) ≤ (k : Int) := by omega
              obtain ⟨p, hp⟩ : ∃ p : Nat, p = 2 ^ (8 - k) := ⟨_, rfl⟩
              have hpI : (2 : Int) ^ (8 - k) = (p : Int) := by rw [hp]; push_cast; rfl
              have hp1 : 0 < p := by rw [hp]; exact Nat.pow_pos (by omega)
              have hp8 : p ≤ 128 := by rw [hp]; exact Nat.pow_le_pow_right (n := 2) (i := 8 - k) (j := 7) (by omega) (by omega)
              have HK := Lib.hid hk
              have HN' := HN.out
              rw [if_neg (by omega), if_neg hs, ← hk, ← hp] at HN'
              have HM := Lib.hid HN'
              have hTl : (t.take j).length = j := by rw [List.length_take]; omega
              have hTb : Byt (t.take j) := fun y hy => HB.out.byt y (by simp [List.mem_of_mem_take hy])
              have hxp : (x : Int) % (p : Int) = ((x % p : Nat) : Int) := by push_cast; rfl
              have hbt : x % p < p := Nat.mod_lt _ hp1
              have hvs : ∀ i, i ≤ j → Dig.val (x % p) ((t.take j).take i) < 72057594037927936 := by
                intro i hi
                have := Dig.val_lt _ ((t.take j).take i) (hTb.take i) _ hbt
                rw [List.length_take, Nat.min_eq_left (by omega)] at this
                refine Nat.lt_of_lt_of_le this ?_
                rw [hp, show 256 ^ i = 2 ^ (8 * i) by rw [Nat.pow_mul], ← Nat.pow_add]
                exact Nat.pow_le_pow_right (n := 2) (i := 8 - k + 8 * i) (j := 56) (by omega) (by omega)
              have hget : ∀ i, i < j → ∃ y : Nat, y < 256 ∧ w.cell? (ad.add (i + 1)) = some (.int .u8 (y : Int)) ∧ (t.take j).take (i + 1) = (t.take j).take i ++ [y] := by
                intro i hi
                obtain ⟨ad2, hA2, hcj⟩ := HB.out.lies.byte (i := i + 1) (by rw [List.length_cons]; omega)
                cases hA2
                rw [List.getElem_cons_succ] at hcj
                refine ⟨t[i]'(by omega), HB.out.byt _ (by simp), hcj, ?_⟩
                rw [take_snoc (t.take j) i (by omega), List.getElem_take]
              have hkt : (k : Int) ≤ (t.length : Int) + 1 := by omega
              have hDr : (x :: t).drop k = t.drop j := by rw [hk]; rfl
              have HDR := Lib.hid hDr
              clear hDr
              have HVS := Lib.hid hvs
              have HGET := Lib.hid hget
              have HTL := Lib.hid hTl
              clear hp hk hk' HN HN' hj8' hj8 hTl hTb hbt hvs hget
              generalize t.take j = T at *
              generalize t.drop j = D at *
              generalize x % p = b at *
              go_quiet (fail)
              rw [World.drewN_drewN]
              generalize q2 + nq = q3
              clear HH2 G2
              have HH2 := Lib.hid (HH.out.below (below_drewN (bel0 w) q3))
              have G2 := Lib.hid (grown_of_below (below_drewN (bel0 w) q3) (some g))
              go_wp2_with fail
              go_loop [6, 7] (fun n i => ∃ j : Nat, 1 ≤ j ∧ j ≤ k ∧ i = .int .i64 j ∧ n = .int .i64 ((Dig.val b (T.take (j - 1)) : Nat) : Int)) (fun _ i => k - (intOf i).toNat)
              case atStart => exact ⟨1, by omega, by omega, rfl, by rw [hxp]; rfl⟩
              case round =>
                obtain ⟨i, hi1, hik, rfl, rfl⟩ := hrel
                have hkj := HK.out
                by_cases hlt : i < k
                · obtain ⟨y, hy, hcy, hsn⟩ := HGET.out (i - 1) (by omega)
                  have hv := HVS.out (i - 1 + 1) (by omega)
                  rw [hsn, Dig.val_snoc] at hv
                  have hval : Dig.val b (T.take (i + 1 - 1)) = Dig.val b (T.take (i - 1)) * 256 + y := by
                    rw [show i + 1 - 1 = i - 1 + 1 by omega, hsn, Dig.val_snoc]
                  rw [show i - 1 + 1 = i by omega] at hcy
                  have HV := Lib.hid hval
                  have hil : (i : Int) < (t.length : Int) + 1 := by omega
                  clear hsn hval hkj
                  generalize Dig.val b (T.take (i - 1)) = v at *
                  go_wp2_with fail
                  exact ⟨⟨i + 1, by omega, by omega, by go_num, by rw [HV.out]; go_num⟩, by simp [intOf]; omega⟩
                · have hTt : T.take (i - 1) = T := List.take_of_length_le (by rw [HTL.out]; omega)
                  have hv := HVS.out (i - 1) (by omega)
                  rw [hTt] at hv ⊢
                  clear hTt
                  obtain rfl : i = k := by omega
                  clear hkj
                  generalize Dig.val b T = v at *
                  go_wp2_with fail
                  refine (refSize_any v hv _).mono ?_
                  rintro e w3 ⟨rfl, rfl⟩
                  have c0q : ∀ q, (w.drewN q).cell? ⟨g, 0, none⟩ = some (.slice (some ad) (t.length + 1) c) := fun q => c0
                  have C0Q := Lib.hid c0q
                  clear c0q
                  by_cases hsz : Dig.sz v = i
                  · by_cases hmo : v ≤ most
                    · have HM3 := HM.out
                      rw [if_neg (by omega)] at HM3
                      have HM4 := Lib.hid HM3
                      have hle3 : (v : Int) ≤ (most : Int) := by omega
                      clear HM3 HM
                      by_cases hci : c = i
                      · have hd := HH2.out.drop (k := i) (C0Q.out q3) (by rw [List.length_cons]; omega)
                        rw [HDR.out, show dropA (some ad) c i = some ad from if_pos hci] at hd
                        subst hci
                        have hz0 : t.length + 1 - c = 0 := by omega
                        rw [Nat.sub_self, hz0] at hd
                        have HD := Lib.hid hd
                        clear hd hz0
                        go_wp2_with fail
                        go_ret
                        rw [HM4.out]
                        exact ⟨rfl, HD.out, G2.out.trans (grown_set _ _ _ _)⟩
                      · have hd := HH2.out.drop (k := i) (C0Q.out q3) (by rw [List.length_cons]; omega)
                        rw [HDR.out, show dropA (some ad) c i = some (ad.add i) from if_neg hci] at hd
                        have HD := Lib.hid hd
                        clear hd
                        go_wp2_with fail
                        go_ret
                        rw [HM4.out]
                        exact ⟨rfl, HD.out, G2.out.trans (grown_set _ _ _ _)⟩
                    · have hgt : (most : Int) < (v : Int) := by omega
                      have HM3 := HM.out
                      rw [if_pos (by omega)] at HM3
                      have HM4 := Lib.hid HM3
                      clear HM3 HM
                      go_wp2_with fail
                      go_ret
                      rw [HM4.out]
                      exact ⟨rfl, (HH2.out.set1 4 (x :: t) (by simp)).any (by simp) _, G2.out.trans (grown_set _ _ _ _)⟩
                  · have hsz' : ¬ (Dig.sz v : Int) = (i : Int) := by omega
                    have HM3 := HM.out
                    rw [if_pos (by omega)] at HM3
                    have HM4 := Lib.hid HM3
                    clear HM3 HM
                    go_wp2_with fail
                    go_ret
                    rw [HM4.out]
                    exact ⟨rfl, (HH2.out.set1 4 (x :: t) (by simp)).any (by simp) _, G2.out.trans (grown_set _ _ _ _)⟩
          · have hne : ¬ bits .and .u8 (x : Int) ((128 / 2 ^ j : Nat) : Int) = 0 := fun h => hjz (hbj.1 h)
            clear hbj
            generalize 128 / 2 ^ j = y at *
            go_wp2_with fail
            go_quiet (fail)
            go_wp2_with fail
            exact ⟨⟨j + 1, by omega, by go_num, _, rfl⟩, by simp [intOf]; omega⟩
        · obtain rfl : j = 8 := by omega
          obtain rfl : z = 8 := by omega
          have HN' := HN.out
          rw [if_pos (by omega)] at HN'
          have HM := Lib.hid HN'
          clear HN' HN HBL
          go_wp2_with fail
          go_quiet (fail)
          go_wp2_with fail
          go_ret
          rw [HM.out]
          exact ⟨rfl, ((HH.out.below (below_drewN (bel0 w) (q + nq))).set1 4 (x :: t) (by simp)).any (by simp) _, (grown_of_below (below_drewN (bel0 w) (q + nq)) (some g)).trans (grown_set _ _ _ _)⟩
  · have hn : nb most e l = (0, e, l) := if_pos he
    rw [hn]
    clear hn
    go_enter Try.func65, Try.ntmps65
    go_wp2_with fail
    go_ret
    exact ⟨rfl, HH.out, grown_refl _ _⟩
end Go.Proofs.Ytmnabhennibddaa
