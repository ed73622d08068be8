/- The walk of the law DigitsAgain. No conditions. -/
import Derived.Test.YtpkpgmpnaomioaaDigP
import Derived.Test.YtpkpgmpnaomioaaRdW
import Derived.Test.YtpkpgmpnaomioaaPre
import Derived.Test.YtpkpgmpnaomioaaRow
set_option linter.unusedSimpArgs false
set_option linter.unusedVariables false
namespace Go.Proofs.Ytpkpgmpnaomioaa
open Go.RowKit

theorem nb_ok {most n : Nat} {b l : List Nat} (hb : Byt b) (h : nb most 0 b = (n, 0, l)) : b = Dig.enc n ++ l := by
  unfold nb at h
  rw [if_neg (by simp)] at h
  have h1 : Dig.num1 most b = (n, 0, l) := by
    generalize Dig.num1 most b = y at *
    obtain ⟨y1, y2, y3⟩ := y
    simp only [Prod.mk.injEq] at h
    obtain ⟨rfl, h2, rfl⟩ := h
    have : y2 = 0 := by omega
    rw [this]
  exact (Dig.num1_ok most n b l hb h1).1
theorem txt_ok {most : Int} {m b l : List Nat} {e : Int} (hb : Byt b) (hm : 0 ≤ most) (h : txt most 0 b = (m, e, l)) : (m.length : Int) ≤ most ∧ Byt m ∧ (e = 0 → b = Dig.enc m.length ++ m ++ l) := by
  unfold txt at h
  generalize hy : nb 9007199254740991 0 b = y at *
  obtain ⟨z, e2, l2⟩ := y
  simp only at h
  unfold tk at h
  by_cases h1 : e2 = 0 ∧ most < (z : Int)
  · rw [if_pos h1, if_pos (by simp)] at h
    simp only [Prod.mk.injEq] at h
    obtain ⟨rfl, rfl, _⟩ := h
    exact ⟨hm, (fun x hx => absurd hx (by simp)), fun h => absurd h (by simp)⟩
  · rw [if_neg h1] at h
    by_cases h2 : e2 = 0
    · rw [if_neg (by simp [h2]), if_neg (by omega)] at h
      by_cases h3 : (l2.length : Int) < z
      · rw [if_pos h3] at h
        simp only [Prod.mk.injEq] at h
        obtain ⟨rfl, rfl, _⟩ := h
        exact ⟨hm, (fun x hx => absurd hx (by simp)), fun h => absurd h (by simp)⟩
      · rw [if_neg h3, Int.toNat_natCast] at h
        simp only [Prod.mk.injEq] at h
        obtain ⟨rfl, rfl, rfl⟩ := h
        subst h2
        have hl : (l2.take z).length = z := by rw [List.length_take]; omega
        rw [hl]
        refine ⟨by have : ¬ (most < (z : Int)) := fun h => h1 ⟨rfl, h⟩; omega, ?_, fun _ => ?_⟩
        · intro x hx
          refine hb x ?_
          rw [nb_ok hb hy]
          exact List.mem_append_right _ (List.mem_of_mem_take hx)
        rw [List.append_assoc, List.take_append_drop]
        exact nb_ok hb hy
    · rw [if_pos h2] at h
      simp only [Prod.mk.injEq] at h
      obtain ⟨rfl, rfl, _⟩ := h
      exact ⟨hm, (fun x hx => absurd hx (by simp)), fun h => absurd h h2⟩

theorem TwoB.open2 {w w' : World} {e : Ending} {l : List Nat} {k : Int} (h : TwoB w w' e l k) (hb : Byt l) (hl : l.length ≤ 140737488351232) :
    ∃ A n c, e = .returned (.tuple #[.slice A n c, .int .i64 k]) ∧ BS w' A n c l ∧ Below w.heap.size w w' ∧ (∀ ad, A = some ad → w.heap.size ≤ ad.block) := by
  obtain ⟨v, rfl, ho, hbl⟩ := h
  obtain ⟨A, n, c, rfl, hB, h2⟩ := ownsRow_bs ho hb hl
  exact ⟨A, n, c, rfl, hB, hbl, fun ad e => (h2 ad e).1⟩

set_option maxHeartbeats 8000000 in
set_option maxRecDepth 100000 in
theorem digitsAgain_walk (A : Option Addr) (c : Nat) (b : List Nat) (w : World) (hA : BS w A b.length c b) :
    Calls Try.prog 12 #[.slice A b.length c] w fun e w' => e = .returned (.bool true) ∧ Below w.heap.size w w' := by
  have HA := Lib.hid hA
  have hbt := hA.byt
  have hlm := hA.lim
  generalize hbl : b.length = bl at *
  have HBL := Lib.hid hbl
  have hnU := nb_le 9007199254740991 0 b
  have hnS := nb_le 18014398509481982 0 b
  generalize hu : nb 9007199254740991 0 b = u at *
  generalize hs : nb 18014398509481982 0 b = s at *
  generalize ht : txt 60000 0 b = t at *
  obtain ⟨n, e1, l1⟩ := u
  obtain ⟨z, e2, l2⟩ := s
  obtain ⟨m, e3, l3⟩ := t
  simp only at hnU hnS
  obtain ⟨ht1, hmb, ht2⟩ := txt_ok hbt (by omega) ht
  have FU : Hid (e1 = 0 → Dig.enc n <+: b ∧ (Dig.enc n).length + l1.length = bl) := Lib.hid fun h => by
    subst h
    have := nb_ok hbt hu
    exact ⟨⟨l1, this.symm⟩, by rw [← hbl, this, List.length_append]⟩
  have FS : Hid (e2 = 0 → Dig.enc z <+: b ∧ (Dig.enc z).length + l2.length = bl) := Lib.hid fun h => by
    subst h
    have := nb_ok hbt hs
    exact ⟨⟨l2, this.symm⟩, by rw [← hbl, this, List.length_append]⟩
  have FT : Hid (e3 = 0 → (Dig.enc m.length ++ m) <+: b ∧ (Dig.enc m.length ++ m).length + l3.length = bl) := Lib.hid fun h => by
    have := ht2 h
    exact ⟨⟨l3, this.symm⟩, by rw [← hbl]; conv => rhs; rw [this, List.length_append]⟩
  have HUU := Lib.hid hu
  have HSS := Lib.hid hs
  have HTT := Lib.hid ht
  have hzz := zig_zag z
  have hzr : -9007199254740991 ≤ zag z ∧ zag z ≤ 9007199254740991 := by unfold zag; split <;> omega
  have CU : Hid (∀ w, Calls Try.prog 26 #[.int .i64 (n : Int)] w fun e w' => TwoB w w' e (Dig.enc n) 0) := Lib.hid fun w => by
    have := U_any (n : Int) w (by omega) (by omega)
    rwa [Int.toNat_natCast] at this
  have CS : Hid (∀ w, Calls Try.prog 28 #[.int .i64 (zag z)] w fun e w' => TwoB w w' e (Dig.enc z) 0) := Lib.hid fun w => by
    have := S_any (zag z) w hzr.1 hzr.2
    rwa [hzz] at this
  have CT : Hid (∀ w, Calls Try.prog 30 #[.string (bs m)] w fun e w' => TwoB w w' e (Dig.enc m.length ++ m) 0) := Lib.hid fun w => by
    have := Text_any (bs m) w (by rw [bs_size]; omega)
    rwa [bs_size, sb_bs hmb] at this
  have bU : Byt (Dig.enc n) := Dig.enc_byt _ (by omega)
  have bS : Byt (Dig.enc z) := Dig.enc_byt _ (by omega)
  have bT : Byt (Dig.enc m.length ++ m) := Byt.append (Dig.enc_byt _ (by omega)) hmb
  have lU : (Dig.enc n).length ≤ 8 := by rw [Dig.length_enc]; exact Dig.sz_le _
  have lS : (Dig.enc z).length ≤ 8 := by rw [Dig.length_enc]; exact Dig.sz_le _
  have lT : (Dig.enc m.length ++ m).length ≤ 60008 := by rw [List.length_append, Dig.length_enc]; have := Dig.sz_le m.length; omega
  have BU := Lib.hid bU
  have BSS := Lib.hid bS
  have BT := Lib.hid bT
  have LU := Lib.hid lU
  have LS := Lib.hid lS
  have LT := Lib.hid lT
  clear hA hbl hnU hnS hu hs ht ht1 ht2 hzz hzr bU bS bT lU lS lT hmb hbt
  generalize Dig.enc n = xu at *
  generalize Dig.enc z = xs at *
  generalize Dig.enc m.length ++ m = xt at *
  go_enter Try.func12, Try.ntmps12
  go_wp2_with fail
  refine (works01_any _).mono ?_
  rintro e w1 ⟨rfl, hb1⟩
  go_wp2_with fail
  refine (New_any A bl c b _ (HA.out.below hb1)).mono ?_
  rintro e w2 ⟨g1, rfl, hr1, hb2⟩
  have hb02 := nx hb1 hb2
  have R1 := Lib.hid hr1
  clear hr1
  go_wp2_with fail
  refine (New_any A bl c b _ (HA.out.below hb02)).mono ?_
  rintro e w3 ⟨g2, rfl, hr2, hb3⟩
  have hb03 := nx hb02 hb3
  have R2 := Lib.hid hr2
  clear hr2
  go_wp2_with fail
  refine (New_any A bl c b _ (HA.out.below hb03)).mono ?_
  rintro e w4 ⟨g3, rfl, hr3, hb4⟩
  have hb04 := nx hb03 hb4
  have o1 := R1.out.lt
  have o2 := R2.out.lt
  have o3 := hr3.lt
  have o0 := hb1.size
  have OO : Hid (w.heap.size ≤ w1.heap.size ∧ w1.heap.size ≤ g1 ∧ g1 < w2.heap.size ∧ w2.heap.size ≤ g2 ∧ g2 < w3.heap.size ∧ w3.heap.size ≤ g3) := Lib.hid (by omega)
  have R13 := Lib.hid (R1.out.below (nx hb3 hb4))
  have R23 := Lib.hid (R2.out.below hb4)
  have R33 := Lib.hid hr3
  obtain ⟨a1, ha1⟩ : ∃ k, k = w1.heap.size := ⟨_, rfl⟩
  obtain ⟨a2, ha2⟩ : ∃ k, k = w2.heap.size := ⟨_, rfl⟩
  obtain ⟨a3, ha3⟩ : ∃ k, k = w3.heap.size := ⟨_, rfl⟩
  rw [← ha1, ← ha2, ← ha3] at OO
  rw [← ha1] at R13
  rw [← ha2] at R23
  rw [← ha3] at R33
  have HB04 := Lib.hid hb04
  clear ha1 ha2 ha3 hr3 o1 o2 o3 o0 R1 R2 hb1 hb2 hb3 hb4 hb02 hb03 hb04
  go_wp2_with fail
  refine (rdU_any R13.out).mono ?_
  rw [HUU.out]
  rintro e w5 ⟨rfl, hr, hg⟩
  have R15 := Lib.hid hr
  have R25 := Lib.hid (R23.out.grown hg (fun k e => by cases e; have := OO.out; omega))
  have R35 := Lib.hid (R33.out.grown hg (fun k e => by cases e; have := OO.out; omega))
  have hb05 := grown_bel HB04.out hg (by have := OO.out; omega)
  clear hr hg R13 R23 R33 HB04
  have G5 := Lib.hid R35.out.lt.2
  go_wp2_with fail
  refine (CU.out _).mono ?_
  intro e w6 h
  obtain ⟨A1, n1, c1, rfl, hB, hb6, hO⟩ := h.open2 BU.out (by have := LU.out; omega)
  have B16 := Lib.hid hB
  have O1 := Lib.hid hO
  have E1 : Hid (n1 = xu.length) := hB.len
  have hb06 := nx hb05 hb6
  have R26 := Lib.hid (R25.out.below hb6)
  have G6 := Lib.hid (Nat.lt_of_lt_of_le G5.out hb6.size)
  clear h hB R25 hb05 hO
  go_wp2_with fail
  refine (rdS_any R26.out).mono ?_
  rw [HSS.out]
  rintro e w7 ⟨rfl, hr, hg⟩
  have R27 := Lib.hid hr
  have R17 := Lib.hid ((R15.out.below hb6).grown hg (fun k e => by cases e; have := OO.out; omega))
  have R37 := Lib.hid ((R35.out.below hb6).grown hg (fun k e => by cases e; have := OO.out; omega))
  have hb07 := grown_bel hb06 hg (by have := OO.out; omega)
  have B17 := Lib.hid (B16.out.grown hg (fun ad k e e2 => by cases e2; have := O1.out ad e; have := OO.out; have := G5.out; omega))
  clear hr hg R26 R15 R35 B16 hb6 hb06
  go_wp2_with fail
  refine (CS.out _).mono ?_
  intro e w8 h
  obtain ⟨A2, n2, c2, rfl, hB, hb8, hO⟩ := h.open2 BSS.out (by have := LS.out; omega)
  have B28 := Lib.hid hB
  have O2 := Lib.hid hO
  have E2 : Hid (n2 = xs.length) := hB.len
  have hb08 := nx hb07 hb8
  have R38 := Lib.hid (R37.out.below hb8)
  have G7 := Lib.hid R37.out.lt.2
  clear h hB R37 hb07 hO
  go_wp2_with fail
  refine (rdText_any 60000 R38.out).mono ?_
  rw [HTT.out]
  rintro e wa ⟨rfl, _, _, hr, hg⟩
  have R3a := Lib.hid hr
  have R1a := Lib.hid ((R17.out.below hb8).grown hg (fun k e => by cases e; have := OO.out; omega))
  have R2a := Lib.hid ((R27.out.below hb8).grown hg (fun k e => by cases e; have := OO.out; omega))
  have hb0a := grown_bel hb08 hg (by have := OO.out; omega)
  have B1a := Lib.hid ((B17.out.below hb8).grown hg (fun ad k e e2 => by cases e2; have := O1.out ad e; have := OO.out; have := G5.out; omega))
  have B2a := Lib.hid (B28.out.grown hg (fun ad k e e2 => by cases e2; have := O2.out ad e; have := OO.out; have := G7.out; omega))
  clear hr hg R38 R17 R27 B17 B28 hb8 hb08
  go_wp2_with fail
  refine (CT.out _).mono ?_
  intro e w9 h
  obtain ⟨A3, n3, c3, rfl, hB, hb9, hO⟩ := h.open2 BT.out (by have := LT.out; omega)
  have Q3 := Lib.hid hB
  have E3 : Hid (n3 = xt.length) := hB.len
  have hb10 := nx hb0a hb9
  have Q1 := Lib.hid (B1a.out.below hb9)
  have Q2 := Lib.hid (B2a.out.below hb9)
  have R19 := Lib.hid (R1a.out.below hb9)
  have R29 := Lib.hid (R2a.out.below hb9)
  have R39 := Lib.hid (R3a.out.below hb9)
  have HA9 := Lib.hid (HA.out.below hb10)
  clear h hB R1a R2a R3a B1a B2a hb9 hb0a hO
  (try simp only at R19 R29 R39)
  go_wp2_with fail
  refine (Err_any R19.out).mono ?_
  rintro r wz ⟨rfl, rfl⟩
  by_cases h0 : e1 = 0
  · obtain ⟨hp0, hs0⟩ := FU.out h0
    subst h0
    have hP0 : decide (xu <+: b) = true := decide_eq_true hp0
    have HP0 := Lib.hid hP0
    rw [← E1.out] at hs0
    have hS0 : (n1 : Int) + (l1.length : Int) = (bl : Int) := by omega
    clear hp0 hP0 hs0
    go_wp2_with fail
    refine (Left_any R19.out).mono ?_
    rintro r wz ⟨rfl, rfl⟩
    rw [if_pos rfl]
    go_wp2_with fail
    refine (hasPrefix_any HA9.out Q1.out).mono ?_
    rintro r wz ⟨rfl, rfl⟩
    rw [HP0.out]
    go_wp2_with fail
    refine (Err_any R29.out).mono ?_
    rintro r wz ⟨rfl, rfl⟩
    by_cases h1 : e2 = 0
    · obtain ⟨hp1, hs1⟩ := FS.out h1
      subst h1
      have hP1 : decide (xs <+: b) = true := decide_eq_true hp1
      have HP1 := Lib.hid hP1
      rw [← E2.out] at hs1
      have hS1 : (n2 : Int) + (l2.length : Int) = (bl : Int) := by omega
      clear hp1 hP1 hs1
      go_wp2_with fail
      refine (Left_any R29.out).mono ?_
      rintro r wz ⟨rfl, rfl⟩
      rw [if_pos rfl]
      go_wp2_with fail
      refine (hasPrefix_any HA9.out Q2.out).mono ?_
      rintro r wz ⟨rfl, rfl⟩
      rw [HP1.out]
      go_wp2_with fail
      refine (Err_any R39.out).mono ?_
      rintro r wz ⟨rfl, rfl⟩
      by_cases h2 : e3 = 0
      · obtain ⟨hp2, hs2⟩ := FT.out h2
        subst h2
        have hP2 : decide (xt <+: b) = true := decide_eq_true hp2
        have HP2 := Lib.hid hP2
        rw [← E3.out] at hs2
        have hS2 : (n3 : Int) + (l3.length : Int) = (bl : Int) := by omega
        clear hp2 hP2 hs2
        go_wp2_with fail
        refine (Left_any R39.out).mono ?_
        rintro r wz ⟨rfl, rfl⟩
        rw [if_pos rfl]
        go_wp2_with fail
        refine (hasPrefix_any HA9.out Q3.out).mono ?_
        rintro r wz ⟨rfl, rfl⟩
        rw [HP2.out]
        go_wp2_with fail
        go_ret
        exact ⟨rfl, hb10⟩
      · go_wp2_with fail
        go_ret
        exact ⟨rfl, hb10⟩
    · go_wp2_with fail
      refine (Err_any R39.out).mono ?_
      rintro r wz ⟨rfl, rfl⟩
      by_cases h2 : e3 = 0
      · obtain ⟨hp2, hs2⟩ := FT.out h2
        subst h2
        have hP2 : decide (xt <+: b) = true := decide_eq_true hp2
        have HP2 := Lib.hid hP2
        rw [← E3.out] at hs2
        have hS2 : (n3 : Int) + (l3.length : Int) = (bl : Int) := by omega
        clear hp2 hP2 hs2
        go_wp2_with fail
        refine (Left_any R39.out).mono ?_
        rintro r wz ⟨rfl, rfl⟩
        rw [if_pos rfl]
        go_wp2_with fail
        refine (hasPrefix_any HA9.out Q3.out).mono ?_
        rintro r wz ⟨rfl, rfl⟩
        rw [HP2.out]
        go_wp2_with fail
        go_ret
        exact ⟨rfl, hb10⟩
      · go_wp2_with fail
        go_ret
        exact ⟨rfl, hb10⟩
  · go_wp2_with fail
    refine (Err_any R29.out).mono ?_
    rintro r wz ⟨rfl, rfl⟩
    by_cases h1 : e2 = 0
    · obtain ⟨hp1, hs1⟩ := FS.out h1
      subst h1
      have hP1 : decide (xs <+: b) = true := decide_eq_true hp1
      have HP1 := Lib.hid hP1
      rw [← E2.out] at hs1
      have hS1 : (n2 : Int) + (l2.length : Int) = (bl : Int) := by omega
      clear hp1 hP1 hs1
      go_wp2_with fail
      refine (Left_any R29.out).mono ?_
      rintro r wz ⟨rfl, rfl⟩
      rw [if_pos rfl]
      go_wp2_with fail
      refine (hasPrefix_any HA9.out Q2.out).mono ?_
      rintro r wz ⟨rfl, rfl⟩
      rw [HP1.out]
      go_wp2_with fail
      refine (Err_any R39.out).mono ?_
      rintro r wz ⟨rfl, rfl⟩
      by_cases h2 : e3 = 0
      · obtain ⟨hp2, hs2⟩ := FT.out h2
        subst h2
        have hP2 : decide (xt <+: b) = true := decide_eq_true hp2
        have HP2 := Lib.hid hP2
        rw [← E3.out] at hs2
        have hS2 : (n3 : Int) + (l3.length : Int) = (bl : Int) := by omega
        clear hp2 hP2 hs2
        go_wp2_with fail
        refine (Left_any R39.out).mono ?_
        rintro r wz ⟨rfl, rfl⟩
        rw [if_pos rfl]
        go_wp2_with fail
        refine (hasPrefix_any HA9.out Q3.out).mono ?_
        rintro r wz ⟨rfl, rfl⟩
        rw [HP2.out]
        go_wp2_with fail
        go_ret
        exact ⟨rfl, hb10⟩
      · go_wp2_with fail
        go_ret
        exact ⟨rfl, hb10⟩
    · go_wp2_with fail
      refine (Err_any R39.out).mono ?_
      rintro r wz ⟨rfl, rfl⟩
      by_cases h2 : e3 = 0
      · obtain ⟨hp2, hs2⟩ := FT.out h2
        subst h2
        have hP2 : decide (xt <+: b) = true := decide_eq_true hp2
        have HP2 := Lib.hid hP2
        rw [← E3.out] at hs2
        have hS2 : (n3 : Int) + (l3.length : Int) = (bl : Int) := by omega
        clear hp2 hP2 hs2
        go_wp2_with fail
        refine (Left_any R39.out).mono ?_
        rintro r wz ⟨rfl, rfl⟩
        rw [if_pos rfl]
        go_wp2_with fail
        refine (hasPrefix_any HA9.out Q3.out).mono ?_
        rintro r wz ⟨rfl, rfl⟩
        rw [HP2.out]
        go_wp2_with fail
        go_ret
        exact ⟨rfl, hb10⟩
      · go_wp2_with fail
        go_ret
        exact ⟨rfl, hb10⟩
end Go.Proofs.Ytpkpgmpnaomioaa
