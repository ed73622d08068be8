/- The walk of the law DigitsCut. No conditions. -/
import Derived.Test.YtpkpgmpnaomioaaDigP
import Derived.Test.YtpkpgmpnaomioaaRdW
import Derived.Test.YtpkpgmpnaomioaaRow
set_option linter.unusedSimpArgs false
set_option linter.unusedVariables false
namespace Go.Proofs.Ytpkpgmpnaomioaa
open Go.RowKit
attribute [local go_sem] min2_mn min_2

theorem num1_cut (most n j : Nat) (h : n < 72057594037927936) (hj : j < (Dig.enc n).length) : Dig.num1 most ((Dig.enc n).take j) = (0, 3, []) := by
  obtain ⟨b, t, he, hb8, _, htl, _, _⟩ := Dig.enc_form n h
  have hk1 := Dig.sz_pos n
  have hk8 := Dig.sz_le n
  rw [Dig.length_enc] at hj
  rw [he]
  cases j with
  | zero => rfl
  | succ j =>
    rw [List.take_succ_cons]
    simp only [Dig.num1]
    rw [(Dig.lead_hdr _ b hk1 hk8 hb8).1, if_neg (by omega), if_pos (by rw [List.length_take]; omega)]
theorem nb_cut (most n j : Nat) (h : n < 72057594037927936) (hj : j < (Dig.enc n).length) : nb most 0 ((Dig.enc n).take j) = (0, 3, []) := by
  unfold nb
  rw [if_neg (by simp), num1_cut most n j h hj]
  rfl
theorem txt_cut (s : List Nat) (j : Nat) (hs : s.length ≤ 1000) (hj : j < (Dig.enc s.length ++ s).length) : ∃ l, txt 1000 0 ((Dig.enc s.length ++ s).take j) = ([], 3, l) := by
  unfold txt
  by_cases h : j < (Dig.enc s.length).length
  · rw [List.take_append_of_le_length (by omega), nb_cut _ _ _ (by omega) h]
    exact ⟨_, rfl⟩
  · rw [List.take_append, List.take_of_length_le (by omega), nb_enc _ _ (by omega) (by omega)]
    simp only
    rw [if_neg (by omega)]
    unfold tk
    rw [if_neg (by simp), if_neg (by omega), if_pos (by rw [List.length_take]; rw [List.length_append] at hj; omega)]
    exact ⟨_, rfl⟩
theorem bring_in (n m : Int) (hm : 0 < m) : 0 ≤ bring n m ∧ bring n m < m := by
  unfold bring
  rw [if_neg (by omega)]
  exact ⟨Int.emod_nonneg _ (by omega), Int.emod_lt_of_pos _ hm⟩
theorem extract_size (s : ByteArray) (m : Nat) (h : m ≤ s.size) : (s.extract 0 m).size = m := by
  rw [ByteArray.size_extract]; omega
theorem enc_pos (n : Nat) : 0 < (Dig.enc n).length := by rw [Dig.length_enc]; exact Dig.sz_pos n
theorem uP_in (n : Int) : ∃ k : Nat, bring n 9007199254740992 = (k : Int) ∧ k ≤ 9007199254740991 ∧ uP (bring n 9007199254740992) = (Dig.enc k, 0) := by
  obtain ⟨h1, h2⟩ := bring_in n 9007199254740992 (by omega)
  obtain ⟨k, hk⟩ := Int.eq_ofNat_of_zero_le h1
  refine ⟨k, hk, by omega, ?_⟩
  unfold uP
  rw [hk, if_pos (by omega), Int.toNat_natCast]

set_option maxHeartbeats 8000000 in
set_option maxRecDepth 100000 in
theorem digitsCut_walk (n : Int) (s : ByteArray) (at_ : Int) (w : World) (hn : I64 n) (hs : s.size ≤ 140737488351232) (ha : I64 at_) :
    Calls Try.prog 13 #[.int .i64 n, .string s, .int .i64 at_] w fun e w' => e = .returned (.bool true) ∧ Below w.heap.size w w' := by
  have m1 := mnI_lit s.size 1000 1000 rfl
  have m2 : min s.size 1000 ≤ s.size := by omega
  have m3 : min s.size 1000 ≤ 1000 := by omega
  generalize min s.size 1000 = m at *
  have m4 : (m : Int) ≤ (s.size : Int) := by omega
  go_enter Try.func13, Try.ntmps13
  go_wp2_with fail
  refine (works01_any _).mono ?_
  rintro e w1 ⟨rfl, hb1⟩
  go_wp2_with fail
  refine (bring_any n 9007199254740992 _ hn.1 hn.2 (by omega) (by omega)).mono ?_
  rintro e w2 ⟨rfl, rfl⟩
  go_wp2_with fail
  obtain ⟨k, hk, hk2, hu⟩ := uP_in n
  refine (U_all _ _).mono ?_
  rw [hu]
  intro e w2 h
  obtain ⟨A1, n1, c1, rfl, hB, hb2⟩ := h.open (Dig.enc_byt _ (by omega)) (by have := Dig.sz_le k; simp only [Dig.length_enc]; omega)
  have B1 := Lib.hid hB
  have E1 : Hid (n1 = (Dig.enc k).length) := hB.len
  clear h hB hu hk
  go_wp2_with fail
  have hsz := extract_size s m m2
  generalize s.extract 0 m = z at *
  have ht : tP z = (Dig.enc z.size ++ sb z, 0) := if_pos (by omega)
  obtain ⟨t1, t2⟩ := tP_ok z
  refine (Text_all z _).mono ?_
  rw [ht] at t1 t2 ⊢
  intro e w3 h
  obtain ⟨A2, n2, c2, rfl, hB, hb3⟩ := h.open t1 (by omega)
  have B2 := Lib.hid hB
  have e1 := E1.out
  have e2 : n2 = (Dig.enc z.size ++ sb z).length := hB.len
  have t2' : (Dig.enc z.size ++ sb z).length ≤ 65543 := t2
  have hp1 := enc_pos k
  have hp2 : 0 < (Dig.enc z.size ++ sb z).length := by rw [List.length_append]; have := enc_pos z.size; omega
  have hq1 : n1 ≤ 8 := by rw [e1, Dig.length_enc]; exact Dig.sz_le _
  have hq2 : n2 ≤ 65543 := by rw [e2]; exact t2'
  have hc1 : (Dig.enc k).length ≤ c1 := B1.out.le
  have hc2 : (Dig.enc z.size ++ sb z).length ≤ c2 := B2.out.le
  obtain ⟨i1, rfl⟩ : ∃ j, n1 = j + 1 := ⟨n1 - 1, by omega⟩
  obtain ⟨i2, rfl⟩ : ∃ j, n2 = j + 1 := ⟨n2 - 1, by omega⟩
  obtain ⟨x0, x1⟩ := bring_in at_ ((i1 : Int) + 1) (by omega)
  obtain ⟨y0, y1⟩ := bring_in at_ ((i2 : Int) + 1) (by omega)
  have HBX : Hid (∀ w, Calls Try.prog 25 #[.int .i64 at_, .int .i64 ((i1 : Int) + 1)] w fun e w' => e = .returned (.int .i64 (bring at_ ((i1 : Int) + 1))) ∧ w = w') := Lib.hid fun w => bring_any at_ ((i1 : Int) + 1) w ha.1 ha.2 (by omega) (by omega)
  have HBY : Hid (∀ w, Calls Try.prog 25 #[.int .i64 at_, .int .i64 ((i2 : Int) + 1)] w fun e w' => e = .returned (.int .i64 (bring at_ ((i2 : Int) + 1))) ∧ w = w') := Lib.hid fun w => bring_any at_ ((i2 : Int) + 1) w ha.1 ha.2 (by omega) (by omega)
  generalize bring at_ ((i1 : Int) + 1) = xx at *
  generalize bring at_ ((i2 : Int) + 1) = yy at *
  obtain ⟨x, rfl⟩ := Int.eq_ofNat_of_zero_le x0
  obtain ⟨y, rfl⟩ := Int.eq_ofNat_of_zero_le y0
  have D1 := Lib.hid (B1.out.cutN (k := x) (by omega))
  have D2 := Lib.hid (B2.out.cutN (l := Dig.enc z.size ++ sb z) (k := y) (by omega))
  have HN := Lib.hid (nb_cut 9007199254740991 k x (by omega) (by omega))
  have htx : ∃ l, txt 1000 0 ((Dig.enc z.size ++ sb z).take y) = ([], 3, l) := by
    have := txt_cut (sb z) y (by rw [sb_length]; omega) (by rw [sb_length]; omega)
    rwa [sb_length] at this
  obtain ⟨l3, htx⟩ := htx
  have HX := Lib.hid htx
  have hxc : (x : Int) ≤ (c1 : Int) := by omega
  have hyc : (y : Int) ≤ (c2 : Int) := by omega
  clear h hB ht t1 t2 htx e1 E1 e2 hp1 hp2 B1 B2
  (try simp only at D1 D2)
  generalize (Dig.enc k).take x = l1 at *
  generalize (Dig.enc z.size ++ sb z).take y = l2 at *
  have hz1 : ((i1 : Int) + 1 == 0) = false := by rw [beq_eq_false_iff_ne]; omega
  have hz2 : ((i2 : Int) + 1 == 0) = false := by rw [beq_eq_false_iff_ne]; omega
  have hb12 := nx hb1 hb2
  have hb13 := nx hb12 hb3
  go_wp2_with fail
  refine (HBX.out _).mono ?_
  rintro e w4 ⟨rfl, rfl⟩
  go_wp2_with fail
  refine (New_any A1 x c1 l1 _ (D1.out.below hb3)).mono ?_
  rintro e w4 ⟨g, rfl, hr, hb4⟩
  have HR := Lib.hid hr
  have GL := Lib.hid hr.lt
  have hb14 := nx hb13 hb4
  clear hr
  go_wp2_with fail
  refine (HBY.out _).mono ?_
  rintro e w5 ⟨rfl, rfl⟩
  go_wp2_with fail
  refine (New_any A2 y c2 l2 _ (D2.out.below hb4)).mono ?_
  rintro e w5 ⟨g2, rfl, ht, hb5⟩
  have HT := Lib.hid ht
  have GT := Lib.hid ht.lt
  have HR5 := Lib.hid (HR.out.below hb5)
  have hb15 := nx hb14 hb5
  have GB := Lib.hid (Nat.le_trans hb13.size GL.out.1)
  have GB2 := Lib.hid (Nat.le_trans hb14.size GT.out.1)
  clear ht HR
  go_wp2_with fail
  refine (rdU_any HR5.out).mono ?_
  rw [HN.out]
  rintro e w6 ⟨rfl, hr, hg⟩
  have HR6 := Lib.hid hr
  have HT6 := Lib.hid (HT.out.grown hg (fun k e => by cases e; have := GL.out; have := GT.out; omega))
  have hb16 := grown_bel hb15 hg GB.out
  clear hr hg HR5 HT
  go_wp2_with fail
  refine (Err_any HR6.out).mono ?_
  rintro e w7 ⟨rfl, rfl⟩
  go_wp2_with fail
  refine (rdS_any HR6.out).mono ?_
  rw [show nb 18014398509481982 3 [] = (0, 3, []) from if_pos (by simp)]
  rintro e w7 ⟨rfl, hr, hg⟩
  have HT7 := Lib.hid (HT6.out.grown hg (fun k e => by cases e; have := GL.out; have := GT.out; omega))
  have hb17 := grown_bel hb16 hg GB.out
  rw [show zag 0 = 0 from rfl]
  clear hr hg HR6 HT6
  go_wp2_with fail
  refine (rdText_any 1000 HT7.out).mono ?_
  rw [HX.out]
  rintro e w8 ⟨rfl, _, _, hr, hg⟩
  have HT8 := Lib.hid hr
  have hbn : (bs ([] : List Nat)).toList = [] := by first | rfl | decide | decide +kernel
  have hb18 := grown_bel hb17 hg GB2.out
  clear hr hg HT7
  go_wp2_with fail
  refine (Err_any HT8.out).mono ?_
  rintro e w9 ⟨rfl, rfl⟩
  go_wp2_with fail
  refine (rdU_any HT8.out).mono ?_
  rw [show nb 9007199254740991 3 l3 = (0, 3, l3) from if_pos (by simp)]
  rintro e w9 ⟨rfl, hr, hg⟩
  have HT9 := Lib.hid hr
  have hb19 := grown_bel hb18 hg GB2.out
  clear hr hg HT8
  go_wp2_with fail
  refine (Raw_any 0 HT9.out).mono ?_
  rw [show tk 3 0 l3 = (false, [], 3, l3) from if_pos (by simp)]
  rintro e w10 ⟨v, rfl, ho, _, _, hr, hg⟩
  obtain ⟨A3, n3, c3, rfl, hB3, _⟩ := ownsRow_bs ho (fun x hx => absurd hx (by simp)) (by simp)
  obtain rfl : n3 = 0 := hB3.len
  have HT10 := Lib.hid hr
  have hb20 := grown_bel hb19 hg GB2.out
  clear hr hg HT9 ho hB3
  go_wp2_with fail
  refine (Left_any HT10.out).mono ?_
  rintro e w11 ⟨rfl, rfl⟩
  rw [if_neg (by simp)]
  go_wp2_with fail
  go_ret
  exact ⟨rfl, hb20⟩
end Go.Proofs.Ytpkpgmpnaomioaa
