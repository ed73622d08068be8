/- value.TakeAttrs: its contract. No conditions. -/
import Derived.Test.YtfedgjahbmcpoaaGreatGB22
import Derived.Deep.RegionHeld3
import Derived.Test.YtfedgjahbmcpoaaGreatGB18
set_option linter.unusedSimpArgs false
set_option linter.unusedVariables false
namespace Go.Proofs.YtfedgjahbmcpoaaGreat
open Go.RowKit

theorem failE_ne (e : Int) {k : Int} (hk : k ≠ 0) : failE e k ≠ 0 := by
  unfold failE
  split
  · exact hk
  · assumption
theorem tkL_p (e : Int) (l : List Nat) : (tkL e l).1.p < 4294967296 := by
  unfold tkL
  simp only
  generalize nb 9007199254740991 e l = a
  generalize nb 9007199254740991 a.2.1 a.2.2 = b
  by_cases hc : 7 < a.1 ∨ 4294967295 < b.1
  · rw [if_pos hc, if_neg (failE_ne _ (by decide))]
    exact (by decide : (0 : Nat) < 4294967296)
  · rw [if_neg hc]
    by_cases h0 : b.2.1 = 0
    · rw [if_pos h0]
      simp only
      omega
    · rw [if_neg h0]
      exact (by decide : (0 : Nat) < 4294967296)
theorem tkN_pt (n : Nat) (e : Int) (l : List Nat) : ∀ a ∈ (tkN n e l).1, a.lab.p < 4294967296 := by
  induction n generalizing e l with
  | zero => intro a ha; cases ha
  | succ n ih =>
    unfold tkN
    split
    · intro a ha
      simp only [List.mem_cons] at ha
      rcases ha with rfl | ha
      · exact tkL_p _ _
      · exact ih _ _ a ha
    · intro a ha; cases ha
theorem tkN_len (n : Nat) (e : Int) (l : List Nat) : (tkN n e l).1.length ≤ n := by
  induction n generalizing e l with
  | zero => exact Nat.le_refl _
  | succ n ih =>
    unfold tkN
    split
    · simp only [List.length_cons]
      have := ih (tkA e l).2.1 (tkA e l).2.2
      omega
    · simp
theorem tkLs_ok (e : Int) (l : List Nat) : (∀ a ∈ (tkLs e l).1, a.lab.p < 4294967296) ∧ (tkLs e l).1.length ≤ 8 := by
  refine ⟨tkN_pt _ _ _, ?_⟩
  unfold tkLs
  by_cases h : 8 < (nb 9007199254740991 e l).1
  · rw [if_pos h, tkN_stop _ (by unfold failE; split <;> omega)]
    simp
  · have := tkN_len (nb 9007199254740991 e l).1 (if 8 < (nb 9007199254740991 e l).1 then failE (nb 9007199254740991 e l).2.1 4 else (nb 9007199254740991 e l).2.1) (nb 9007199254740991 e l).2.2
    omega
theorem own_as {w : World} {base : Nat} {v : Value} {l : List Att} (h : w.ownsRow base 101 6 v l.length (acs l)) (hp : ∀ a ∈ l, a.lab.p < 4294967296) (hl : l.length ≤ 1000000) : ∃ A n c, v = .slice A n c ∧ AS w A n c l := by
  obtain ⟨A, c, hv, h1, _, h3, h4, _⟩ := ownsRow_lies h
  exact ⟨A, l.length, c, hv, rfl, h1, h3, h4, hp, by omega⟩
/-- What TakeAttrs answers. -/
def tkAs (e : Int) (l : List Nat) : List Att × Int × List Nat :=
  if failE (tkLs e l).2.1 (wrongE (mayA (tkLs e l).1)) = 0 then ((tkLs e l).1, 0, (tkLs e l).2.2) else ([], failE (tkLs e l).2.1 (wrongE (mayA (tkLs e l).1)), (tkLs e l).2.2)

set_option maxHeartbeats 16000000 in
set_option maxRecDepth 100000 in
theorem takeAs_any {lo g : Nat} {e : Int} {l : List Nat} {w : World} (h : Rdr w lo g e l) :
    Calls Tryz.prog 70 #[.pointer (some ⟨g, 0, none⟩)] w fun r w' => LsR w w' r lo g (tkAs e l) := by
  obtain ⟨X, hX⟩ : ∃ X, X = tkAs e l := ⟨_, rfl⟩
  rw [← hX]
  unfold tkAs at hX
  have hlt := h.lt
  have HH := Lib.hid h
  have hok := tkLs_ok e l
  clear h
  have LS : Hid (∀ (w : World) (qb : Nat), Rdr w lo g e l → w.heap[qb]? = some (.cells #[.pointer (some ⟨g, 0, none⟩)] 40 (0, 0)) → qb ≠ g →
      Calls Tryz.prog 96 #[.pointer (some ⟨g, 0, none⟩), .int .i64 8, .func (.func 97) #[] #[.pointer (some ⟨qb, 0, none⟩)]] w fun r w' => LsR w w' r lo g (tkLs e l)) := Lib.hid (fun w qb a b c => list_any a b c)
  have LS0 := LS.out
  clear LS
  generalize tkLs e l = x at *
  obtain ⟨L, e1, l1⟩ := x
  simp only at hX hok LS0
  have LS := Lib.hid LS0
  have HX := Lib.hid hX
  have HOK := Lib.hid hok
  have HFE := Lib.hid (show failE e1 (wrongE (mayA L)) = if e1 = 0 then wrongE (mayA L) else e1 from rfl)
  clear LS0 hX hok
  go_enter Tryz.func70, Tryz.ntmps70
  go_wp2_with fail
  obtain ⟨wa, hwa⟩ : ∃ wa, wa = w.alloc (.cells #[.pointer (some ⟨g, 0, none⟩)] 40) := ⟨_, rfl⟩
  rw [← hwa]
  have hbA : wa.heap[w.heap.size]? = some (.cells #[.pointer (some ⟨g, 0, none⟩)] 40 (0, 0)) := by rw [hwa]; exact heap_alloc_new w _
  have RA : Rdr wa lo g e l := by rw [hwa]; exact HH.out.grown (World.grownBy_alloc _ _ none) (fun j hj => by cases hj)
  have GA := Lib.hid (show w.grownBy wa (some g) by rw [hwa]; exact World.grownBy_alloc _ _ _)
  have hqg : w.heap.size ≠ g := by omega
  have hws : w.heap.size ≤ wa.heap.size := GA.out.size
  refine (LS.out wa w.heap.size RA hbA hqg).mono ?_
  rintro r w2 ⟨v, rfl, ho, hr, hg⟩
  simp only at ho hr ⊢
  obtain ⟨A, n, c, rfl, hAS⟩ := own_as ho HOK.out.1 (by have := HOK.out.2; omega)
  have O2 := Lib.hid (show w2.ownsRow w.heap.size 101 6 (.slice A n c) L.length (acs L) from ownsRow_base ho hws)
  have R2 := Lib.hid hr
  have G2 := Lib.hid (GA.out.trans hg)
  have S2 := Lib.hid hAS
  have hb2 : w2.heap[w.heap.size]? = some (.cells #[.pointer (some ⟨g, 0, none⟩)] 40 (0, 0)) := (hg.block w.heap.size (Array.getElem?_eq_some_iff.1 hbA).1 (fun e => hqg (by injection e))).trans hbA
  have SO := Lib.hid (fun a (hg : w2.grownBy a (some g)) => tkS hb2 hqg hg)
  have MY := Lib.hid (may_any (hAS.below (bel0 w2).drew))
  clear ho hr hg hAS hwa hbA RA hws
  go_wp2_with fail
  go_region_held3 (fun a => w2.grownBy a (some g) ∧ a.cell? ⟨w.heap.size, 0, none⟩ = some (.pointer (some ⟨g, 0, none⟩)))
    (first | (with_reducible exact SO.out _ (World.grownBy.trans (And.left (b := _) (by assumption)) (by assumption))) | (with_reducible exact SO.out _ (gbelow (And.left (b := _) (by assumption)) (by assumption))) | assumption | exact SO.out _ (grown_of_below (bel0 _).drew _))
    (first
      | (go_at_call 101; (with_reducible refine MY.out.mono ?_); rintro r w3 ⟨rfl, hb3⟩)
      | (go_at_call 100; (with_reducible refine (wrong_any (mayA L) _).mono ?_); rintro r w4 ⟨rfl, rfl⟩)
      | (go_at_call 68; (with_reducible refine (Fail_any (wrongE (mayA L)) (R2.out.below (nx (bel0 _).drew hb3))).mono ?_); rintro r w5 ⟨rfl, hr5, hg5⟩))
  rename_i hK
  obtain ⟨hG, hcell⟩ := hK
  rw [← HFE.out] at hr5
  have G5 := Lib.hid (G2.out.trans hG)
  have R5 := Lib.hid hr5
  have O5 := Lib.hid (own_grown O2.out hG (fun k hk => by have := own_block O2.out k hk; omega))
  clear hG hr5 hg5 hb3 MY SO hb2 O2 R2 G2 S2
  generalize failE e1 (wrongE (mayA L)) = e9 at *
  go_wp2_with fail
  refine (Err_any R5.out).mono ?_
  rintro r w6 ⟨rfl, rfl⟩
  by_cases hz : e9 = 0
  · subst hz
    have HX2 := Lib.hid (HX.out.trans (if_pos rfl))
    go_wp2_with fail
    go_ret
    rw [HX2.out]
    exact ⟨_, rfl, O5.out, R5.out, G5.out⟩
  · have hz' : (e9 != 0) = true := by simp; exact hz
    have HX2 := Lib.hid (HX.out.trans (if_neg hz))
    go_wp2_with fail
    go_ret
    rw [HX2.out]
    exact ⟨_, rfl, World.ownsRow_nil _ _ _ _, R5.out, G5.out⟩
end Go.Proofs.YtfedgjahbmcpoaaGreat
/- What was read, in plain words: the bytes that it came off. No conditions. -/
set_option linter.unusedSimpArgs false
set_option linter.unusedVariables false
namespace Go.Proofs.YtfedgjahbmcpoaaGreat
open Go.RowKit

theorem byt_suf {a b : List Nat} (h : Byt (a ++ b)) : Byt b := fun x hx => h x (List.mem_append_right _ hx)
theorem byt_pre {a b : List Nat} (h : Byt (a ++ b)) : Byt a := fun x hx => h x (List.mem_append_left _ hx)
theorem nb_yes {most : Nat} {e : Int} {l : List Nat} (hl : Byt l) (h : (nb most e l).2.1 = 0) : e = 0 ∧ l = Dig.enc (nb most e l).1 ++ (nb most e l).2.2 ∧ (nb most e l).1 ≤ most := by
  have hle := nb_le most e l
  unfold nb at h ⊢
  split at h
  · rename_i h1
    exact absurd h h1
  · rename_i h1
    have he : e = 0 := by omega
    subst he
    rw [if_neg (by simp)]
    simp only at h ⊢
    refine ⟨by simp, (Dig.num1_ok most _ l _ hl (Prod.ext rfl (Prod.ext (by simpa using h) rfl))).1, ?_⟩
    have hn := nb_le most 0 l
    unfold nb at hn
    rw [if_neg (by simp)] at hn
    exact hn
theorem txt_yes {most : Int} {e : Int} {l : List Nat} (hl : Byt l) (h : (txt most e l).2.1 = 0) : e = 0 ∧ l = Dig.enc (txt most e l).1.length ++ (txt most e l).1 ++ (txt most e l).2.2 ∧ ((txt most e l).1.length : Int) ≤ most := by
  have hn := nb_yes (most := 9007199254740991) (e := e) hl
  unfold txt at h ⊢
  generalize nb 9007199254740991 e l = y at *
  obtain ⟨z, e2, l2⟩ := y
  simp only at h hn ⊢
  unfold tk at h ⊢
  by_cases h1 : e2 = 0 ∧ most < (z : Int)
  · rw [if_pos h1, if_pos (by simp)] at h
    simp at h
  · rw [if_neg h1] at h ⊢
    by_cases h2 : e2 = 0
    · subst h2
      obtain ⟨he, hl2, _⟩ := hn rfl
      rw [if_neg (by simp), if_neg (by omega)] at h ⊢
      by_cases h3 : (l2.length : Int) < z
      · rw [if_pos h3] at h
        simp at h
      · rw [if_neg h3]
        simp only
        have hlen : (l2.take z).length = z := by rw [List.length_take]; omega
        rw [Int.toNat_natCast, hlen]
        refine ⟨he, ?_, by omega⟩
        rw [List.append_assoc, List.take_append_drop]
        exact hl2
    · rw [if_pos h2] at h
      exact absurd h h2
theorem rawV_yes {e : Int} {l : List Nat} (hl : Byt l) (h : (rawV e l).2.1 = 0) (hc : chkV (rawV e l).1 = 0) : e = 0 ∧ l = (vb (rawV e l).1).1 ++ (rawV e l).2.2 := by
  have hvb : (vb (rawV e l).1).1 = Dig.enc (rawV e l).1.k.toNat ++ vp (rawV e l).1 := by unfold vb; rw [if_pos hc]
  rw [hvb]
  clear hvb
  have hn := nb_yes (most := 9007199254740991) (e := e) hl
  unfold rawV at h hc ⊢
  generalize nb 9007199254740991 e l = y at *
  obtain ⟨k, e1, l1⟩ := y
  simp only at h hc hn ⊢
  by_cases k1 : k = 1
  · subst k1
    rw [if_pos rfl] at h hc ⊢
    simp only at h ⊢
    by_cases he : e1 = 0
    · subst he
      obtain ⟨e0, e2, _⟩ := hn rfl
      have hz := nb_yes (most := 18014398509481982) (e := 0) (l := l1) (by rw [e2] at hl; exact byt_suf hl) h
      refine ⟨e0, ?_⟩
      unfold vp
      rw [if_pos rfl, zig_zag, List.append_assoc]
      conv => lhs; rw [e2, hz.2.1]
      rfl
    · unfold nb at h; rw [if_pos he] at h; exact absurd h he
  · rw [if_neg k1] at h hc ⊢
    by_cases k2 : k = 2
    · subst k2
      rw [if_pos rfl] at h hc ⊢
      simp only at h ⊢
      by_cases he : e1 = 0
      · subst he
        obtain ⟨e0, e2, _⟩ := hn rfl
        have hl1 : Byt l1 := by rw [e2] at hl; exact byt_suf hl
        have hz := txt_yes (most := 64) (e := 0) (l := l1) hl1 h
        have hbt : Byt (txt 64 0 l1).1 := by rw [hz.2.1] at hl1; exact byt_suf (byt_pre hl1)
        refine ⟨e0, ?_⟩
        unfold vp
        rw [if_neg (show ¬ ((2 : Int) = 1) by decide), if_pos rfl]
        simp only
        rw [bs_size, sb_bs hbt, List.append_assoc]
        conv => lhs; rw [e2, hz.2.1]
        rfl
      · have : (txt 64 e1 l1).2.1 ≠ 0 := fun h => by
          have := txt_yes (most := 64) (e := e1) (l := l1)
          unfold txt nb at h
          rw [if_pos he] at h
          simp only at h
          rw [if_neg (fun h => he h.1)] at h
          unfold tk at h
          rw [if_pos he] at h
          exact he h
        exact absurd h this
    · rw [if_neg k2] at h hc ⊢
      by_cases k3 : k = 3
      · subst k3
        rw [if_pos rfl] at h hc ⊢
        simp only at h ⊢
        by_cases he : e1 = 0
        · subst he
          obtain ⟨e0, e2, _⟩ := hn rfl
          have hz := nb_yes (most := 9007199254740991) (e := 0) (l := l1) (by rw [e2] at hl; exact byt_suf hl) h
          refine ⟨e0, ?_⟩
          unfold vp
          rw [if_neg (show ¬ ((3 : Int) = 1) by decide), if_neg (show ¬ ((3 : Int) = 2) by decide), List.append_assoc]
          simp only [Int.toNat_natCast]
          conv => lhs; rw [e2, hz.2.1]
          rfl
        · unfold nb at h; rw [if_pos he] at h; exact absurd h he
      · rw [if_neg k3] at h hc ⊢
        rw [chk_no (by omega) (by omega) (by omega)] at hc
        simp at hc
theorem fail_zero {e k : Int} (h : failE e k = 0) : e = 0 ∧ k = 0 := by
  unfold failE at h
  split at h
  · exact ⟨by assumption, h⟩
  · exact absurd h (by assumption)
theorem wrong_zero {k : Int} (h : wrongE k = 0) : k = 0 := by
  unfold wrongE at h
  split at h
  · assumption
  · simp at h
theorem tkV_yes {e : Int} {l : List Nat} (hl : Byt l) (h : (tkV e l).2.1 = 0) : e = 0 ∧ chkV (tkV e l).1 = 0 ∧ l = (vb (tkV e l).1).1 ++ (tkV e l).2.2 := by
  unfold tkV at h ⊢
  split at h
  · rename_i h1
    rw [if_pos h1]
    obtain ⟨h2, h3⟩ := fail_zero h1
    have h4 := wrong_zero h3
    have := rawV_yes hl h2 h4
    exact ⟨this.1, h4, this.2⟩
  · rename_i h1
    exact absurd h h1
theorem tkV_no {e : Int} {l : List Nat} (h : (tkV e l).2.1 ≠ 0) : (tkV e l).1 = ⟨0, 0, ⟨#[]⟩⟩ := by
  unfold tkV at h ⊢
  split at h
  · exact absurd rfl h
  · rename_i h1
    rw [if_neg h1]
theorem tkL_yes {e : Int} {l : List Nat} (hl : Byt l) (h : (tkL e l).2.1 = 0) : e = 0 ∧ chkL (tkL e l).1 = 0 ∧ l = (lb (tkL e l).1).1 ++ (tkL e l).2.2 := by
  have hn := nb_yes (most := 9007199254740991) (e := e) hl
  unfold tkL at h ⊢
  simp only at h ⊢
  generalize nb 9007199254740991 e l = y at *
  obtain ⟨k, e1, l1⟩ := y
  simp only at h hn ⊢
  have hn2 := fun hl1 => nb_yes (most := 9007199254740991) (e := e1) (l := l1) hl1
  have hst : e1 ≠ 0 → (nb 9007199254740991 e1 l1).2.1 ≠ 0 := fun he => by unfold nb; rw [if_pos he]; exact he
  generalize nb 9007199254740991 e1 l1 = y at *
  obtain ⟨p, e2, l2⟩ := y
  simp only at h hn2 hst ⊢
  by_cases hc : 7 < k ∨ 4294967295 < p
  · rw [if_pos hc, if_neg (failE_ne _ (by decide))] at h
    exact absurd h (failE_ne _ (by decide))
  · rw [if_neg hc] at h ⊢
    by_cases h2 : e2 = 0
    · rw [if_pos h2]
      subst h2
      have he : e1 = 0 := by
        rcases Decidable.em (e1 = 0) with h | h
        · exact h
        · exact absurd rfl (hst h)
      subst he
      obtain ⟨e0, g1, _⟩ := hn rfl
      obtain ⟨_, g2, _⟩ := hn2 (by rw [g1] at hl; exact byt_suf hl) rfl
      have hck : chkL ⟨(k : Int), p⟩ = 0 := if_pos ⟨by simp only; omega, by simp only; omega⟩
      refine ⟨e0, hck, ?_⟩
      unfold lb
      rw [if_pos hck]
      simp only [Int.toNat_natCast]
      rw [List.append_assoc, ← g2]
      exact g1
    · rw [if_neg h2] at h
      exact absurd h h2
theorem nb_st {most : Nat} {e : Int} (he : e ≠ 0) (l : List Nat) : nb most e l = (0, e, l) := by unfold nb; rw [if_pos he]
theorem txt_st {most : Int} {e : Int} (he : e ≠ 0) (l : List Nat) : txt most e l = ([], e, l) := by
  unfold txt
  rw [nb_st he]
  simp only
  rw [if_neg (fun h => he h.1)]
  unfold tk
  rw [if_pos he]
theorem tkL_st {e : Int} (he : e ≠ 0) (l : List Nat) : (tkL e l).2.1 ≠ 0 := by
  unfold tkL
  simp only
  rw [nb_st he]
  simp only
  rw [nb_st he]
  simp only
  rw [if_neg (show ¬ (7 < 0 ∨ 4294967295 < 0) by omega), if_neg he]
  exact he
theorem tkV_st {e : Int} (he : e ≠ 0) (l : List Nat) : (tkV e l).2.1 ≠ 0 := by
  have hr : (rawV e l).2.1 = e := by
    unfold rawV
    rw [nb_st he]
    simp only
    rw [if_neg (by decide), if_neg (by decide), if_neg (by decide)]
  unfold tkV
  rw [hr]
  have hf : ∀ k, failE e k = e := fun k => if_neg he
  rw [hf, if_neg he]
  exact he
theorem tkA_yes {e : Int} {l : List Nat} (hl : Byt l) (h : (tkA e l).2.1 = 0) : e = 0 ∧ l = ab (tkA e l).1 ++ (tkA e l).2.2 := by
  have hx := txt_yes (most := 24) (e := e) hl
  unfold tkA at h ⊢
  simp only at h ⊢
  generalize txt 24 e l = x at *
  obtain ⟨s, e1, l1⟩ := x
  simp only at h hx ⊢
  have hy := fun hl1 => tkL_yes (e := e1) (l := l1) hl1
  have sy := fun he => tkL_st (e := e1) he l1
  generalize tkL e1 l1 = y at *
  obtain ⟨lab, e2, l2⟩ := y
  simp only at h hy sy ⊢
  have hz := fun hl2 => tkV_yes (e := e2) (l := l2) hl2
  have sz := fun he => tkV_st (e := e2) he l2
  generalize tkV e2 l2 = z at *
  obtain ⟨val, e3, l3⟩ := z
  simp only at h hz sz ⊢
  -- the bytes behind are bytes only if what stands before was read: so from the end
  by_cases q2 : e2 = 0
  · by_cases q1 : e1 = 0
    · obtain ⟨e0, g1, _⟩ := hx q1
      have hl1 : Byt l1 := by rw [g1] at hl; exact byt_suf hl
      obtain ⟨_, _, g2⟩ := hy hl1 q2
      have hl2 : Byt l2 := by rw [g2] at hl1; exact byt_suf hl1
      obtain ⟨_, _, g3⟩ := hz hl2 h
      refine ⟨e0, ?_⟩
      have hbt : Byt s := by rw [g1] at hl; exact byt_suf (byt_pre hl)
      unfold ab
      simp only
      rw [bs_size, sb_bs hbt]
      conv => lhs; rw [g1, g2, g3]
      simp only [List.append_assoc]
    · exact absurd q2 (sy q1)
  · exact absurd h (sz q2)
theorem tkN_yes {n : Nat} {e : Int} {l : List Nat} (hl : Byt l) (h : (tkN n e l).2.1 = 0) : e = 0 ∧ (tkN n e l).1.length = n ∧ l = ((tkN n e l).1.map ab).flatten ++ (tkN n e l).2.2 := by
  induction n generalizing e l with
  | zero => exact ⟨h, rfl, by simp [tkN]⟩
  | succ n ih =>
    unfold tkN at h ⊢
    by_cases he : e = 0
    · subst he
      rw [if_pos rfl] at h ⊢
      simp only at h ⊢
      have ha := tkA_yes (e := 0) (l := l) hl
      have hrest := fun hl2 => ih (e := (tkA 0 l).2.1) (l := (tkA 0 l).2.2) hl2 h
      have hst : (tkA 0 l).2.1 = 0 := by
        rcases Decidable.em ((tkA 0 l).2.1 = 0) with q | q
        · exact q
        · rw [tkN_stop n q] at h
          exact h
      obtain ⟨_, g1⟩ := ha hst
      obtain ⟨_, g2, g3⟩ := hrest (by rw [g1] at hl; exact byt_suf hl)
      refine ⟨by simp, by rw [List.length_cons, g2], ?_⟩
      rw [List.map_cons, List.flatten_cons, List.append_assoc, ← g3]
      exact g1
    · rw [if_neg he] at h
      exact absurd h he
theorem tkLs_yes {e : Int} {l : List Nat} (hl : Byt l) (h : (tkLs e l).2.1 = 0) : e = 0 ∧ l = asB (tkLs e l).1 ++ (tkLs e l).2.2 := by
  have hn := nb_yes (most := 9007199254740991) (e := e) hl
  unfold tkLs at h ⊢
  generalize nb 9007199254740991 e l = y at *
  obtain ⟨k, e1, l1⟩ := y
  simp only at h hn ⊢
  by_cases h8 : 8 < k
  · rw [if_pos h8, tkN_stop k (failE_ne _ (by decide))] at h
    exact absurd h (failE_ne _ (by decide))
  · rw [if_neg h8] at h ⊢
    have hst : e1 = 0 := by
      rcases Decidable.em (e1 = 0) with q | q
      · exact q
      · rw [tkN_stop k q] at h
        exact h
    obtain ⟨e0, g1, _⟩ := hn hst
    obtain ⟨_, g2, g3⟩ := tkN_yes (by rw [g1] at hl; exact byt_suf hl) h
    refine ⟨e0, ?_⟩
    unfold asB
    rw [g2, List.append_assoc, ← g3]
    exact g1
theorem tkAs_yes {e : Int} {l : List Nat} (hl : Byt l) (h : (tkAs e l).2.1 = 0) : e = 0 ∧ mayA (tkAs e l).1 = 0 ∧ l = asB (tkAs e l).1 ++ (tkAs e l).2.2 := by
  unfold tkAs at h ⊢
  split at h
  · rename_i h1
    rw [if_pos h1]
    obtain ⟨h2, h3⟩ := fail_zero h1
    have := tkLs_yes hl h2
    exact ⟨this.1, wrong_zero h3, this.2⟩
  · rename_i h1
    exact absurd h h1
theorem tkAs_no {e : Int} {l : List Nat} (h : (tkAs e l).2.1 ≠ 0) : (tkAs e l).1 = [] := by
  unfold tkAs at h ⊢
  split at h
  · exact absurd rfl h
  · rename_i h1
    rw [if_neg h1]
end Go.Proofs.YtfedgjahbmcpoaaGreat
/- What was written is read unchanged: values, labels, attributes, lists. Plain lists, no conditions. -/
set_option linter.unusedSimpArgs false
set_option linter.unusedVariables false
namespace Go.Proofs.YtfedgjahbmcpoaaGreat
open Go.RowKit

theorem nbv_enc {most : Nat} (n : Nat) (h : n < 72057594037927936) (hm : n ≤ most) (l : List Nat) : nb most 0 (Dig.enc n ++ l) = (n, 0, l) := by
  unfold nb
  rw [if_neg (by simp), Dig.num1_enc most n h hm l]
  rfl
theorem txt_to (most : Int) (s m : List Nat) (hs : s.length ≤ 65535) (hm : (s.length : Int) ≤ most) : txt most 0 (Dig.enc s.length ++ s ++ m) = (s, 0, m) := by
  unfold txt
  rw [List.append_assoc, nbv_enc _ (by omega) (by omega)]
  simp only
  rw [if_neg (by omega)]
  unfold tk
  rw [if_neg (by simp), if_neg (by omega), if_neg (by rw [List.length_append]; omega), Int.toNat_natCast]
  simp
theorem rawV_to {x : Val} (h : chkV x = 0) (m : List Nat) : rawV 0 ((vb x).1 ++ m) = (x, 0, m) := by
  have hb : (vb x).1 = Dig.enc x.k.toNat ++ vp x := by unfold vb; rw [if_pos h]
  rw [hb, List.append_assoc]
  obtain ⟨k, n, b⟩ := x
  have q1 : ¬ ((2 : Nat) = 1) := by decide
  have q2 : ¬ ((3 : Nat) = 1) := by decide
  have q3 : ¬ ((3 : Nat) = 2) := by decide
  rcases chk_cases h with ⟨h1, h2, h3, h4⟩ | ⟨h1, h2, h3⟩ | ⟨h1, h2, h3⟩
  · simp only at h1 h2 h3 h4
    subst h1 h4
    have hz := zig_le n h2 h3
    rw [show vp ⟨1, n, ⟨#[]⟩⟩ = Dig.enc (zig n) from by unfold vp; simp]
    unfold rawV
    simp only [show (1 : Int).toNat = 1 from rfl]
    rw [nbv_enc _ (by omega) (by omega)]
    simp only [if_true]
    rw [nbv_enc _ (by omega) (by omega)]
    simp only [zag_zig]
  · simp only at h1 h2 h3
    subst h1 h2
    rw [show vp ⟨2, 0, b⟩ = Dig.enc b.size ++ sb b from by unfold vp; simp]
    unfold rawV
    simp only [show (2 : Int).toNat = 2 from rfl]
    rw [nbv_enc _ (by omega) (by omega)]
    simp only [q1, if_false, if_true]
    rw [← sb_length b, txt_to 64 (sb b) m (by rw [sb_length]; omega) (by rw [sb_length]; omega)]
    simp only [bs_sb]
  · simp only at h1 h2 h3
    subst h1 h3
    rw [show vp ⟨3, n, ⟨#[]⟩⟩ = Dig.enc n.toNat from by unfold vp; simp]
    unfold rawV
    simp only [show (3 : Int).toNat = 3 from rfl]
    rw [nbv_enc _ (by omega) (by omega)]
    simp only [q2, q3, if_false, if_true]
    rw [nbv_enc _ (by omega) (by omega)]
    simp only
    rw [Int.toNat_of_nonneg (by omega)]
theorem tkV_to {x : Val} (h : chkV x = 0) (m : List Nat) : tkV 0 ((vb x).1 ++ m) = (x, 0, m) := by
  unfold tkV
  rw [rawV_to h]
  simp only [h]
  rw [if_pos (by decide)]
theorem tkL_to {x : Lab} (h : chkL x = 0) (hp : x.p < 4294967296) (m : List Nat) : tkL 0 ((lb x).1 ++ m) = (x, 0, m) := by
  have hb : (lb x).1 = Dig.enc x.l.toNat ++ Dig.enc x.p := by unfold lb; rw [if_pos h]
  rw [hb, List.append_assoc]
  rcases chkL_cases x with ⟨_, h1, h2⟩ | ⟨h0, _⟩
  · unfold tkL
    rw [nbv_enc _ (by omega) (by omega)]
    simp only
    rw [nbv_enc _ (by omega) (by omega)]
    simp only
    rw [if_neg (show ¬ (7 < x.l.toNat ∨ 4294967295 < x.p) by omega), if_pos rfl, Int.toNat_of_nonneg h1]
  · omega
theorem tkA_to {a : Att} (h : chkA a = 0) (hp : a.lab.p < 4294967296) (m : List Nat) : tkA 0 (ab a ++ m) = (a, 0, m) := by
  obtain ⟨h1, h2, h3⟩ := chkA_yes h
  have hs := nm_size h1
  unfold tkA ab
  have e : (Dig.enc a.name.size ++ sb a.name) ++ ((lb a.lab).1 ++ (vb a.val).1) ++ m = Dig.enc (sb a.name).length ++ sb a.name ++ ((lb a.lab).1 ++ ((vb a.val).1 ++ m)) := by
    rw [sb_length]; simp only [List.append_assoc]
  rw [e, txt_to 24 _ _ (by rw [sb_length]; omega) (by rw [sb_length]; omega)]
  simp only
  rw [tkL_to h2 hp]
  simp only
  rw [tkV_to h3]
  simp only [bs_sb]
theorem tkN_to : ∀ (l : List Att) (m : List Nat), (∀ a ∈ l, chkA a = 0 ∧ a.lab.p < 4294967296) → tkN l.length 0 ((l.map ab).flatten ++ m) = (l, 0, m)
  | [], m, _ => rfl
  | a :: l, m, h => by
    have e : ((a :: l).map ab).flatten ++ m = ab a ++ ((l.map ab).flatten ++ m) := by simp
    rw [e, List.length_cons, tkN, if_pos rfl, tkA_to (h a (by simp)).1 (h a (by simp)).2]
    simp only
    rw [tkN_to l m (fun b hb => h b (List.mem_cons_of_mem _ hb))]
theorem tkAs_to {l : List Att} (h : mayA l = 0) (hp : ∀ a ∈ l, a.lab.p < 4294967296) (m : List Nat) : tkAs 0 (asB l ++ m) = (l, 0, m) := by
  have h8 := (may_yes h).1
  have e : tkLs 0 (asB l ++ m) = (l, 0, m) := by
    unfold tkLs asB
    rw [List.append_assoc, nbv_enc _ (by omega) (by omega)]
    simp only
    rw [if_neg (by omega)]
    exact tkN_to l m (fun a ha => by
      obtain ⟨i, hi, rfl⟩ := List.getElem_of_mem ha
      exact ⟨may_att h hi, hp _ ha⟩)
  unfold tkAs
  rw [e]
  simp only [h]
  rw [if_pos (by decide)]
end Go.Proofs.YtfedgjahbmcpoaaGreat
/- A row of spans of one's own, each with attributes of its own. No conditions. -/
set_option linter.unusedSimpArgs false
set_option linter.unusedVariables false
namespace Go.Proofs.YtfedgjahbmcpoaaGreat
open Go.RowKit

theorem infoSpn : (Tryz.prog.info? 48).map (fun i => (i.zero, i.size, i.bytes)) = some (some (.agg #[.int .i64 0, .int .i64 0, .int .i64 0, .string ⟨#[]⟩, .string ⟨#[]⟩, .int .i64 0, .int .i64 0, .string ⟨#[]⟩, .slice none 0 0]), 9, 112) := by kernel_rfl
def spc : List Spn → List Value → List Value
  | s :: l, v :: vs => s.cells v ++ spc l vs
  | _, _ => []
theorem spc_length : ∀ (l : List Spn) (vs : List Value), vs.length = l.length → (spc l vs).length = 9 * l.length
  | [], [], _ => rfl
  | s :: l, v :: vs, h => by
    have := spc_length l vs (by simpa using h)
    simp only [spc, List.length_append, List.length_cons, this, Spn.cells, List.length_nil]
    omega
theorem spc_snoc : ∀ (l : List Spn) (vs : List Value) (s : Spn) (v : Value), vs.length = l.length → spc (l ++ [s]) (vs ++ [v]) = spc l vs ++ s.cells v
  | [], [], s, v, _ => by simp [spc]
  | a :: l, b :: vs, s, v, h => by
    have := spc_snoc l vs s v (by simpa using h)
    simp only [List.cons_append, spc, this, List.append_assoc]
theorem spc_at : ∀ (l : List Spn) (vs : List Value), vs.length = l.length → ∀ i (h : i < l.length) (h2 : i < vs.length) j, j < 9 → (spc l vs)[9 * i + j]? = (l[i].cells vs[i])[j]?
  | a :: l, b :: vs, hv, 0, h, h2, j, hj => by
    simp only [spc, Nat.mul_zero, Nat.zero_add, List.getElem_cons_zero]
    rw [List.getElem?_append_left (by simpa [Spn.cells] using hj)]
  | a :: l, b :: vs, hv, i + 1, h, h2, j, hj => by
    have := spc_at l vs (by simpa using hv) i (by simpa using h) (by simpa using h2) j hj
    have hl9 : (a.cells b).length = 9 := rfl
    simp only [spc, List.getElem_cons_succ]
    rw [List.getElem?_append_right (by rw [hl9]; omega), hl9, show 9 * (i + 1) + j - 9 = 9 * i + j by omega]
    exact this
/-- A row of spans of one's own, each with a row of attributes of its own. -/
def SpOwn (w : World) (base : Nat) (v : Value) (l : List Spn) : Prop := ∃ vs : List Value, ∃ hv : vs.length = l.length, w.ownsRow base 48 9 v l.length (spc l vs) ∧ ∀ i (h : i < l.length), w.ownsRow base 101 6 (vs[i]'(by omega)) l[i].ats.length (acs l[i].ats)
theorem SpOwn.nil (w : World) (base : Nat) : SpOwn w base (.slice none 0 0) [] := ⟨[], rfl, World.ownsRow_nil _ _ _ _, fun i h => absurd h (by simp)⟩
theorem SpOwn.below {w w' : World} {base : Nat} {v : Value} {l : List Spn} (h : SpOwn w base v l) (hb : Below w.heap.size w w') : SpOwn w' base v l := by
  obtain ⟨vs, hv, h1, h2⟩ := h
  exact ⟨vs, hv, ownsRow_below h1 hb, fun i hi => ownsRow_below (h2 i hi) hb⟩
theorem own_types {w : World} {b1 b2 : Nat} {t1 t2 : TypeId} {s1 s2 n1 n2 : Nat} {v1 v2 : Value} {x1 x2 : List Value} (h : w.ownsRow b1 t1 s1 v1 n1 x1) (h2 : w.ownsRow b2 t2 s2 v2 n2 x2) (ht : t1 ≠ t2) {k : Nat} (hk : v1.ownBlock = some k) : v2.ownBlock ≠ some k := by
  intro hk2
  rcases h.2 with ⟨hv, _⟩ | ⟨g, cap, cur, hv, _, hg, _⟩
  · rw [hv] at hk; cases hk
  · rcases h2.2 with ⟨hv2, _⟩ | ⟨g2, cap2, cur2, hv2, _, hg2, _⟩
    · rw [hv2] at hk2; cases hk2
    · rw [hv] at hk
      rw [hv2] at hk2
      have e1 : g = k := by injection hk
      have e2 : g2 = k := by injection hk2
      subst e1
      subst e2
      rw [hg] at hg2
      injection hg2 with h1
      injection h1 with _ h3 _
      exact ht h3
theorem spn_oneCell (s : Spn) {v : Value} (hv : v.oneCell' = true) : ∀ u ∈ s.cells v, u.oneCell' = true := by
  intro u hu
  simp only [Spn.cells, List.mem_cons, List.not_mem_nil, or_false] at hu
  rcases hu with rfl | rfl | rfl | rfl | rfl | rfl | rfl | rfl | rfl <;> first | rfl | exact hv
theorem SpOwn.ls {w : World} {base : Nat} {v : Value} {l : List Spn} (h : SpOwn w base v l) (hp : ∀ s ∈ l, ∀ a ∈ s.ats, a.lab.p < 4294967296) (ha : ∀ s ∈ l, s.ats.length ≤ 2199023255552) (hl : l.length ≤ 1256584717421) : ∃ A n c, v = .slice A n c ∧ LS w A n c l := by
  obtain ⟨vs, hv, h1, h2⟩ := h
  obtain ⟨A, c, e, hle, _, hnil, hlies, hA⟩ := ownsRow_lies h1
  refine ⟨A, l.length, c, e, rfl, hle, hnil, fun i hi => ?_, hl⟩
  have hlen := spc_length l vs hv
  obtain ⟨B, m, d, e2, hAS⟩ := own_asL (h2 i hi) (hp _ (List.getElem_mem hi)) (ha _ (List.getElem_mem hi))
  rcases h1.2 with ⟨_, h0⟩ | ⟨g, cap, cur, e3, hb, hg, _⟩
  · omega
  · rw [e3] at e
    injection e with e4 _ _
    refine ⟨g, 0, B, m, d, e4.symm, fun j u hj => ?_, hAS⟩
    have hj9 : j < 9 := (List.getElem?_eq_some_iff.1 hj).1
    obtain ⟨ad, hA2, hc⟩ := hlies (i * 9 + j) (by rw [hlen]; omega)
    rw [← e4] at hA2
    cases hA2
    rw [addr_add, ← Nat.add_assoc] at hc
    rw [hc, ← hj, ← e2, ← spc_at l vs hv i hi (by omega) j hj9, show 9 * i + j = i * 9 + j by omega]
    exact (List.getElem?_eq_getElem _).symm
end Go.Proofs.YtfedgjahbmcpoaaGreat
