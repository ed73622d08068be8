/- What was read, in plain words: the bytes that it came off. No conditions. -/
import Derived.Test.YtmnabhennibddaaGD27
set_option linter.unusedSimpArgs false
set_option linter.unusedVariables false
namespace Go.Proofs.Ytmnabhennibddaa
open Go.RowKit

theorem byt_suf {a b : List Nat} (h : Byt (a ++ b)) : Byt b := fun x hx => h x (List.mem_append_right _ hx)
theorem byt_pre {a b : List Nat} (h : Byt (a ++ b)) : Byt a := fun x hx => h x (List.mem_append_left _ hx)
theorem nb_yes {most : Nat} {e : Int} {l : List Nat} (hl : Byt l) (h : (nb most e l).2.1 = 0) : e = 0 ∧ l = Dig.enc (nb most e l).1 ++ (nb most e l).2.2 ∧ (nb most e l).1 ≤ most := by
  have hle := nb_le most e l
  unfold nb at h ⊢
  split at h
  · rename_i h1
    exact absurd h h1
  · rename_i h1
    have he : e = 0 := by omega
    subst he
    rw [if_neg (by simp)]
    simp only at h ⊢
    refine ⟨by simp, (Dig.num1_ok most _ l _ hl (Prod.ext rfl (Prod.ext (by simpa using h) rfl))).1, ?_⟩
    have hn := nb_le most 0 l
    unfold nb at hn
    rw [if_neg (by simp)] at hn
    exact hn
theorem txt_yes {most : Int} {e : Int} {l : List Nat} (hl : Byt l) (h : (txt most e l).2.1 = 0) : e = 0 ∧ l = Dig.enc (txt most e l).1.length ++ (txt most e l).1 ++ (txt most e l).2.2 ∧ ((txt most e l).1.length : Int) ≤ most := by
  have hn := nb_yes (most := 9007199254740991) (e := e) hl
  unfold txt at h ⊢
  generalize nb 9007199254740991 e l = y at *
  obtain ⟨z, e2, l2⟩ := y
  simp only at h hn ⊢
  unfold tk at h ⊢
  by_cases h1 : e2 = 0 ∧ most < (z : Int)
  · rw [if_pos h1, if_pos (by simp)] at h
    simp at h
  · rw [if_neg h1] at h ⊢
    by_cases h2 : e2 = 0
    · subst h2
      obtain ⟨he, hl2, _⟩ := hn rfl
      rw [if_neg (by simp), if_neg (by omega)] at h ⊢
      by_cases h3 : (l2.length : Int) < z
      · rw [if_pos h3] at h
        simp at h
      · rw [if_neg h3]
        simp only
        have hlen : (l2.take z).length = z := by rw [List.length_take]; omega
        rw [Int.toNat_natCast, hlen]
        refine ⟨he, ?_, by omega⟩
        rw [List.append_assoc, List.take_append_drop]
        exact hl2
    · rw [if_pos h2] at h
      exact absurd h h2
theorem rawV_yes {e : Int} {l : List Nat} (hl : Byt l) (h : (rawV e l).2.1 = 0) (hc : chkV (rawV e l).1 = 0) : e = 0 ∧ l = (vb (rawV e l).1).1 ++ (rawV e l).2.2 := by
  have hvb : (vb (rawV e l).1).1 = Dig.enc (rawV e l).1.k.toNat ++ vp (rawV e l).1 := by unfold vb; rw [if_pos hc]
  rw [hvb]
  clear hvb
  have hn := nb_yes (most := 9007199254740991) (e := e) hl
  unfold rawV at h hc ⊢
  generalize nb 9007199254740991 e l = y at *
  obtain ⟨k, e1, l1⟩ := y
  simp only at h hc hn ⊢
  by_cases k1 : k = 1
  · subst k1
    rw [if_pos rfl] at h hc ⊢
    simp only at h ⊢
    by_cases he : e1 = 0
    · subst he
      obtain ⟨e0, e2, _⟩ := hn rfl
      have hz := nb_yes (most := 18014398509481982) (e := 0) (l := l1) (by rw [e2] at hl; exact byt_suf hl) h
      refine ⟨e0, ?_⟩
      unfold vp
      rw [if_pos rfl, zig_zag, List.append_assoc]
      conv => lhs; rw [e2, hz.2.1]
      rfl
    · unfold nb at h; rw [if_pos he] at h; exact absurd h he
  · rw [if_neg k1] at h hc ⊢
    by_cases k2 : k = 2
    · subst k2
      rw [if_pos rfl] at h hc ⊢
      simp only at h ⊢
      by_cases he : e1 = 0
      · subst he
        obtain ⟨e0, e2, _⟩ := hn rfl
        have hl1 : Byt l1 := by rw [e2] at hl; exact byt_suf hl
        have hz := txt_yes (most := 64) (e := 0) (l := l1) hl1 h
        have hbt : Byt (txt 64 0 l1).1 := by rw [hz.2.1] at hl1; exact byt_suf (byt_pre hl1)
        refine ⟨e0, ?_⟩
        unfold vp
        rw [if_neg (show ¬ ((2 : Int) = 1) by decide), if_pos rfl]
        simp only
        rw [bs_size, sb_bs hbt, List.append_assoc]
        conv => lhs; rw [e2, hz.2.1]
        rfl
      · have : (txt 64 e1 l1).2.1 ≠ 0 := fun h => by
          have := txt_yes (most := 64) (e := e1) (l := l1)
          unfold txt nb at h
          rw [if_pos he] at h
          simp only at h
          rw [if_neg (fun h => he h.1)] at h
          unfold tk at h
          rw [if_pos he] at h
          exact he h
        exact absurd h this
    · rw [if_neg k2] at h hc ⊢
      by_cases k3 : k = 3
      · subst k3
        rw [if_pos rfl] at h hc ⊢
        simp only at h ⊢
        by_cases he : e1 = 0
        · subst he
          obtain ⟨e0, e2, _⟩ := hn rfl
          have hz := nb_yes (most := 9007199254740991) (e := 0) (l := l1) (by rw [e2] at hl; exact byt_suf hl) h
          refine ⟨e0, ?_⟩
          unfold vp
          rw [if_neg (show ¬ ((3 : Int) = 1) by decide), if_neg (show ¬ ((3 : Int) = 2) by decide), List.append_assoc]
          simp only [Int.toNat_natCast]
          conv => lhs; rw [e2, hz.2.1]
          rfl
        · unfold nb at h; rw [if_pos he] at h; exact absurd h he
      · rw [if_neg k3] at h hc ⊢
        rw [chk_no (by omega) (by omega) (by omega)] at hc
        simp at hc
theorem fail_zero {e k : Int} (h : failE e k = 0) : e = 0 ∧ k = 0 := by
  unfold failE at h
  split at h
  · exact ⟨by assumption, h⟩
  · exact absurd h (by assumption)
theorem wrong_zero {k : Int} (h : wrongE k = 0) : k = 0 := by
  unfold wrongE at h
  split at h
  · assumption
  · simp at h
theorem tkV_yes {e : Int} {l : List Nat} (hl : Byt l) (h : (tkV e l).2.1 = 0) : e = 0 ∧ chkV (tkV e l).1 = 0 ∧ l = (vb (tkV e l).1).1 ++ (tkV e l).2.2 := by
  unfold tkV at h ⊢
  split at h
  · rename_i h1
    rw [if_pos h1]
    obtain ⟨h2, h3⟩ := fail_zero h1
    have h4 := wrong_zero h3
    have := rawV_yes hl h2 h4
    exact ⟨this.1, h4, this.2⟩
  · rename_i h1
    exact absurd h h1
theorem tkV_no {e : Int} {l : List Nat} (h : (tkV e l).2.1 ≠ 0) : (tkV e l).1 = ⟨0, 0, ⟨#[]⟩⟩ := by
  unfold tkV at h ⊢
  split at h
  · exact absurd rfl h
  · rename_i h1
    rw [if_neg h1]
theorem tkL_yes {e : Int} {l : List Nat} (hl : Byt l) (h : (tkL e l).2.1 = 0) : e = 0 ∧ chkL (tkL e l).1 = 0 ∧ l = (lb (tkL e l).1).1 ++ (tkL e l).2.2 := by
  have hn := nb_yes (most := 9007199254740991) (e := e) hl
  unfold tkL at h ⊢
  simp only at h ⊢
  generalize nb 9007199254740991 e l = y at *
  obtain ⟨k, e1, l1⟩ := y
  simp only at h hn ⊢
  have hn2 := fun hl1 => nb_yes (most := 9007199254740991) (e := e1) (l := l1) hl1
  have hst : e1 ≠ 0 → (nb 9007199254740991 e1 l1).2.1 ≠ 0 := fun he => by unfold nb; rw [if_pos he]; exact he
  generalize nb 9007199254740991 e1 l1 = y at *
  obtain ⟨p, e2, l2⟩ := y
  simp only at h hn2 hst ⊢
  by_cases hc : 7 < k ∨ 4294967295 < p
  · rw [if_pos hc, if_neg (failE_ne _ (by decide))] at h
    exact absurd h (failE_ne _ (by decide))
  · rw [if_neg hc] at h ⊢
    by_cases h2 : e2 = 0
    · rw [if_pos h2]
      subst h2
      have he : e1 = 0 := by
        rcases Decidable.em (e1 = 0) with h | h
        · exact h
        · exact absurd rfl (hst h)
      subst he
      obtain ⟨e0, g1, _⟩ := hn rfl
      obtain ⟨_, g2, _⟩ := hn2 (by rw [g1] at hl; exact byt_suf hl) rfl
      have hck : chkL ⟨(k : Int), p⟩ = 0 := if_pos ⟨by simp only; omega, by simp only; omega⟩
      refine ⟨e0, hck, ?_⟩
      unfold lb
      rw [if_pos hck]
      simp only [Int.toNat_natCast]
      rw [List.append_assoc, ← g2]
      exact g1
    · rw [if_neg h2] at h
      exact absurd h h2
theorem nb_st {most : Nat} {e : Int} (he : e ≠ 0) (l : List Nat) : nb most e l = (0, e, l) := by unfold nb; rw [if_pos he]
theorem txt_st {most : Int} {e : Int} (he : e ≠ 0) (l : List Nat) : txt most e l = ([], e, l) := by
  unfold txt
  rw [nb_st he]
  simp only
  rw [if_neg (fun h => he h.1)]
  unfold tk
  rw [if_pos he]
theorem tkL_st {e : Int} (he : e ≠ 0) (l : List Nat) : (tkL e l).2.1 ≠ 0 := by
  unfold tkL
  simp only
  rw [nb_st he]
  simp only
  rw [nb_st he]
  simp only
  rw [if_neg (show ¬ (7 < 0 ∨ 4294967295 < 0) by omega), if_neg he]
  exact he
theorem tkV_st {e : Int} (he : e ≠ 0) (l : List Nat) : (tkV e l).2.1 ≠ 0 := by
  have hr : (rawV e l).2.1 = e := by
    unfold rawV
    rw [nb_st he]
    simp only
    rw [if_neg (by decide), if_neg (by decide), if_neg (by decide)]
  unfold tkV
  rw [hr]
  have hf : ∀ k, failE e k = e := fun k => if_neg he
  rw [hf, if_neg he]
  exact he
theorem tkA_yes {e : Int} {l : List Nat} (hl : Byt l) (h : (tkA e l).2.1 = 0) : e = 0 ∧ l = ab (tkA e l).1 ++ (tkA e l).2.2 := by
  have hx := txt_yes (most := 24) (e := e) hl
  unfold tkA at h ⊢
  simp only at h ⊢
  generalize txt 24 e l = x at *
  obtain ⟨s, e1, l1⟩ := x
  simp only at h hx ⊢
  have hy := fun hl1 => tkL_yes (e := e1) (l := l1) hl1
  have sy := fun he => tkL_st (e := e1) he l1
  generalize tkL e1 l1 = y at *
  obtain ⟨lab, e2, l2⟩ := y
  simp only at h hy sy ⊢
  have hz := fun hl2 => tkV_yes (e := e2) (l := l2) hl2
  have sz := fun he => tkV_st (e := e2) he l2
  generalize tkV e2 l2 = z at *
  obtain ⟨val, e3, l3⟩ := z
  simp only at h hz sz ⊢
  -- the bytes behind are bytes only if what stands before was read: so from the end
  by_cases q2 : e2 = 0
  · by_cases q1 : e1 = 0
    · obtain ⟨e0, g1, _⟩ := hx q1
      have hl1 : Byt l1 := by rw [g1] at hl; exact byt_suf hl
      obtain ⟨_, _, g2⟩ := hy hl1 q2
      have hl2 : Byt l2 := by rw [g2] at hl1; exact byt_suf hl1
      obtain ⟨_, _, g3⟩ := hz hl2 h
      refine ⟨e0, ?_⟩
      have hbt : Byt s := by rw [g1] at hl; exact byt_suf (byt_pre hl)
      unfold ab
      simp only
      rw [bs_size, sb_bs hbt]
      conv => lhs; rw [g1, g2, g3]
      simp only [List.append_assoc]
    · exact absurd q2 (sy q1)
  · exact absurd h (sz q2)
theorem tkN_yes {n : Nat} {e : Int} {l : List Nat} (hl : Byt l) (h : (tkN n e l).2.1 = 0) : e = 0 ∧ (tkN n e l).1.length = n ∧ l = ((tkN n e l).1.map ab).flatten ++ (tkN n e l).2.2 := by
  induction n generalizing e l with
  | zero => exact ⟨h, rfl, by simp [tkN]⟩
  | succ n ih =>
    unfold tkN at h ⊢
    by_cases he : e = 0
    · subst he
      rw [if_pos rfl] at h ⊢
      simp only at h ⊢
      have ha := tkA_yes (e := 0) (l := l) hl
      have hrest := fun hl2 => ih (e := (tkA 0 l).2.1) (l := (tkA 0 l).2.2) hl2 h
      have hst : (tkA 0 l).2.1 = 0 := by
        rcases Decidable.em ((tkA 0 l).2.1 = 0) with q | q
        · exact q
        · rw [tkN_stop n q] at h
          exact h
      obtain ⟨_, g1⟩ := ha hst
      obtain ⟨_, g2, g3⟩ := hrest (by rw [g1] at hl; exact byt_suf hl)
      refine ⟨by simp, by rw [List.length_cons, g2], ?_⟩
      rw [List.map_cons, List.flatten_cons, List.append_assoc, ← g3]
      exact g1
    · rw [if_neg he] at h
      exact absurd h he
theorem tkLs_yes {e : Int} {l : List Nat} (hl : Byt l) (h : (tkLs e l).2.1 = 0) : e = 0 ∧ l = asB (tkLs e l).1 ++ (tkLs e l).2.2 := by
  have hn := nb_yes (most := 9007199254740991) (e := e) hl
  unfold tkLs at h ⊢
  generalize nb 9007199254740991 e l = y at *
  obtain ⟨k, e1, l1⟩ := y
  simp only at h hn ⊢
  by_cases h8 : 8 < k
  · rw [if_pos h8, tkN_stop k (failE_ne _ (by decide))] at h
    exact absurd h (failE_ne _ (by decide))
  · rw [if_neg h8] at h ⊢
    have hst : e1 = 0 := by
      rcases Decidable.em (e1 = 0) with q | q
      · exact q
      · rw [tkN_stop k q] at h
        exact h
    obtain ⟨e0, g1, _⟩ := hn hst
    obtain ⟨_, g2, g3⟩ := tkN_yes (by rw [g1] at hl; exact byt_suf hl) h
    refine ⟨e0, ?_⟩
    unfold asB
    rw [g2, List.append_assoc, ← g3]
    exact g1
theorem tkAs_yes {e : Int} {l : List Nat} (hl : Byt l) (h : (tkAs e l).2.1 = 0) : e = 0 ∧ mayA (tkAs e l).1 = 0 ∧ l = asB (tkAs e l).1 ++ (tkAs e l).2.2 := by
  unfold tkAs at h ⊢
  split at h
  · rename_i h1
    rw [if_pos h1]
    obtain ⟨h2, h3⟩ := fail_zero h1
    have := tkLs_yes hl h2
    exact ⟨this.1, wrong_zero h3, this.2⟩
  · rename_i h1
    exact absurd h h1
theorem tkAs_no {e : Int} {l : List Nat} (h : (tkAs e l).2.1 ≠ 0) : (tkAs e l).1 = [] := by
  unfold tkAs at h ⊢
  split at h
  · exact absurd rfl h
  · rename_i h1
    rw [if_neg h1]
end Go.Proofs.Ytmnabhennibddaa
