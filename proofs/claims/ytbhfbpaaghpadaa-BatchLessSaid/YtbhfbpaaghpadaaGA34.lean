/- A batch read off bytes, in plain words. No conditions. -/
import Derived.Test.YtbhfbpaaghpadaaGA30
import Derived.Test.YtbhfbpaaghpadaaGA33
set_option linter.unusedSimpArgs false
set_option linter.unusedVariables false
namespace Go.Proofs.Ytbhfbpaaghpadaa
open Go.RowKit

/-- So many numbers off a reader. -/
def tkU : Nat → Int → List Nat → List Nat × Int × List Nat
  | 0, e, l => ([], e, l)
  | n + 1, e, l => ((nb 9007199254740991 e l).1 :: (tkU n (nb 9007199254740991 e l).2.1 (nb 9007199254740991 e l).2.2).1, (tkU n (nb 9007199254740991 e l).2.1 (nb 9007199254740991 e l).2.2).2)
theorem tkU_len : ∀ (n : Nat) (e : Int) (l : List Nat), (tkU n e l).1.length = n
  | 0, _, _ => rfl
  | n + 1, e, l => by simp only [tkU, List.length_cons, tkU_len n]
theorem tkU_st : ∀ (n : Nat) {e : Int} (h : e ≠ 0) (l : List Nat), (tkU n e l).2 = (e, l)
  | 0, _, _, _ => rfl
  | n + 1, e, h, l => by
    simp only [tkU, nb_st h]
    exact tkU_st n h l
theorem uP_nat {n : Nat} (h : n ≤ 9007199254740991) : uP (n : Int) = (Dig.enc n, 0) := by
  unfold uP
  rw [if_pos (by omega)]
  simp
theorem tkU_yes : ∀ (n : Nat) {e : Int} {l : List Nat}, Byt l → (tkU n e l).2.1 = 0 → e = 0 ∧ l = uN ((tkU n e l).1.map Int.ofNat) ++ (tkU n e l).2.2 ∧ ∀ x ∈ (tkU n e l).1, x ≤ 9007199254740991
  | 0, e, l, hl, h => ⟨h, rfl, by intro x hx; cases hx⟩
  | n + 1, e, l, hl, h => by
    have hx := nb_yes (most := 9007199254740991) (e := e) hl
    simp only [tkU] at h ⊢
    generalize nb 9007199254740991 e l = x at *
    obtain ⟨a, e1, l1⟩ := x
    simp only at h hx ⊢
    by_cases q : e1 = 0
    · obtain ⟨e0, g1, g2⟩ := hx q
      have hl1 : Byt l1 := by rw [g1] at hl; exact byt_suf hl
      obtain ⟨_, g3, g4⟩ := tkU_yes n hl1 h
      refine ⟨e0, ?_, fun y hy => ?_⟩
      · unfold uN at *
        simp only [List.map_cons, List.flatten_cons]
        rw [show Int.ofNat a = (a : Int) from rfl, uP_nat g2, List.append_assoc, ← g3]
        exact g1
      · rcases List.mem_cons.1 hy with rfl | hy
        · exact g2
        · exact g4 y hy
    · exfalso
      rw [tkU_st n q] at h
      exact q h
def gi (l : List Nat) (k : Nat) : Int := ((l.getD k 0 : Nat) : Int)
/-- One span off a reader. -/
def tkSp (e : Int) (l : List Nat) : Spn × Int × List Nat :=
  let u := tkU 5 e l
  let v := txt 24 u.2.1 u.2.2
  let o := txt 24 v.2.1 v.2.2
  let j := txt 64 o.2.1 o.2.2
  let a := tkAs j.2.1 j.2.2
  (⟨gi u.1 0, gi u.1 1, gi u.1 2, bs v.1, bs o.1, gi u.1 3, gi u.1 4, bs j.1, a.1⟩, a.2)
theorem tP_bs {x : List Nat} (hb : Byt x) (h : (x.length : Int) ≤ 64) : (tP (bs x)).1 = Dig.enc x.length ++ x := by
  unfold tP
  rw [if_pos (by rw [bs_size]; omega), bs_size, sb_bs hb]
theorem list5 {l : List Nat} (h : l.length = 5) : l.map Int.ofNat = [gi l 0, gi l 1, gi l 2, gi l 3, gi l 4] := by
  match l, h with
  | [a, b, c, d, e], _ => rfl
theorem list3 {l : List Nat} (h : l.length = 3) : l.map Int.ofNat = [gi l 0, gi l 1, gi l 2] := by
  match l, h with
  | [a, b, c], _ => rfl
theorem tkAs_st {e : Int} (he : e ≠ 0) (l : List Nat) : (tkAs e l).2.1 ≠ 0 := by
  have h2 : (tkLs e l).2.1 = e := by
    unfold tkLs
    rw [nb_st he]
    simp only
    rw [if_neg (by omega)]
    rfl
  intro h
  unfold tkAs at h
  rw [h2] at h
  split at h
  · rename_i h1
    exact he (fail_zero h1).1
  · rename_i h1
    exact absurd h h1
theorem tkSp_yes {e : Int} {l : List Nat} (hl : Byt l) (h : (tkSp e l).2.1 = 0) : e = 0 ∧ l = spB (tkSp e l).1 ++ (tkSp e l).2.2 := by
  have hu := tkU_yes 5 (e := e) hl
  have hul := tkU_len 5 e l
  have su := fun he => tkU_st 5 (e := e) he l
  unfold tkSp at h ⊢
  simp only at h ⊢
  generalize tkU 5 e l = u at *
  obtain ⟨u, e1, l1⟩ := u
  simp only at h hu hul ⊢
  have hv := fun hl1 => txt_yes (most := 24) (e := e1) (l := l1) hl1
  have sv := fun he => txt_st (most := 24) (e := e1) he l1
  generalize txt 24 e1 l1 = v at *
  obtain ⟨v, e2, l2⟩ := v
  simp only at h hv sv ⊢
  have ho := fun hl1 => txt_yes (most := 24) (e := e2) (l := l2) hl1
  have so := fun he => txt_st (most := 24) (e := e2) he l2
  generalize txt 24 e2 l2 = o at *
  obtain ⟨o, e3, l3⟩ := o
  simp only at h ho so ⊢
  have hj := fun hl1 => txt_yes (most := 64) (e := e3) (l := l3) hl1
  have sj := fun he => txt_st (most := 64) (e := e3) he l3
  generalize txt 64 e3 l3 = j at *
  obtain ⟨j, e4, l4⟩ := j
  simp only at h hj sj ⊢
  have ha := fun hl1 => tkAs_yes (e := e4) (l := l4) hl1
  have sa := fun he => tkAs_st (e := e4) he l4
  generalize tkAs e4 l4 = a at *
  obtain ⟨a, e5, l5⟩ := a
  simp only at h ha sa ⊢
  have q4 : e4 = 0 := Classical.byContradiction fun q => sa q h
  have q3 : e3 = 0 := Classical.byContradiction fun q => by have := sj q; injection this with _ t; injection t with t _; exact q (t ▸ q4)
  have q2 : e2 = 0 := Classical.byContradiction fun q => by have := so q; injection this with _ t; injection t with t _; exact q (t ▸ q3)
  have q1 : e1 = 0 := Classical.byContradiction fun q => by have := sv q; injection this with _ t; injection t with t _; exact q (t ▸ q2)
  obtain ⟨e0, g1, _⟩ := hu q1
  have b1 : Byt l1 := by rw [g1] at hl; exact byt_suf hl
  obtain ⟨_, g2, n2⟩ := hv b1 q2
  have b2 : Byt l2 := by rw [g2] at b1; exact byt_suf b1
  have c2 : Byt v := by rw [g2] at b1; exact byt_suf (byt_pre b1)
  obtain ⟨_, g3, n3⟩ := ho b2 q3
  have b3 : Byt l3 := by rw [g3] at b2; exact byt_suf b2
  have c3 : Byt o := by rw [g3] at b2; exact byt_suf (byt_pre b2)
  obtain ⟨_, g4, n4⟩ := hj b3 q4
  have b4 : Byt l4 := by rw [g4] at b3; exact byt_suf b3
  have c4 : Byt j := by rw [g4] at b3; exact byt_suf (byt_pre b3)
  obtain ⟨_, _, g5⟩ := ha b4 h
  refine ⟨e0, ?_⟩
  unfold spB sN sT tN
  simp only [List.map_cons, List.map_nil, List.flatten_cons, List.flatten_nil, List.append_nil]
  rw [tP_bs c2 (by omega), tP_bs c3 (by omega), tP_bs c4 n4, ← list5 hul]
  conv => lhs; rw [g1, g2, g3, g4, g5]
  simp only [List.append_assoc]
/-- So many spans off a reader, as long as it tells nothing. -/
def tkSN : Nat → Int → List Nat → List Spn × Int × List Nat
  | 0, e, l => ([], e, l)
  | n + 1, e, l => if e = 0 then ((tkSp e l).1 :: (tkSN n (tkSp e l).2.1 (tkSp e l).2.2).1, (tkSN n (tkSp e l).2.1 (tkSp e l).2.2).2) else ([], e, l)
theorem tkSN_stop (n : Nat) {e : Int} (h : e ≠ 0) (l : List Nat) : tkSN n e l = ([], e, l) := by
  cases n with
  | zero => rfl
  | succ n => simp only [tkSN, if_neg h]
theorem tkSN_len : ∀ (n : Nat) (e : Int) (l : List Nat), (tkSN n e l).1.length ≤ n
  | 0, _, _ => Nat.le_refl _
  | n + 1, e, l => by
    simp only [tkSN]
    split
    · simp only [List.length_cons]
      have := tkSN_len n (tkSp e l).2.1 (tkSp e l).2.2
      omega
    · exact Nat.zero_le _
theorem tkSN_yes : ∀ (n : Nat) {e : Int} {l : List Nat}, Byt l → (tkSN n e l).2.1 = 0 → e = 0 ∧ (tkSN n e l).1.length = n ∧ l = ((tkSN n e l).1.map spB).flatten ++ (tkSN n e l).2.2
  | 0, e, l, hl, h => ⟨h, rfl, rfl⟩
  | n + 1, e, l, hl, h => by
    have hx := tkSp_yes (e := e) hl
    by_cases he : e = 0
    · simp only [tkSN, if_pos he] at h ⊢
      generalize tkSp e l = x at *
      obtain ⟨a, e1, l1⟩ := x
      simp only at h hx ⊢
      by_cases q : e1 = 0
      · obtain ⟨_, g1⟩ := hx q
        have hl1 : Byt l1 := by rw [g1] at hl; exact byt_suf hl
        obtain ⟨_, g2, g3⟩ := tkSN_yes n hl1 h
        refine ⟨he, by simp [g2], ?_⟩
        simp only [List.map_cons, List.flatten_cons, List.append_assoc]
        rw [← g3]
        exact g1
      · rw [tkSN_stop n q] at h
        exact absurd h q
    · rw [tkSN_stop _ he] at h
      exact absurd h he
theorem tkSp_pt (e : Int) (l : List Nat) : (∀ a ∈ (tkSp e l).1.ats, a.lab.p < 4294967296) ∧ (tkSp e l).1.ats.length ≤ 8 := by
  unfold tkSp
  simp only
  generalize txt 64 _ _ = j
  have h := tkLs_ok j.2.1 j.2.2
  unfold tkAs
  split
  · exact h
  · exact ⟨(by intro a ha; cases ha), by simp⟩
theorem tkSN_pt : ∀ (n : Nat) (e : Int) (l : List Nat), ∀ s ∈ (tkSN n e l).1, (∀ a ∈ s.ats, a.lab.p < 4294967296) ∧ s.ats.length ≤ 8
  | 0, _, _, s, hs => by cases hs
  | n + 1, e, l, s, hs => by
    simp only [tkSN] at hs
    split at hs
    · rcases List.mem_cons.1 hs with rfl | hs
      · exact tkSp_pt e l
      · exact tkSN_pt n _ _ s hs
    · cases hs
/-- A batch's numbers and spans, the error, what is left. -/
def tkB (l : List Nat) : Bat × Int × List Nat :=
  let u := tkU 3 0 l
  let s := tkSN (u.1.getD 2 0) u.2.1 u.2.2
  (⟨gi u.1 0, gi u.1 1, s.1⟩, s.2)
def noBat : Bat := ⟨0, 0, []⟩
open Classical in
/-- What both Parses answer. -/
noncomputable def prB (l : List Nat) : Bat × Int := if (tkU 3 0 l).1.getD 2 0 ≤ 16 ∧ (tkB l).2.1 = 0 ∧ (tkB l).2.2 = [] ∧ OkB (tkB l).1 then ((tkB l).1, 0) else (noBat, 90)
theorem tkB_yes {l : List Nat} (hl : Byt l) (h : (tkB l).2.1 = 0) : l = btB (tkB l).1 ++ (tkB l).2.2 := by
  have hu := tkU_yes 3 (e := 0) hl
  have hul := tkU_len 3 0 l
  unfold tkB at h ⊢
  simp only at h ⊢
  generalize tkU 3 0 l = u at *
  obtain ⟨u, e1, l1⟩ := u
  simp only at h hu hul ⊢
  have hs := fun hl1 => tkSN_yes (u.getD 2 0) (e := e1) (l := l1) hl1
  have ss := fun he => tkSN_stop (u.getD 2 0) (e := e1) he l1
  have q1 : e1 = 0 := Classical.byContradiction fun q => by have := ss q; rw [this] at h; exact q h
  generalize tkSN (u.getD 2 0) e1 l1 = s at *
  obtain ⟨s, e2, l2⟩ := s
  simp only at h hs ⊢
  obtain ⟨_, g1, _⟩ := hu q1
  have b1 : Byt l1 := by rw [g1] at hl; exact byt_suf hl
  obtain ⟨_, g2, g3⟩ := hs b1 h
  unfold btB
  simp only
  rw [g2, show ((u.getD 2 0 : Nat) : Int) = gi u 2 from rfl, show [gi u 0, gi u 1, gi u 2] = u.map Int.ofNat from (list3 hul).symm, List.append_assoc, ← g3]
  exact g1
end Go.Proofs.Ytbhfbpaaghpadaa
