/- What was written is read unchanged: values, labels, attributes, lists. Plain lists, no conditions. -/
import Derived.Test.YtmnabhennibddaaGD31
import Derived.Test.YtmnabhennibddaaGD27
set_option linter.unusedSimpArgs false
set_option linter.unusedVariables false
namespace Go.Proofs.Ytmnabhennibddaa
open Go.RowKit

theorem nbv_enc {most : Nat} (n : Nat) (h : n < 72057594037927936) (hm : n ≤ most) (l : List Nat) : nb most 0 (Dig.enc n ++ l) = (n, 0, l) := by
  unfold nb
  rw [if_neg (by simp), Dig.num1_enc most n h hm l]
  rfl
theorem txt_to (most : Int) (s m : List Nat) (hs : s.length ≤ 65535) (hm : (s.length : Int) ≤ most) : txt most 0 (Dig.enc s.length ++ s ++ m) = (s, 0, m) := by
  unfold txt
  rw [List.append_assoc, nbv_enc _ (by omega) (by omega)]
  simp only
  rw [if_neg (by omega)]
  unfold tk
  rw [if_neg (by simp), if_neg (by omega), if_neg (by rw [List.length_append]; omega), Int.toNat_natCast]
  simp
theorem rawV_to {x : Val} (h : chkV x = 0) (m : List Nat) : rawV 0 ((vb x).1 ++ m) = (x, 0, m) := by
  have hb : (vb x).1 = Dig.enc x.k.toNat ++ vp x := by unfold vb; rw [if_pos h]
  rw [hb, List.append_assoc]
  obtain ⟨k, n, b⟩ := x
  have q1 : ¬ ((2 : Nat) = 1) := by decide
  have q2 : ¬ ((3 : Nat) = 1) := by decide
  have q3 : ¬ ((3 : Nat) = 2) := by decide
  rcases chk_cases h with ⟨h1, h2, h3, h4⟩ | ⟨h1, h2, h3⟩ | ⟨h1, h2, h3⟩
  · simp only at h1 h2 h3 h4
    subst h1 h4
    have hz := zig_le n h2 h3
    rw [show vp ⟨1, n, ⟨#[]⟩⟩ = Dig.enc (zig n) from by unfold vp; simp]
    unfold rawV
    simp only [show (1 : Int).toNat = 1 from rfl]
    rw [nbv_enc _ (by omega) (by omega)]
    simp only [if_true]
    rw [nbv_enc _ (by omega) (by omega)]
    simp only [zag_zig]
  · simp only at h1 h2 h3
    subst h1 h2
    rw [show vp ⟨2, 0, b⟩ = Dig.enc b.size ++ sb b from by unfold vp; simp]
    unfold rawV
    simp only [show (2 : Int).toNat = 2 from rfl]
    rw [nbv_enc _ (by omega) (by omega)]
    simp only [q1, if_false, if_true]
    rw [← sb_length b, txt_to 64 (sb b) m (by rw [sb_length]; omega) (by rw [sb_length]; omega)]
    simp only [bs_sb]
  · simp only at h1 h2 h3
    subst h1 h3
    rw [show vp ⟨3, n, ⟨#[]⟩⟩ = Dig.enc n.toNat from by unfold vp; simp]
    unfold rawV
    simp only [show (3 : Int).toNat = 3 from rfl]
    rw [nbv_enc _ (by omega) (by omega)]
    simp only [q2, q3, if_false, if_true]
    rw [nbv_enc _ (by omega) (by omega)]
    simp only
    rw [Int.toNat_of_nonneg (by omega)]
theorem tkV_to {x : Val} (h : chkV x = 0) (m : List Nat) : tkV 0 ((vb x).1 ++ m) = (x, 0, m) := by
  unfold tkV
  rw [rawV_to h]
  simp only [h]
  rw [if_pos (by decide)]
theorem tkL_to {x : Lab} (h : chkL x = 0) (hp : x.p < 4294967296) (m : List Nat) : tkL 0 ((lb x).1 ++ m) = (x, 0, m) := by
  have hb : (lb x).1 = Dig.enc x.l.toNat ++ Dig.enc x.p := by unfold lb; rw [if_pos h]
  rw [hb, List.append_assoc]
  rcases chkL_cases x with ⟨_, h1, h2⟩ | ⟨h0, _⟩
  · unfold tkL
    rw [nbv_enc _ (by omega) (by omega)]
    simp only
    rw [nbv_enc _ (by omega) (by omega)]
    simp only
    rw [if_neg (show ¬ (7 < x.l.toNat ∨ 4294967295 < x.p) by omega), if_pos rfl, Int.toNat_of_nonneg h1]
  · omega
theorem tkA_to {a : Att} (h : chkA a = 0) (hp : a.lab.p < 4294967296) (m : List Nat) : tkA 0 (ab a ++ m) = (a, 0, m) := by
  obtain ⟨h1, h2, h3⟩ := chkA_yes h
  have hs := nm_size h1
  unfold tkA ab
  have e : (Dig.enc a.name.size ++ sb a.name) ++ ((lb a.lab).1 ++ (vb a.val).1) ++ m = Dig.enc (sb a.name).length ++ sb a.name ++ ((lb a.lab).1 ++ ((vb a.val).1 ++ m)) := by
    rw [sb_length]; simp only [List.append_assoc]
  rw [e, txt_to 24 _ _ (by rw [sb_length]; omega) (by rw [sb_length]; omega)]
  simp only
  rw [tkL_to h2 hp]
  simp only
  rw [tkV_to h3]
  simp only [bs_sb]
theorem tkN_to : ∀ (l : List Att) (m : List Nat), (∀ a ∈ l, chkA a = 0 ∧ a.lab.p < 4294967296) → tkN l.length 0 ((l.map ab).flatten ++ m) = (l, 0, m)
  | [], m, _ => rfl
  | a :: l, m, h => by
    have e : ((a :: l).map ab).flatten ++ m = ab a ++ ((l.map ab).flatten ++ m) := by simp
    rw [e, List.length_cons, tkN, if_pos rfl, tkA_to (h a (by simp)).1 (h a (by simp)).2]
    simp only
    rw [tkN_to l m (fun b hb => h b (List.mem_cons_of_mem _ hb))]
theorem tkAs_to {l : List Att} (h : mayA l = 0) (hp : ∀ a ∈ l, a.lab.p < 4294967296) (m : List Nat) : tkAs 0 (asB l ++ m) = (l, 0, m) := by
  have h8 := (may_yes h).1
  have e : tkLs 0 (asB l ++ m) = (l, 0, m) := by
    unfold tkLs asB
    rw [List.append_assoc, nbv_enc _ (by omega) (by omega)]
    simp only
    rw [if_neg (by omega)]
    exact tkN_to l m (fun a ha => by
      obtain ⟨i, hi, rfl⟩ := List.getElem_of_mem ha
      exact ⟨may_att h hi, hp _ ha⟩)
  unfold tkAs
  rw [e]
  simp only [h]
  rw [if_pos (by decide)]
end Go.Proofs.Ytmnabhennibddaa
