/- Frames one behind the other, whole or cut: what All answers, in plain words. No conditions. -/
import Derived.Test.YtmnabhennibddaaGC22
set_option linter.unusedSimpArgs false
set_option linter.unusedVariables false
namespace Go.Proofs.Ytmnabhennibddaa
open Go.RowKit

theorem num1_cut (most n j : Nat) (h : n < 72057594037927936) (hj : j < (Dig.enc n).length) : Dig.num1 most ((Dig.enc n).take j) = (0, 3, []) := by
  obtain ⟨b, t, he, hb8, _, htl, _, _⟩ := Dig.enc_form n h
  have hk1 := Dig.sz_pos n
  have hk8 := Dig.sz_le n
  rw [Dig.length_enc] at hj
  rw [he]
  cases j with
  | zero => rfl
  | succ j =>
    rw [List.take_succ_cons]
    simp only [Dig.num1]
    rw [(Dig.lead_hdr _ b hk1 hk8 hb8).1, if_neg (by omega), if_pos (by rw [List.length_take]; omega)]
theorem nb_cut (most n j : Nat) (h : n < 72057594037927936) (hj : j < (Dig.enc n).length) : nb most 0 ((Dig.enc n).take j) = (0, 3, []) := by
  unfold nb
  rw [if_neg (by simp), num1_cut most n j h hj]
  rfl
theorem fstP_nil2 : (fstP []).2 = 3 := by decide
theorem numP_cut {most n j : Nat} (h : n < 72057594037927936) (hj : j < (Dig.enc n).length) : (numP most ((Dig.enc n).take j)).2.1 = 3 := by
  unfold numP
  rw [nb_cut _ n j h hj]
  rfl
theorem fstP_cut {k : Nat} {b : List Nat} {j : Nat} (hk : k ≤ 127) (hb : b.length ≤ 65536) (hj : j < (Par.frame k b).length) : (fstP ((Par.frame k b).take j)).2 = 3 := by
  have e0 := hd_enc k b []
  simp only [List.append_nil] at e0
  have hrow : (Crc.row (Crc.on 0 (Par.hd k b))).length = 4 := crc_row_length _
  rw [e0] at hj ⊢
  generalize Crc.row (Crc.on 0 (Par.hd k b)) = row at *
  simp only [List.length_append] at hj
  by_cases h1 : j < (Dig.enc k).length
  · rw [List.take_append_of_le_length (Nat.le_of_lt h1)]
    unfold fstP
    rw [numP_cut (by omega) h1, if_neg (by decide)]
  · have e1 : (Dig.enc k ++ (Dig.enc b.length ++ (b ++ row))).take j = Dig.enc k ++ (Dig.enc b.length ++ (b ++ row)).take (j - (Dig.enc k).length) := by
      rw [List.take_append, List.take_of_length_le (by omega)]
    rw [e1]
    unfold fstP
    rw [numP_enc hk (by omega), if_pos rfl]
    simp only
    obtain ⟨i, hi⟩ : ∃ i, i = j - (Dig.enc k).length := ⟨_, rfl⟩
    rw [← hi]
    unfold fstQ
    by_cases h2 : i < (Dig.enc b.length).length
    · rw [List.take_append_of_le_length (Nat.le_of_lt h2), numP_cut (by omega) h2, if_neg (by decide)]
    · have e2 : (Dig.enc b.length ++ (b ++ row)).take i = Dig.enc b.length ++ (b ++ row).take (i - (Dig.enc b.length).length) := by
        rw [List.take_append, List.take_of_length_le (by omega)]
      rw [e2, numP_enc hb (by omega), if_pos rfl]
      simp only
      unfold fstR
      rw [if_pos (by rw [List.length_take, List.length_append]; omega)]
/-- Frames, one behind the other. -/
def flatF (F : List (Nat × List Nat)) : List Nat := (F.map fun f => Par.frame f.1 f.2).flatten
def OkF (F : List (Nat × List Nat)) : Prop := ∀ f ∈ F, f.1 ≤ 127 ∧ f.2.length ≤ 65536
theorem flatF_snoc (F : List (Nat × List Nat)) (f : Nat × List Nat) : flatF (F ++ [f]) = flatF F ++ Par.frame f.1 f.2 := by unfold flatF; simp
theorem flatF_app (F G : List (Nat × List Nat)) : flatF (F ++ G) = flatF F ++ flatF G := by unfold flatF; simp
theorem allN_flat : ∀ (F : List (Nat × List Nat)) (t : List Nat) (n : Nat), OkF F → (fstP t).2 = 3 → (flatF F ++ t).length < n → allN n (flatF F ++ t) = (F, (flatF F).length, 3)
  | [], t, n, _, ht, hn => by
    obtain ⟨n, rfl⟩ : ∃ j, n = j + 1 := ⟨n - 1, by omega⟩
    show allN (n + 1) t = _
    rw [allN_stop (by rw [ht]; decide), ht]
    rfl
  | (k, b) :: F, t, n, hF, ht, hn => by
    obtain ⟨n, rfl⟩ : ∃ j, n = j + 1 := ⟨n - 1, by omega⟩
    have h1 := hF (k, b) (by simp)
    have e : flatF ((k, b) :: F) ++ t = Par.frame k b ++ (flatF F ++ t) := by unfold flatF; simp [List.append_assoc]
    have hp := frame_pos k b
    rw [e] at hn ⊢
    have hf := fstP_frame h1.1 h1.2 (flatF F ++ t)
    have ih := allN_flat F t n (fun f hf => hF f (List.mem_cons_of_mem _ hf)) ht (by rw [List.length_append] at hn; omega)
    rw [allN_step (by rw [hf]), hf]
    simp only
    rw [List.drop_left, ih]
    simp only [Prod.mk.injEq, true_and, and_true]
    unfold flatF
    simp
/-- What All answers of whole frames, and of cut ones. -/
theorem alP_flat {F : List (Nat × List Nat)} {t : List Nat} (hF : OkF F) (ht : (fstP t).2 = 3) : alP (flatF F ++ t) = (F, t, 0) := by
  have h := allN_flat F t ((flatF F ++ t).length + 1) hF ht (Nat.lt_succ_self _)
  unfold alP
  simp only [h]
  rw [if_neg (by decide), List.drop_left]
theorem alP_whole {F : List (Nat × List Nat)} (hF : OkF F) : alP (flatF F) = (F, [], 0) := by
  have := alP_flat (t := []) hF fstP_nil2
  rwa [List.append_nil] at this
theorem alP_cut {F : List (Nat × List Nat)} (hF : OkF F) {n at' : Nat} (hn : n ≤ F.length) (h1 : (flatF (F.take n)).length ≤ at') (h2 : at' ≤ (flatF F).length) (h3 : ∀ h : n < F.length, at' < (flatF (F.take (n + 1))).length) :
    alP ((flatF F).take at') = (F.take n, ((flatF F).take at').drop (flatF (F.take n)).length, 0) := by
  have e0 : flatF F = flatF (F.take n) ++ flatF (F.drop n) := by rw [← flatF_app, List.take_append_drop]
  have e1 : (flatF F).take at' = flatF (F.take n) ++ (flatF (F.drop n)).take (at' - (flatF (F.take n)).length) := by
    rw [e0, List.take_append, List.take_of_length_le h1]
  have hok : OkF (F.take n) := fun f hf => hF f (List.mem_of_mem_take hf)
  have ht : (fstP ((flatF (F.drop n)).take (at' - (flatF (F.take n)).length))).2 = 3 := by
    by_cases h : n < F.length
    · have e2 : F.drop n = F[n] :: F.drop (n + 1) := List.drop_eq_getElem_cons h
      have h4 := h3 h
      have e3 : F.take (n + 1) = F.take n ++ [F[n]] := List.take_succ_eq_append_getElem h
      rw [e3, flatF_snoc, List.length_append] at h4
      have hk := hF F[n] (List.getElem_mem h)
      have e4 : flatF (F.drop n) = Par.frame F[n].1 F[n].2 ++ flatF (F.drop (n + 1)) := by rw [e2]; rfl
      rw [e4, List.take_append_of_le_length (by omega)]
      exact fstP_cut hk.1 hk.2 (by omega)
    · have : F.drop n = [] := List.drop_eq_nil_of_le (by omega)
      rw [this]
      simpa [flatF] using fstP_nil2
  have := alP_flat hok ht
  rw [← e1] at this
  rw [this, e1, List.drop_left]
end Go.Proofs.Ytmnabhennibddaa
