/- Frames, in plain words: what first answers of a frame, and what it says of bytes. No conditions. -/
import Derived.Test.YtmnabhennibddaaGC18
set_option linter.unusedSimpArgs false
set_option linter.unusedVariables false
namespace Go.Proofs.Ytmnabhennibddaa
open Go.RowKit

theorem numP_enc {most k : Nat} (h : k ≤ most) (hm : most ≤ 9007199254740991) (l : List Nat) : numP most (Dig.enc k ++ l) = (k, 0, l) := by
  unfold numP
  rw [nb_enc 9007199254740991 k (by omega) (by omega) l]
  simp only
  rw [if_neg (by simp), if_neg (by simp; omega)]
theorem hd_enc (k : Nat) (b r : List Nat) : Par.frame k b ++ r = Dig.enc k ++ (Dig.enc b.length ++ (b ++ (Crc.row (Crc.on 0 (Par.hd k b)) ++ r))) := by
  unfold Par.frame
  conv => lhs; unfold Par.hd
  simp only [List.append_assoc]
  rfl
theorem fstP_frame {k : Nat} {b : List Nat} (hk : k ≤ 127) (hb : b.length ≤ 65536) (r : List Nat) : fstP (Par.frame k b ++ r) = ((k, b, (Par.frame k b).length), 0) := by
  have hl : (Par.frame k b ++ r).length = (Dig.enc k).length + ((Dig.enc b.length).length + (b.length + (4 + r.length))) := by
    rw [hd_enc]
    simp only [List.length_append, crc_row_length]
  have hH : (Par.hd k b).length = (Dig.enc k).length + ((Dig.enc b.length).length + b.length) := by
    unfold Par.hd
    simp only [List.length_append]
  unfold fstP
  have e1 : numP 127 (Par.frame k b ++ r) = (k, 0, Dig.enc b.length ++ (b ++ (Crc.row (Crc.on 0 (Par.hd k b)) ++ r))) := by
    rw [hd_enc]; exact numP_enc hk (by omega) _
  rw [e1]
  simp only [if_true]
  unfold fstQ
  rw [numP_enc hb (by omega)]
  simp only [if_true]
  unfold fstR
  have hm : (b ++ (Crc.row (Crc.on 0 (Par.hd k b)) ++ r)).length = b.length + (4 + r.length) := by simp only [List.length_append, crc_row_length]
  rw [if_neg (by rw [hm]; omega)]
  have hc : (Par.frame k b ++ r).length - (b ++ (Crc.row (Crc.on 0 (Par.hd k b)) ++ r)).length + b.length = (Par.hd k b).length := by
    rw [hl, hm, hH]; omega
  rw [hc]
  have ht : (Par.frame k b ++ r).take (Par.hd k b).length = Par.hd k b := by
    unfold Par.frame
    rw [List.append_assoc, List.take_left]
  have hd' : (Par.frame k b ++ r).drop (Par.hd k b).length = Crc.row (Crc.on 0 (Par.hd k b)) ++ r := by
    unfold Par.frame
    rw [List.append_assoc, List.drop_left]
  rw [ht, hd', if_pos (by rw [← crc_row_length (Crc.on 0 (Par.hd k b)), List.take_left])]
  rw [List.take_left]
  have : (Par.frame k b).length = (Par.hd k b).length + 4 := by unfold Par.frame; rw [List.length_append, crc_row_length]
  rw [this]
theorem fstP_no (l : List Nat) (h : (fstP l).2 ≠ 0) : (fstP l).1 = (0, [], 0) ∧ ((fstP l).2 = 3 ∨ (fstP l).2 = 30) := by
  have hnum : ∀ most m, (numP most m).2.1 = 0 ∨ (numP most m).2.1 = 3 ∨ (numP most m).2.1 = 30 := by
    intro most m
    unfold numP
    split
    · exact .inr (.inl rfl)
    · split
      · exact .inr (.inr rfl)
      · exact .inl rfl
  unfold fstP at h ⊢
  split at h
  · rename_i h1
    rw [if_pos h1] at *
    unfold fstQ at h ⊢
    split at h
    · rename_i h2
      rw [if_pos h2] at *
      unfold fstR at h ⊢
      split at h
      · rename_i h3
        rw [if_pos h3]
        exact ⟨rfl, .inl rfl⟩
      · rename_i h3
        split at h
        · exact absurd rfl h
        · rename_i h4
          rw [if_neg h3, if_neg h4]
          exact ⟨rfl, .inr rfl⟩
    · rename_i h2
      rw [if_neg h2]
      exact ⟨rfl, by simpa [h2] using (hnum 65536 (numP 127 l).2.2).resolve_left h2⟩
  · rename_i h1
    rw [if_neg h1]
    exact ⟨rfl, by simpa [h1] using (hnum 127 l).resolve_left h1⟩
theorem fstP_ok {l : List Nat} (hl : Byt l) (h : (fstP l).2 = 0) :
    l = Par.frame (fstP l).1.1 (fstP l).1.2.1 ++ l.drop (fstP l).1.2.2 ∧ (fstP l).1.1 ≤ 127 ∧ (fstP l).1.2.1.length ≤ 65536 ∧ (fstP l).1.2.2 = (Par.frame (fstP l).1.1 (fstP l).1.2.1).length := by
  have k1 := numP_ok (most := 127) hl
  unfold fstP at h ⊢
  split at h
  · rename_i h1
    obtain ⟨e1, b1⟩ := k1 h1
    rw [if_pos h1] at *
    have hl2 : Byt (numP 127 l).2.2 := by
      intro x hx
      rw [e1] at hl
      exact hl x (List.mem_append_right _ hx)
    have k2 := numP_ok (most := 65536) hl2
    unfold fstQ at h ⊢
    split at h
    · rename_i h2
      obtain ⟨e2, b2⟩ := k2 h2
      rw [if_pos h2] at *
      generalize (numP 127 l).1 = k at *
      generalize (numP 127 l).2.2 = m at *
      generalize (numP 65536 m).1 = n at *
      generalize (numP 65536 m).2.2 = m2 at *
      unfold fstR at h ⊢
      split at h
      · simp at h
      · rename_i h3
        split at h
        · rename_i h4
          rw [if_neg h3, if_pos h4]
          simp only
          have hlen : (m2.take n).length = n := by rw [List.length_take]; omega
          have hLl : l.length = (Dig.enc k).length + (Dig.enc n).length + m2.length := by rw [e1, e2]; simp only [List.length_append]; omega
          have hH : l.length - m2.length = (Dig.enc k).length + (Dig.enc n).length := by omega
          have hhd : l.take (l.length - m2.length + n) = Par.hd k (m2.take n) := by
            unfold Par.hd
            rw [hlen, hH]
            conv => lhs; rw [e1, e2, ← List.append_assoc]
            rw [List.take_append, List.take_of_length_le (by simp only [List.length_append]; omega)]
            simp only [List.length_append, List.append_assoc]
            rw [Nat.add_sub_cancel_left]
          have hfl : (Par.frame k (m2.take n)).length = l.length - m2.length + n + 4 := by
            unfold Par.frame
            rw [List.length_append, crc_row_length, ← hhd, List.length_take]
            omega
          rw [hhd] at h4
          refine ⟨?_, b1, by rw [hlen]; exact b2, hfl.symm⟩
          have hfr : Par.frame k (m2.take n) = l.take (l.length - m2.length + n + 4) := by
            unfold Par.frame
            rw [← h4, ← hhd, ← List.take_add]
          rw [hfr, List.take_append_drop]
        · simp at h
    · rename_i h2
      exact absurd h h2
  · rename_i h1
    exact absurd h h1
end Go.Proofs.Ytmnabhennibddaa
