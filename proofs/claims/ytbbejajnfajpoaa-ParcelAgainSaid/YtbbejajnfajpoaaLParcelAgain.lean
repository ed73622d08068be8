/- The walk of the law ParcelAgain. No conditions. -/
import Derived.Test.YtbbejajnfajpoaaPW
import Derived.Test.YtbbejajnfajpoaaApp
import Derived.Test.YtbbejajnfajpoaaRow
set_option linter.unusedSimpArgs false
set_option linter.unusedVariables false
namespace Go.Proofs.Ytbbejajnfajpoaa
open Go.RowKit

theorem nxP_ok {l : List Nat} (hl : Byt l) (h : (nxP l).2.2.2 = 0) :
    l = Par.frame (nxP l).1 (nxP l).2.1 ++ (nxP l).2.2.1 ∧ (nxP l).1 ≤ 127 ∧ (nxP l).2.1.length ≤ 65536 := by
  unfold nxP at h ⊢
  split at h
  · rename_i h1
    rw [if_pos h1]
    have := fstP_ok hl h1
    exact ⟨this.1, this.2.1, this.2.2.1⟩
  · rename_i h1
    exact absurd h h1
theorem nxP_no {l : List Nat} (h : (nxP l).2.2.2 ≠ 0) : nxP l = (0, [], [], 3) ∨ nxP l = (0, [], [], 30) := by
  unfold nxP at h ⊢
  split at h
  · exact absurd rfl h
  · rename_i h1
    rw [if_neg h1]
    rcases (fstP_no l h1).2 with e | e <;> rw [e]
    · exact .inl rfl
    · exact .inr rfl

set_option maxHeartbeats 8000000 in
set_option maxRecDepth 100000 in
theorem parcelAgain_walk (A : Option Addr) (c : Nat) (l : List Nat) (w : World) (hA : BS w A l.length c l) :
    Calls Try.prog 5 #[.slice A l.length c] w fun e w' => e = .returned (.bool true) ∧ Below w.heap.size w w' := by
  have hok := nxP_ok hA.byt
  have hno := nxP_no (l := l)
  have hby := nxP_byt hA.byt
  have HN := Lib.hid (fun w (h : BS w A l.length c l) => next_any h)
  have hlim := hA.lim
  have HL := Lib.hid hA
  have HN0 := HN.out
  clear HN hA
  generalize nxP l = x at *
  obtain ⟨k, b, t, e⟩ := x
  simp only at hok hno hby HN0
  have HN := Lib.hid HN0
  have HOK := Lib.hid hok
  have HNO := Lib.hid hno
  have HBY := Lib.hid hby
  clear HN0 hok hno hby
  generalize hn : l.length = n at *
  have HLN := Lib.hid hn
  clear hn
  go_enter Try.func5, Try.ntmps5
  go_wp2_with fail
  refine (works03_any _).mono ?_
  rintro r w1 ⟨rfl, hb1⟩
  go_wp2_with fail
  refine (HN.out _ (HL.out.below hb1)).mono ?_
  intro r w2 hh
  obtain ⟨A1, n1, c1, A2, n2, c2, rfl, hs1, hs2, _, _, hb2⟩ := hh.open HBY.out.1 (by have := HBY.out; omega) HBY.out.2.1 (by have := HBY.out; omega)
  have hb12 := nx hb1 hb2
  clear hh
  by_cases h0 : e = 0
  · subst h0
    obtain ⟨hl, hk, hbl⟩ := HOK.out rfl
    have S1 := Lib.hid hs1
    have S2 := Lib.hid hs2
    have HF : Par.pk (k : Int) b = (Par.frame k b, 0) := by
      unfold Par.pk
      rw [if_neg (by omega), if_neg (by omega), Int.toNat_natCast]
    have hfy : Byt (Par.frame k b) := par_frame_byt (by omega) (by omega) HBY.out.1
    have hfl : (Par.frame k b).length ≤ 65556 := by rw [par_frame_length]; have := Dig.sz_le k; have := Dig.sz_le b.length; omega
    have htl : t.length ≤ n := HBY.out.2.2.2
    have HFY := Lib.hid hfy
    have HFL := Lib.hid hfl
    have HLL := Lib.hid hl
    have PK := Lib.hid (pack_any (k : Int) A1 n1 c1 b w2 S1.out)
    rw [HF] at PK
    have hsum : (Par.frame k b).length + t.length ≤ 140737488354304 := by have := congrArg List.length hl; rw [List.length_append, HLN.out] at this; omega
    have HSUM := Lib.hid hsum
    clear hl hs1 hs2 HF hfy hfl hsum
    go_wp2_with fail
    refine PK.out.mono ?_
    rintro r w3 ⟨v, rfl, ho, hb3⟩
    have O3 := Lib.hid ho
    have S23 := Lib.hid (S2.out.below hb3)
    have hb13 := nx hb12 hb3
    have hw2 := hb12.size
    clear ho
    go_wp2_with (at_builtin; refine append_bytes_g (by rfl) (.tmp 47) (.tmp 48) rfl w2.heap.size v (Par.frame k b) t rfl O3.out A2 _ c2 rfl S23.out (by have := HSUM.out; omega) hb3.size ?_; intro v4 w4 ho4 hg4 _)
    have hb4 := hb3.grown hg4 hb3.size (own_block O3.out)
    obtain ⟨A4, n4, c4, rfl, h4, _⟩ := ownsRow_bs ho4 (HFY.out.append HBY.out.2.1) (by rw [List.length_append]; exact HSUM.out)
    rw [← HLL.out] at h4
    have H4 := Lib.hid h4
    clear ho4 hg4 h4
    go_wp2_with fail
    refine (eqBytes_any A4 A n4 c4 n c l l _ H4.out (HL.out.below (nx hb12 hb4))).mono ?_
    rintro r w5 ⟨rfl, hb5⟩
    rw [show decide (l = l) = true from decide_eq_true rfl]
    go_wp2_with fail
    go_ret
    exact ⟨rfl, nx (nx hb12 hb4) hb5⟩
  · have h0' : (e != 0) = true := by simp; exact h0
    rcases HNO.out h0 with h | h
    · injection h with e1 e2
      injection e2 with e2 e3
      injection e3 with e3 e4
      subst e1 e2 e3 e4
      obtain rfl : n1 = 0 := hs1.len
      obtain rfl : n2 = 0 := hs2.len
      clear hs1 hs2
      go_wp2_with fail
      go_ret
      exact ⟨rfl, hb12⟩
    · injection h with e1 e2
      injection e2 with e2 e3
      injection e3 with e3 e4
      subst e1 e2 e3 e4
      obtain rfl : n1 = 0 := hs1.len
      obtain rfl : n2 = 0 := hs2.len
      clear hs1 hs2
      go_wp2_with fail
      go_ret
      exact ⟨rfl, hb12⟩
end Go.Proofs.Ytbbejajnfajpoaa
