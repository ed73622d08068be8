/- The document's Pack: its contract. No conditions. -/
import Derived.Test.YtbbejajnfajpoaaPk
set_option linter.unusedSimpArgs false
set_option linter.unusedVariables false
namespace Go.Proofs.Ytbbejajnfajpoaa
open Go.RowKit

set_option maxHeartbeats 4000000 in
set_option maxRecDepth 100000 in
theorem refPack_any (kind : Int) (A : Option Addr) (n c : Nat) (l : List Nat) (w : World) (h : BS w A n c l) :
    Calls Try.prog 35 #[.int .i64 kind, .slice A n c] w fun e w' => TwoB w w' e (Par.pk kind l).1 (Par.pk kind l).2 := by
  unfold Par.pk
  obtain rfl := h.len
  by_cases h1 : kind < 0
  · rw [if_pos (.inl h1)]
    go_enter Try.func35, Try.ntmps35
    go_wp2
    go_ret2
    exact two_no ⟨rfl, rfl⟩
  · by_cases h2 : 127 < kind
    · rw [if_pos (.inr h2)]
      go_enter Try.func35, Try.ntmps35
      go_wp2
      go_ret2
      exact two_no ⟨rfl, rfl⟩
    · rw [if_neg (by omega)]
      by_cases h3 : 65536 < l.length
      · rw [if_pos h3]
        have h3' : (65536 : Int) < (l.length : Int) := by omega
        go_enter Try.func35, Try.ntmps35
        go_wp2
        go_ret2
        exact two_no ⟨rfl, rfl⟩
      · rw [if_neg h3]
        have h3' : ¬ (65536 : Int) < (l.length : Int) := by omega
        have HL := Lib.hid h
        clear h
        have y2 : Byt (Dig.enc l.length) := Dig.enc_byt _ (by omega)
        have z1 : (Dig.enc kind.toNat).length ≤ 8 := by rw [Dig.length_enc]; exact Dig.sz_le _
        have z2 : (Dig.enc l.length).length ≤ 8 := by rw [Dig.length_enc]; exact Dig.sz_le _
        have U2 := Lib.hid (refU_any (l.length : Int))
        have HF := Lib.hid (show (Dig.enc kind.toNat ++ Dig.enc l.length) ++ l = Par.hd kind.toNat l by simp [Par.hd])
        have HFL := Lib.hid (Par.length_hd kind.toNat l)
        have HS1 := Lib.hid (Dig.sz_le kind.toNat)
        have HS2 := Lib.hid (Dig.sz_le l.length)
        have HY := Lib.hid (Par.hd_byt (k := kind.toNat) (l := l) (by omega) (by omega) HL.out.byt)
        have HFR : Hid (Par.frame kind.toNat l = Par.hd kind.toNat l ++ Crc.row (Crc.on 0 (Par.hd kind.toNat l))) := Lib.hid rfl
        have hs3 : (Par.hd kind.toNat l).length ≤ 65552 := by rw [HFL.out]; have := HS1.out; have := HS2.out; omega
        have HS3 := Lib.hid hs3
        have Y2 := Lib.hid y2
        have Z1 := Lib.hid z1
        have Z2 := Lib.hid z2
        clear y2 z1 z2 hs3
        rw [Int.toNat_natCast] at U2
        go_enter Try.func35, Try.ntmps35
        go_wp2_with fail
        refine (refU_any kind _ (by omega) (by omega)).mono ?_
        rintro e w1 ⟨v1, rfl, ho1, hb1⟩
        have O1 := Lib.hid ho1
        clear ho1
        go_wp2_with fail
        refine (U2.out _ (by omega) (by omega)).mono ?_
        intro e w2 hh
        obtain ⟨A2, n2, c2, rfl, hB, hb2⟩ := hh.open Y2.out (by have := Z2.out; omega)
        have B2 := Lib.hid hB
        have hb12 := nx hb1 hb2
        have O2 := Lib.hid (ownsRow_below O1.out hb2)
        clear hh hB
        go_wp2_with (first
          | (at_builtin; refine append_bytes rfl (.tmp 30) (.tmp 31) rfl w.heap.size v1 (Dig.enc kind.toNat) (Dig.enc l.length) rfl O2.out A2 _ c2 rfl B2.out (by have := Z1.out; have := Z2.out; omega) hb12.size ?_; intro v3 w3 ho3 hg3 _; have hb3 := grown_below hb12 hg3 (own_block O2.out); have HO3 := Lib.hid ho3; clear ho3 hg3)
          | (at_builtin; refine append_bytes rfl (.tmp 32) (.tmp 33) rfl w.heap.size v3 (Dig.enc kind.toNat ++ Dig.enc l.length) l rfl HO3.out A _ c rfl (HL.out.below hb3) (by have := Z1.out; have := Z2.out; rw [List.length_append]; omega) hb3.size ?_; intro v4 w4 ho4 hg4 _; have hb4 := grown_below hb3 hg4 (own_block HO3.out); have HO4 := Lib.hid ho4; clear ho4 hg4))
        rw [HF.out] at HO4
        obtain ⟨A3, n3, c3, rfl, hB, _⟩ := ownsRow_bs HO4.out HY.out (by have := HS3.out; omega)
        have B3 := Lib.hid hB
        clear hB
        go_wp2_with fail
        refine (refOf_any A3 n3 c3 _ _ B3.out).mono ?_
        rintro e w5 ⟨rfl, rfl⟩
        have hlt := Crc.on_lt 0 (Par.hd kind.toNat l)
        have HLT := Lib.hid hlt
        clear hlt
        go_wp2_with fail
        refine (refRow_any _ HLT.out _).mono ?_
        rintro e w5 ⟨v, rfl, ho, hb5⟩
        obtain ⟨A5, n5, c5, rfl, hB, _⟩ := ownsRow_bs ho (crc_row_byt _) (by rw [crc_row_length]; omega)
        have B5 := Lib.hid hB
        have HO5 := Lib.hid (ownsRow_below HO4.out hb5)
        have hb15 := nx hb4 hb5
        clear ho hB
        go_wp2_with (at_builtin; refine append_bytes rfl _ _ rfl w.heap.size _ (Par.hd kind.toNat l) (Crc.row (Crc.on 0 (Par.hd kind.toNat l))) rfl HO5.out A5 _ c5 rfl B5.out (by rw [crc_row_length]; have := HS3.out; omega) hb15.size ?_; intro v' w6 ho hg hv)
        have hb16 := hb15.grown hg hb15.size (own_block HO5.out)
        have HO6 := Lib.hid ho
        clear ho hg hv
        go_wp2_with fail
        go_ret2
        exact ⟨_, rfl, by rw [HFR.out]; exact HO6.out, hb16⟩
end Go.Proofs.Ytbbejajnfajpoaa
