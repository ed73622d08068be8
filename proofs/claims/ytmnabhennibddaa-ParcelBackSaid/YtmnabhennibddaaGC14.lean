/- parcel.Pack and the document's Pack: their contracts. No conditions. -/
import Derived.Test.YtmnabhennibddaaGC08
import Derived.Test.YtmnabhennibddaaGC09
import Derived.Test.YtmnabhennibddaaGC13
set_option linter.unusedSimpArgs false
set_option linter.unusedVariables false
namespace Go.Proofs.Ytmnabhennibddaa
open Go.RowKit

namespace Par
/-- A frame without its sum. -/
def hd (k : Nat) (l : List Nat) : List Nat := Dig.enc k ++ (Dig.enc l.length ++ l)
/-- A frame. -/
def frame (k : Nat) (l : List Nat) : List Nat := hd k l ++ Crc.row (Crc.on 0 (hd k l))
/-- What Pack answers. -/
def pk (kind : Int) (l : List Nat) : List Nat × Int :=
  if kind < 0 ∨ 127 < kind then ([], 2) else if 65536 < l.length then ([], 5) else (frame kind.toNat l, 0)
theorem sz1 {k : Nat} (h : k < 128) : Dig.sz k = 1 := by unfold Dig.sz; rw [if_pos h]
theorem sz3 {k : Nat} (h : k ≤ 65536) : Dig.sz k ≤ 3 := by unfold Dig.sz; (repeat' split) <;> omega
theorem length_hd (k : Nat) (l : List Nat) : (hd k l).length = Dig.sz k + Dig.sz l.length + l.length := by
  unfold hd
  rw [List.length_append, List.length_append, Dig.length_enc, Dig.length_enc]; omega
theorem hd_byt {k : Nat} {l : List Nat} (hk : k < 72057594037927936) (hl : l.length < 72057594037927936) (h : Byt l) : Byt (hd k l) :=
  Byt.append (Dig.enc_byt k hk) (Byt.append (Dig.enc_byt _ hl) h)
end Par
theorem crc_row_byt (s : Nat) : Byt (Crc.row s) := by
  intro x hx
  simp only [Crc.row, List.mem_cons, List.not_mem_nil, or_false] at hx
  rcases hx with rfl | rfl | rfl | rfl <;> omega
theorem crc_row_length (s : Nat) : (Crc.row s).length = 4 := rfl
theorem par_frame_length (k : Nat) (l : List Nat) : (Par.frame k l).length = Dig.sz k + Dig.sz l.length + l.length + 4 := by
  unfold Par.frame
  rw [List.length_append, Par.length_hd, crc_row_length]
theorem par_frame_byt {k : Nat} {l : List Nat} (hk : k < 72057594037927936) (hl : l.length < 72057594037927936) (h : Byt l) : Byt (Par.frame k l) :=
  Byt.append (Par.hd_byt hk hl h) (crc_row_byt _)
theorem pk_ok {kind : Int} {l : List Nat} (h : Byt l) : Byt (Par.pk kind l).1 ∧ (Par.pk kind l).1.length ≤ 65556 := by
  unfold Par.pk
  split
  · exact ⟨(by intro x hx; cases hx), by simp⟩
  · split
    · exact ⟨(by intro x hx; cases hx), by simp⟩
    · rename_i h1 h2
      refine ⟨par_frame_byt (by omega) (by omega) h, ?_⟩
      simp only
      rw [par_frame_length]
      have := Dig.sz_le kind.toNat
      have := Dig.sz_le l.length
      omega

set_option maxHeartbeats 4000000 in
set_option maxRecDepth 100000 in
theorem pack_any (kind : Int) (A : Option Addr) (n c : Nat) (l : List Nat) (w : World) (h : BS w A n c l) :
    Calls Try.prog 17 #[.int .i64 kind, .slice A n c] w fun e w' => TwoB w w' e (Par.pk kind l).1 (Par.pk kind l).2 := by
  unfold Par.pk
  obtain rfl := h.len
  by_cases h1 : kind < 0
  · rw [if_pos (.inl h1)]
    go_enter Try.func17, Try.ntmps17
    go_wp2
    go_ret2
    exact two_no ⟨rfl, rfl⟩
  · by_cases h2 : 127 < kind
    · rw [if_pos (.inr h2)]
      go_enter Try.func17, Try.ntmps17
      go_wp2
      go_ret2
      exact two_no ⟨rfl, rfl⟩
    · rw [if_neg (by omega)]
      by_cases h3 : 65536 < l.length
      · rw [if_pos h3]
        have h3' : (65536 : Int) < (l.length : Int) := by omega
        go_enter Try.func17, Try.ntmps17
        go_wp2
        go_ret2
        exact two_no ⟨rfl, rfl⟩
      · rw [if_neg h3]
        have h3' : ¬ (65536 : Int) < (l.length : Int) := by omega
        have HL := Lib.hid h
        clear h
        have y1 : Byt (Dig.enc kind.toNat) := Dig.enc_byt _ (by omega)
        have y2 : Byt (Dig.enc l.length) := Dig.enc_byt _ (by omega)
        have z1 : (Dig.enc kind.toNat).length ≤ 8 := by rw [Dig.length_enc]; exact Dig.sz_le _
        have z2 : (Dig.enc l.length).length ≤ 8 := by rw [Dig.length_enc]; exact Dig.sz_le _
        have U2 := Lib.hid (U_any (l.length : Int))
        have HF := Lib.hid (show [Dig.enc kind.toNat, Dig.enc l.length, l].flatten = Par.hd kind.toNat l by simp [Par.hd])
        have HFL := Lib.hid (Par.length_hd kind.toNat l)
        have HS1 := Lib.hid (Dig.sz_le kind.toNat)
        have HS2 := Lib.hid (Dig.sz_le l.length)
        have HY := Lib.hid (Par.hd_byt (k := kind.toNat) (l := l) (by omega) (by omega) HL.out.byt)
        have HFR : Hid (Par.frame kind.toNat l = Par.hd kind.toNat l ++ Crc.row (Crc.on 0 (Par.hd kind.toNat l))) := Lib.hid rfl
        have Y1 := Lib.hid y1
        have Y2 := Lib.hid y2
        have Z1 := Lib.hid z1
        have Z2 := Lib.hid z2
        clear y1 y2 z1 z2
        rw [Int.toNat_natCast] at U2
        go_enter Try.func17, Try.ntmps17
        go_wp2_with fail
        refine (U_any kind _ (by omega) (by omega)).mono ?_
        intro e w1 hh
        obtain ⟨A1, n1, c1, rfl, hB, hb1⟩ := hh.open Y1.out (by have := Z1.out; omega)
        have B1 := Lib.hid hB
        clear hh hB
        go_wp2_with fail
        refine (U2.out _ (by omega) (by omega)).mono ?_
        intro e w2 hh
        obtain ⟨A2, n2, c2, rfl, hB, hb2⟩ := hh.open Y2.out (by have := Z2.out; omega)
        have B2 := Lib.hid hB
        clear hh hB
        have hb12 := nx hb1 hb2
        have hP : Parts (w2.alloc (.cells #[.slice A1 n1 c1, .slice A2 n2 c2, .slice A l.length c] 22)) w2.heap.size [Dig.enc kind.toNat, Dig.enc l.length, l] := by
          refine ⟨⟨_, _, _, heap_alloc_new w2 _⟩, fun i hi => ?_⟩
          rw [cell_of (heap_alloc_new w2 _) i]
          match i, hi with
          | 0, _ => exact ⟨_, _, _, rfl, (B1.out.below hb2).newBlock _⟩
          | 1, _ => exact ⟨_, _, _, rfl, B2.out.newBlock _⟩
          | 2, _ => exact ⟨_, _, _, rfl, (HL.out.below hb12).newBlock _⟩
        have HP := Lib.hid hP
        clear hP
        go_wp2_with fail
        refine (concat_any HP.out (by rw [HF.out, HFL.out]; have := HS1.out; have := HS2.out; omega) (by simp)).mono ?_
        rintro e w3 ⟨v, rfl, ho, hb3⟩
        rw [HF.out] at ho
        obtain ⟨A3, n3, c3, rfl, hB, _⟩ := ownsRow_bs ho HY.out (by rw [HFL.out]; have := HS1.out; have := HS2.out; omega)
        have B3 := Lib.hid hB
        have HO3 := Lib.hid ho
        have hb13 := nxA hb12 hb3
        have hs3 : (Par.hd kind.toNat l).length ≤ 65552 := by rw [HFL.out]; have := HS1.out; have := HS2.out; omega
        have HS3 := Lib.hid hs3
        have hnn : w.heap.size ≤ (w2.alloc (.cells #[.slice A1 n1 c1, .slice A2 n2 c2, .slice A l.length c] 22)).heap.size := by
          have := hb12.size
          simp
          omega
        have HNN := Lib.hid hnn
        clear ho hB hs3 hnn
        go_wp2_with fail
        refine (of_any A3 n3 c3 _ _ B3.out).mono ?_
        rintro e w4 ⟨rfl, hb4⟩
        have hlt := Crc.on_lt 0 (Par.hd kind.toNat l)
        have HLT := Lib.hid hlt
        clear hlt
        go_wp2_with fail
        refine (row_any _ HLT.out _).mono ?_
        rintro e w5 ⟨v, rfl, ho, hb5⟩
        obtain ⟨A5, n5, c5, rfl, hB, _⟩ := ownsRow_bs ho (crc_row_byt _) (by rw [crc_row_length]; omega)
        have B5 := Lib.hid hB
        have HO5 := Lib.hid (ownsRow_below (HO3.out) (nx hb4 hb5))
        have hb15 := nx (nx hb13 hb4) hb5
        clear ho hB
        go_wp2_with (at_builtin; refine append_bytes rfl _ _ rfl w.heap.size _ (Par.hd kind.toNat l) (Crc.row (Crc.on 0 (Par.hd kind.toNat l))) rfl (ownsRow_base HO5.out HNN.out) A5 _ c5 rfl B5.out (by rw [crc_row_length]; have := HS3.out; omega) hb15.size ?_; intro v' w6 ho hg hv)
        have hb16 := hb15.grown hg hb15.size (own_block (ownsRow_base HO5.out HNN.out))
        have HO6 := Lib.hid ho
        clear ho hg hv
        go_wp2_with fail
        go_ret2
        exact ⟨_, rfl, by rw [HFR.out]; exact HO6.out, hb16⟩
end Go.Proofs.Ytmnabhennibddaa
