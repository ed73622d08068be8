/- The works of the parcel statements: its contract. No conditions. -/
import Derived.Test.YtmnabhennibddaaGC20
import Derived.Deep.RegionHeld3
set_option linter.unusedSimpArgs false
set_option linter.unusedVariables false
namespace Go.Proofs.Ytmnabhennibddaa
open Go.RowKit

theorem frame_one : Par.frame 1 [7] = [1, 1, 7] ++ Crc.row (Crc.on 0 [1, 1, 7]) := by decide +kernel
theorem nx_one : nxP ([1, 1, 7] ++ Crc.row (Crc.on 0 [1, 1, 7]) ++ [9]) = (1, [7], [9], 0) := by
  unfold nxP
  rw [← frame_one, fstP_frame (by omega) (by decide)]
  simp only [if_true, List.drop_left]
theorem nx_cut : nxP (([1, 1, 7] ++ Crc.row (Crc.on 0 [1, 1, 7])).take 6) = (0, [], [], 3) := by decide +kernel
theorem nx_bad : nxP [128, 0] = (0, [], [], 30) := by decide +kernel

set_option maxHeartbeats 8000000 in
set_option maxRecDepth 100000 in
theorem works03_any (w : World) : Calls Try.prog 15 #[] w fun e w' => e = .returned (.bool true) ∧ Below w.heap.size w w' := by
  obtain ⟨s, hs⟩ : ∃ s, s = Crc.on 0 [1, 1, 7] := ⟨_, rfl⟩
  have hf := frame_one
  have h1 := nx_one
  have h2 := nx_cut
  rw [← hs] at hf h1 h2
  have HS := Lib.hid hs
  have HF := Lib.hid hf
  have H1 := Lib.hid h1
  have H2 := Lib.hid h2
  have hlt : s < 4294967296 := by rw [hs]; exact Crc.on_lt _ _
  clear hf h1 h2 hs
  go_enter Try.func15, Try.ntmps15
  go_wp2_with fail
  refine (pack_any 1 _ 1 1 [7] _ (BS.alloc _ [7] _ _ (by decide) (by decide))).mono ?_
  rw [show Par.pk 1 [7] = (Par.frame 1 [7], 0) from rfl, HF.out]
  intro e w1 hh
  obtain ⟨A, n, c, rfl, hB, hb1⟩ := hh.open ((show Byt [1, 1, 7] by decide).append (crc_row_byt s)) (by rw [List.length_append, crc_row_length]; decide)
  have hb1' := nxA (bel0 w) hb1
  clear hh hb1
  obtain rfl : n = 7 := hB.len
  have hc7 : 7 ≤ c := hB.le
  have hs1 : ∀ w : World, (Instr.slice 22 (.slice A 7 c) none (some (.int .i64 3)) none).run Try.prog w = .ok (.slice A 3 c) w := fun w => slice_take (k := 3) (by omega)
  have hs2 : ∀ w : World, (Instr.slice 22 (.slice A 7 c) (some (.int .i64 3)) none none).run Try.prog w = .ok (.slice (dropA A c 3) 4 (c - 3)) w := fun w => slice_drop (k := 3) (by omega) hc7
  have hs3 : ∀ w : World, (Instr.slice 22 (.slice A 7 c) none (some (.int .i64 6)) none).run Try.prog w = .ok (.slice A 6 c) w := fun w => slice_take (k := 6) (by omega)
  have K1 := Lib.hid (show BS w1 A 3 c [1, 1, 7] from hB.cutN (k := 3) (by simp))
  have K2 := Lib.hid (show BS w1 (dropA A c 3) 4 (c - 3) (Crc.row s) from hB.dropA (k := 3) (by simp))
  have K3 := Lib.hid (show BS w1 A 6 c (([1, 1, 7] ++ Crc.row s).take 6) from hB.cutN (k := 6) (by simp [Crc.row]))
  have HB := Lib.hid hB
  generalize dropA A c 3 = D at *
  clear hB
  go_wp2_with fail
  go_region_held3 (fun w' => Below w1.heap.size w1 w')
    (first | exact ((bel0 _).alloc (Nat.le_refl _) _).drew | exact (bel0 _).drew | exact nx (by assumption) (by assumption) | exact nxA (by assumption) (by assumption))
    (first
      | (go_at_call 12; (with_reducible refine (eqBytes_any A _ 3 c 3 3 [1, 1, 7] [1, 1, 7] _ (K1.out.below (by assumption)) ((BS.alloc _ [1, 1, 7] _ _ (by decide) (by decide)).below (bel0 _).drew)).mono ?_); rintro e wa ⟨rfl, hba⟩)
      | (go_at_call 36; (with_reducible refine (of_any A 3 c [1, 1, 7] _ (K1.out.below (by assumption))).mono ?_); rintro e wb ⟨rfl, hbb⟩; rw [← HS.out])
      | (go_at_call 35; (with_reducible refine (row_any s hlt _).mono ?_); rintro e wc ⟨u, rfl, hoc, hbc⟩; obtain ⟨A2, n2, c2, rfl, hs5, _⟩ := ownsRow_bs hoc (Crc.row_byt _) (by rw [Crc.length_row]; decide))
      | (go_at_call 12; (with_reducible refine (eqBytes_any D A2 4 (c - 3) n2 c2 _ _ _ (K2.out.below (by assumption)) hs5).mono ?_); rintro e wd ⟨rfl, hbd⟩))
  rename_i hK
  have hb2 := nx hb1' hK
  have HB2 := Lib.hid (HB.out.below hK)
  have K32 := Lib.hid (K3.out.below hK)
  clear K1 K2 K3 HB hs1 hs2 hK
  go_wp2_with fail
  refine (copyBytes_any A 7 c _ _ HB2.out).mono ?_
  rintro e w3 ⟨v, rfl, ho, hb3⟩
  have HO := Lib.hid ho
  have hb3' := nx hb2 hb3
  clear ho
  have hn9 : BS (w3.alloc (.cells #[.int .u8 9] 5)) (some ⟨w3.heap.size, 0, none⟩) 1 1 [9] := BS.alloc _ [9] _ _ (by decide) (by decide)
  have HN9 := Lib.hid hn9
  have hb3a := hb3'.alloc hb3'.size (.cells #[.int .u8 9] 5)
  clear hn9
  have HOA := Lib.hid (ownsRow_base (HO.out.alloc (.cells #[.int .u8 9] 5)) hb2.size)
  go_wp2_with (at_builtin; refine append_bytes rfl _ _ rfl w.heap.size _ ([1, 1, 7] ++ Crc.row s) [9] rfl HOA.out _ _ _ rfl HN9.out (by simp [Crc.row]) hb3a.size ?_; intro v4 w4 ho hg hv)
  have hb4 := grown_below hb3a hg (own_block HOA.out)
  have hby9 : Byt ([1, 1, 7] ++ Crc.row s ++ [9]) := ((show Byt [1, 1, 7] by decide).append (crc_row_byt s)).append (by decide)
  obtain ⟨A4, n4, c4, rfl, h4, _⟩ := ownsRow_bs ho hby9 (by simp [Crc.row])
  have B4 := Lib.hid h4
  have N6 : Hid (BS w4 A 6 c (([1, 1, 7] ++ Crc.row s).take 6)) := Lib.hid (K32.out.below (grown_below (hb3.alloc hb3.size (.cells #[.int .u8 9] 5)) hg (own_block (HO.out.alloc (.cells #[.int .u8 9] 5)))))
  clear ho hg hv HO HOA HN9 h4 hby9
  refine (next_any B4.out).mono ?_
  rw [H1.out]
  intro r w5 hh
  obtain ⟨A5, n5, c5, A6, n6, c6, rfl, hs6, hs7, _, _, hb5⟩ := hh.open (by decide) (by decide) (by decide) (by decide)
  have S5 := Lib.hid hs6
  have S6 := Lib.hid hs7
  have hb5' := nx hb4 hb5
  have N7 := Lib.hid (N6.out.below hb5)
  clear hh hs6 hs7 N6
  go_wp2_with fail
  refine (next_any N7.out).mono ?_
  rw [H2.out]
  intro r w6 hh
  obtain ⟨A7, n7, c7, A8, n8, c8, rfl, _, _, _, _, hb6⟩ := hh.open (by decide) (by decide) (by decide) (by decide)
  have hb6' := nx hb5' hb6
  clear hh
  go_wp2_with fail
  refine (next_any (BS.alloc _ [128, 0] _ _ (by decide) (by decide))).mono ?_
  rw [nx_bad]
  intro r w7 hh
  obtain ⟨A9, n9, c9, A10, n10, c10, rfl, _, _, _, _, hb7⟩ := hh.open (by decide) (by decide) (by decide) (by decide)
  have hb7' := nxA hb6' hb7
  have S57 := Lib.hid (S5.out.below (nxA hb6 hb7))
  have S67 := Lib.hid (S6.out.below (nxA hb6 hb7))
  clear hh S5 S6
  go_wp2_with fail
  refine (eqBytes_any A5 _ n5 c5 1 1 [7] [7] _ (S57.out.newBlock _) (BS.alloc _ [7] _ _ (by decide) (by decide))).mono ?_
  rintro e w8 ⟨rfl, hb8⟩
  have hb8' := nxA hb7' hb8
  go_wp2_with fail
  refine (eqBytes_any A6 _ n6 c6 1 1 [9] [9] _ ((S67.out.below (nxA (bel0 _) hb8)).newBlock _) (BS.alloc _ [9] _ _ (by decide) (by decide))).mono ?_
  rintro e w9 ⟨rfl, hb9⟩
  go_wp2_with fail
  go_ret
  exact ⟨rfl, nxA hb8' hb9⟩
end Go.Proofs.Ytmnabhennibddaa
