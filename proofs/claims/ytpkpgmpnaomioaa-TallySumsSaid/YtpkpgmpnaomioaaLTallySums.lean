/- The walk of the law TallySums. No conditions. -/
import Derived.Test.YtpkpgmpnaomioaaTally
set_option linter.unusedSimpArgs false
set_option linter.unusedVariables false
namespace Go.Proofs.Ytpkpgmpnaomioaa
open Go.RowKit


set_option maxHeartbeats 4000000 in
set_option maxRecDepth 100000 in
theorem tallySums_walk (s : Nat) (A : Option Addr) (c : Nat) (l : List Nat) (w : World) (hs : s < 4294967296) (hl : BS w A l.length c l) :
    Calls Try.prog 3 #[.int .u32 s, .slice A l.length c] w fun e w' => e = .returned (.bool true) ∧ Below w.heap.size w w' := by
  have hlim := hl.lim
  have hlc := hl.le
  have HL : Hid ((5000 < l.length → BS w A 5000 c (l.take 5000)) ∧ (l.length ≤ 5000 → BS w A l.length c l)) := Lib.hid ⟨fun h => by have := hl.cut 5000; rwa [List.length_take, Nat.min_eq_left (by omega)] at this, fun _ => hl⟩
  clear hl
  go_enter Try.func3, Try.ntmps3
  go_wp2_with fail
  all_goals
    first | (have hk : 5000 < l.length := (by omega); obtain ⟨m, HM⟩ : ∃ m, Hid (BS w A 5000 c m) := ⟨_, Lib.hid (HL.out.1 hk)⟩) | (have hk : l.length ≤ 5000 := (by omega); obtain ⟨m, HM⟩ : ∃ m, Hid (BS w A l.length c m) := ⟨_, Lib.hid (HL.out.2 hk)⟩)
    refine (copyBytes_any A _ c _ _ HM.out).mono ?_
    rintro e w1 ⟨v, rfl, ho, hb1⟩
    obtain ⟨A1, nA1, c1, rfl, h1, _⟩ := ownsRow_bs ho HM.out.byt HM.out.lim
    have H1 := Lib.hid h1
    clear h1 ho
    go_wp2_with fail
    refine (of_any A1 _ c1 _ _ H1.out).mono ?_
    rintro e w2 ⟨rfl, hb2⟩
    go_wp2_with fail
    refine (refOf_any A _ c _ _ (HM.out.below (nx hb1 hb2))).mono ?_
    rintro e w2 ⟨rfl, rfl⟩
    go_wp2_with fail
    refine (on_any s hs A1 _ c1 _ _ (H1.out.below hb2)).mono ?_
    rintro e w3 ⟨rfl, hb3⟩
    go_wp2_with fail
    refine (refOn_any s hs A _ c _ _ (HM.out.below (nx (nx hb1 hb2) hb3))).mono ?_
    rintro e w3 ⟨rfl, rfl⟩
    go_wp2_with fail
    refine (row_any s hs _).mono ?_
    rintro e w4 ⟨v4, rfl, ho4, hb4⟩
    obtain ⟨A4, nA4, c4, rfl, h4, _⟩ := ownsRow_bs ho4 (Crc.row_byt s) (by rw [Crc.length_row]; decide)
    have H4 := Lib.hid h4
    clear h4 ho4
    go_wp2_with fail
    refine (refRow_any s hs _).mono ?_
    rintro e w5 ⟨v5, rfl, ho5, hb5⟩
    obtain ⟨A5, nA5, c5, rfl, h5, _⟩ := ownsRow_bs ho5 (Crc.row_byt s) (by rw [Crc.length_row]; decide)
    go_wp2_with fail
    refine (eqBytes_any A4 A5 _ c4 _ c5 _ _ _ (H4.out.below hb5) h5).mono ?_
    rintro e w6 ⟨rfl, hb6⟩
    go_wp2_with fail
    refine (eqBytes_any A1 A _ c1 _ c _ _ _ (H1.out.below (nx (nx (nx (nx hb2 hb3) hb4) hb5) hb6)) (HM.out.below (nx (nx (nx (nx (nx hb1 hb2) hb3) hb4) hb5) hb6))).mono ?_
    rintro e w7 ⟨rfl, hb7⟩
    go_wp2_with fail
    refine (works02_any _).mono ?_
    rintro e w8 ⟨rfl, hb8⟩
    go_wp2_with fail
    go_ret
    exact ⟨rfl, nx (nx (nx (nx (nx (nx (nx hb1 hb2) hb3) hb4) hb5) hb6) hb7) hb8⟩
end Go.Proofs.Ytpkpgmpnaomioaa
