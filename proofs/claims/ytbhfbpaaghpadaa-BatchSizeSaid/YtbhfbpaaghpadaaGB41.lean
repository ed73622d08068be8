/- The walk of the law BatchSize. No conditions. -/
import Derived.Test.YtbhfbpaaghpadaaGB32
import Derived.Test.YtbhfbpaaghpadaaGB01
import Derived.Test.YtbhfbpaaghpadaaGB35
import Derived.Test.YtbhfbpaaghpadaaGB39
import Derived.Test.YtbhfbpaaghpadaaGB04
import Derived.Test.YtbhfbpaaghpadaaGB40
import Derived.Deep.RegionHeld3
import Derived.Deep.DeepCutAuto
set_option linter.unusedSimpArgs false
set_option linter.unusedVariables false
namespace Go.Proofs.Ytbhfbpaaghpadaa
open Go.RowKit

theorem blk_cell {w W : World} {p : Addr} {v : Value} (hb : Below w.heap.size w W) (h : w.cell? p = some v) : W.cell? p = some v := (hb.cell (World.block_lt_of_cell? w _ h)).trans h
set_option maxHeartbeats 32000000 in
set_option maxRecDepth 100000 in
theorem batchSize_walk (b : Bat) (A : Option Addr) (c : Nat) (y : Nat) (w : World) (h1 : I64 b.ag) (h2 : I64 b.sq) (hL : LS w A b.sp.length c b.sp) (hs : ∀ s ∈ b.sp, SpnOk s) (hn : b.sp.length * 112 ≤ 140737488351232) (hy : y < 256) :
    Calls Try.prog 4 #[.agg #[.int .i64 b.ag, .int .i64 b.sq, .slice A b.sp.length c], .int .u8 (y : Int)] w fun e w' => e = .returned (.bool true) ∧ Below w.heap.size w w' := by
  have HPT := Lib.hid (show PtB b from hL.pt)
  have HAT := Lib.hid (show ∀ s ∈ b.sp, s.ats.length ≤ 2199023255552 from fun s hs' => by have := (hs s hs').lim; omega)
  have HLN := Lib.hid (show b.sp.length ≤ 1256584717421 by omega)
  clear h1 h2 hs hn
  obtain ⟨n, hnn⟩ : ∃ n, n = b.sp.length := ⟨_, rfl⟩
  have HN := Lib.hid hnn
  have HL := Lib.hid (show LS w A n c b.sp by rw [hnn]; exact hL)
  rw [← hnn]
  clear hnn hL
  go_enter Try.func4, Try.ntmps4
  go_wp2_with fail
  have hb1 := bel1 w (.cells #[.int .i64 b.ag, .int .i64 b.sq, .slice A n c] 24)
  have hq1 := heap_alloc_new w (.cells #[.int .i64 b.ag, .int .i64 b.sq, .slice A n c] 24)
  obtain ⟨W0, hW⟩ : ∃ W, W = w.alloc (.cells #[.int .i64 b.ag, .int .i64 b.sq, .slice A n c] 24) := ⟨_, rfl⟩
  obtain ⟨q2, hqq⟩ : ∃ q, q = w.heap.size := ⟨_, rfl⟩
  rw [← hW] at hb1 hq1 ⊢
  rw [← hqq] at hq1 ⊢
  have hq2 : w.heap.size ≤ q2 := by omega
  clear hW hqq
  refine (works_any _).mono ?_
  rintro e w1 ⟨rfl, hb2⟩
  have hbw1 := nx hb1 hb2
  have X1 := Lib.hid (blk_bel hq1 hb2)
  clear hb1 hb2 hq1
  obtain ⟨d0, d1, d2⟩ := bat_block X1.out
  have dq := (Array.getElem?_eq_some_iff.1 X1.out).1
  go_wp2_with fail
  refine (batBytes_any (b := b) (HL.out.below hbw1)).mono ?_
  by_cases hok : OkB b
  case neg =>
    rw [btP_no hok]
    clear hok
    intro e w2 hh
    obtain ⟨A1, n1, c1, rfl, hB, hb3⟩ := hh.open (by intro x hx; cases hx) (by simp)
    have hbw2 := nx hbw1 hb3
    clear hh hB hb3 d0 d1 d2 dq
    go_wp2_with fail
    go_ret
    exact ⟨rfl, hbw2⟩
  rw [btP_yes hok]
  have HOK := Lib.hid hok
  have hn1 : 1 ≤ n := by have := hok.1.n.1; rw [← HN.out] at this; exact this
  have hn16 : n ≤ 16 := by have := hok.1.n.2; rw [← HN.out] at this; exact this
  intro e w2 hh
  obtain ⟨A1, n1, c1, rfl, hB, hb3⟩ := hh.open (btB_byt hok.1 HPT.out) (by have := hok.2; show (btB b).length ≤ _; omega)
  have HN1 := Lib.hid hB.len
  have hn8 : n1 ≤ 8192 := by have := hok.2; have h : n1 = (btB b).length := hB.len; omega
  clear hok
  have hbw2 := nx hbw1 hb3
  have X2 := Lib.hid (blk_bel X1.out hb3)
  clear hh hB hb3 d0 d1 d2 dq X1
  obtain ⟨d0, d1, d2⟩ := bat_block X2.out
  have dq := (Array.getElem?_eq_some_iff.1 X2.out).1
  go_wp2_with fail
  refine (refCopy2_any (b := b) (HL.out.below hbw2)).mono ?_
  rintro e w3 ⟨v, rfl, ho, hb3⟩
  obtain ⟨g7, c7, vs, ev, hg7, hV⟩ := ho.v (by rw [← HN.out]; omega)
  subst ev
  rw [← HN.out]
  have hbw3 := nx hbw2 hb3
  have X3 := Lib.hid (blk_bel X2.out hb3)
  have HV3 := Lib.hid (show SpV w3 w.heap.size g7 c7 b.sp vs from ⟨hV.len, ownsRow_base hV.row hbw2.size, fun i hi => ownsRow_base (hV.at' i hi) hbw2.size, hV.ap⟩)
  have hg7w : w.heap.size ≤ g7 := by have := hbw2.size; omega
  clear ho hV hb3 X2 d0 d1 d2 dq hg7
  go_upto_region 7 with (fail)

  obtain ⟨W4, hW⟩ : ∃ W, W = w3.alloc (.cells #[.int .i64 b.ag, .int .i64 b.sq, .slice (some ⟨g7, 0, none⟩) n c7] 24) := ⟨_, rfl⟩
  have hb4 : Below w3.heap.size w3 W4 := by rw [hW]; exact bel1 _ _
  have hq4 : W4.heap[w3.heap.size]? = some (.cells #[.int .i64 b.ag, .int .i64 b.sq, .slice (some ⟨g7, 0, none⟩) n c7] 24 (0, 0)) := by rw [hW]; exact heap_alloc_new w3 _
  rw [← hW]
  obtain ⟨q7, hqq⟩ : ∃ q, q = w3.heap.size := ⟨_, rfl⟩
  rw [← hqq] at hq4 ⊢
  have HZ4 := Lib.hid (show SzW b w W4 q7 g7 c7 b.sp vs from ⟨nx hbw3 hb4, by rw [← HN.out]; exact hq4, HV3.out.below hb4⟩)
  clear hW hqq hb4 hq4 X3 HV3 hbw3 hbw2 hbw1
  have hcv : (convert 35 9 (.slice (some ⟨W4.heap.size, 0, none⟩) 1 1)).run Try.prog (W4.alloc (.cells #[.int .u8 (y : Int)] 5)) = .ok (.string (bs [y])) (W4.alloc (.cells #[.int .u8 (y : Int)] 5)) := conv_back (l := [y]) (BS.alloc W4 [y] 5 (0, 0) (by intro x hx; simp at hx; omega) (by simp))
  have HZ5 := Lib.hid (HZ4.out.below (bel1 W4 (.cells #[.int .u8 (y : Int)] 5)))
  go_wp2_with fail
  clear hcv HZ4
  go_loopw [9] (fun i wr => ∃ j : Nat, i = .int .i64 j ∧ j ≤ n ∧ Hid (SzW b w wr q7 g7 c7 (mixS y b.sp j) vs)) (fun i _ => n - (intOf i).toNat)
  case atStart => exact ⟨0, rfl, Nat.zero_le _, by rw [mixS_0]; exact HZ5⟩
  case round =>
    clear HZ5
    obtain ⟨j, rfl, hj, HZ⟩ := hrel
    by_cases hlt : j < n
    · have hl1 : j < b.sp.length := by rw [← HN.out]; exact hlt
      have hlm : j < (mixS y b.sp j).length := by rw [mixS_len]; exact hl1
      have hlti : (j : Int) < (n : Int) := by omega
      have HSO := Lib.hid (HOK.out.1.sp _ (List.getElem_mem hl1))
      have HST := Lib.hid (mixS_step y hl1)
      have HZ0 := Lib.hid (show SzW b w wr q7 g7 c7 ((mixS y b.sp j).set j b.sp[j]) vs by rw [mixS_at y hl1]; exact HZ.out)
      generalize b.sp[j] = s at *
      obtain ⟨M, hM⟩ : ∃ M, M = mixS y b.sp j := ⟨_, rfl⟩
      rw [← hM] at HZ0 HST hlm
      have HM := Lib.hid hM
      clear HZ hM
      have hsv := (nm_size HSO.out.sv).2
      have hop := (nm_size HSO.out.op).2
      have hsj := HSO.out.sj
      have R1 := Lib.hid (show ∀ w, Calls Try.prog 12 #[.string (bs [y]), .int .i64 (s.sj.size : Int)] w fun e w' => e = .returned (.string (repB y s.sj.size)) ∧ Below w.heap.size w w' from fun w => Try.strings_Repeat (bs [y]) s.sj.size w (by omega) (by rw [bs_size]; simp; omega))
      have R2 := Lib.hid (show ∀ w, Calls Try.prog 12 #[.string ⟨#[122]⟩, .int .i64 (s.sv.size : Int)] w fun e w' => e = .returned (.string (repB 122 s.sv.size)) ∧ Below w.heap.size w w' from fun w => Try.strings_Repeat ⟨#[122]⟩ s.sv.size w (by omega) (by show 1 * _ ≤ _; omega))
      have R3 := Lib.hid (show ∀ w, Calls Try.prog 12 #[.string ⟨#[121]⟩, .int .i64 (s.op.size : Int)] w fun e w' => e = .returned (.string (repB 121 s.op.size)) ∧ Below w.heap.size w w' from fun w => Try.strings_Repeat ⟨#[121]⟩ s.op.size w (by omega) (by show 1 * _ ≤ _; omega))
      have hag : (⟨g7, 0, none⟩ : Addr).add (j * 9) = ⟨g7, j * 9, none⟩ := by rw [addr_add, Nat.zero_add]
      obtain ⟨d0, d1, d2⟩ := bat_block HZ0.out.b7
      rw [← HN.out] at d2
      obtain ⟨x7, f7⟩ := HZ0.out.sp.cell1 hlm 7 (.string s.sj) rfl
      go_wp2_with fail
      as_aux_lemma =>
        clear d0 d1 d2
        refine (R1.out _).mono ?_
        rintro e wa7 ⟨rfl, hba⟩
        have HZ0' := Lib.hid (HZ0.out.below hba)
        clear HZ0 hba x7 f7
        obtain ⟨x7, f7⟩ := HZ0'.out.sp.cell1 hlm 7 _ rfl
        have HZ1 := Lib.hid (HZ0'.out.fld (f := 7) (x := .string (repB y s.sj.size)) (s' := ⟨s.tr, s.id, s.pa, s.sv, s.op, s.st, s.ln, repB y s.sj.size, s.ats⟩) hg7w hlm (by omega) (fun _ => rfl) rfl)
        go_upto_region 13 with (fail)
        obtain ⟨Wb7, hWb⟩ : ∃ W, W = wa7.setCell ⟨g7, j * 9 + 7, none⟩ (.string (repB y s.sj.size)) := ⟨_, rfl⟩
        rw [← hWb] at HZ1 ⊢
        clear hWb HZ0' x7 f7
        obtain ⟨x3, f3⟩ := HZ1.out.sp.cell1 hlm 3 (.string s.sv) rfl
        go_wp2_with fail
        as_aux_lemma =>
          refine (R2.out _).mono ?_
          rintro e wa3 ⟨rfl, hba⟩
          have HZ1' := Lib.hid (HZ1.out.below hba)
          clear HZ1 hba x3 f3
          obtain ⟨x3, f3⟩ := HZ1'.out.sp.cell1 hlm 3 _ rfl
          have HZ2 := Lib.hid (HZ1'.out.fld (f := 3) (x := .string (repB 122 s.sv.size)) (s' := ⟨s.tr, s.id, s.pa, repB 122 s.sv.size, s.op, s.st, s.ln, repB y s.sj.size, s.ats⟩) hg7w hlm (by omega) (fun _ => rfl) rfl)
          go_upto_region 14 with (fail)
          obtain ⟨Wb3, hWb⟩ : ∃ W, W = wa3.setCell ⟨g7, j * 9 + 3, none⟩ (.string (repB 122 s.sv.size)) := ⟨_, rfl⟩
          rw [← hWb] at HZ2 ⊢
          clear hWb HZ1' x3 f3
          obtain ⟨x4, f4⟩ := HZ2.out.sp.cell1 hlm 4 (.string s.op) rfl
          go_wp2_with fail
          as_aux_lemma =>
            refine (R3.out _).mono ?_
            rintro e wa4 ⟨rfl, hba⟩
            have HZ2' := Lib.hid (HZ2.out.below hba)
            clear HZ2 hba x4 f4
            obtain ⟨x4, f4⟩ := HZ2'.out.sp.cell1 hlm 4 _ rfl
            have HZ3 := Lib.hid (HZ2'.out.fld (f := 4) (x := .string (repB 121 s.op.size)) (s' := ⟨s.tr, s.id, s.pa, repB 122 s.sv.size, repB 121 s.op.size, s.st, s.ln, repB y s.sj.size, s.ats⟩) hg7w hlm (by omega) (fun _ => rfl) rfl)
            go_upto_region 15 with (fail)
            obtain ⟨Wb4, hWb⟩ : ∃ W, W = wa4.setCell ⟨g7, j * 9 + 4, none⟩ (.string (repB 121 s.op.size)) := ⟨_, rfl⟩
            rw [← hWb] at HZ3 ⊢
            clear hWb HZ2' x4 f4
            as_aux_lemma =>
              have hlj : j < vs.length := by have := HZ3.out.sp.len; rw [List.length_set] at this; omega
              obtain ⟨m, hmm⟩ : ∃ m, m = s.ats.length := ⟨_, rfl⟩
              have HMM := Lib.hid hmm
              have hm8 : m ≤ 8 := by rw [hmm]; exact (may_yes HSO.out.ats).1
              obtain ⟨Aj, cj, hvj⟩ : ∃ A c, vs[j] = .slice A m c := by
                have h := HZ3.out.sp.at' j (by rw [List.length_set]; exact hlm)
                obtain ⟨A, c, e, _⟩ := ownsRow_lies h
                rw [e, hmm]
                refine ⟨A, c, ?_⟩
                congr 2
                rw [List.getElem_set_self]
              have HVJ := Lib.hid hvj
              clear hmm hvj
              have HZi := Lib.hid (show SzW b w Wb4 q7 g7 c7 (M.set j (⟨s.tr, s.id, s.pa, repB 122 s.sv.size, repB 121 s.op.size, s.st, s.ln, repB y s.sj.size, mixA y s.ats 0⟩ : Spn)) vs from HZ3.out)
              clear HZ3
              go_wp2_with fail
              go_loopw [11] (fun i wr => ∃ k : Nat, i = .int .i64 k ∧ k ≤ m ∧ Hid (SzW b w wr q7 g7 c7 (M.set j (⟨s.tr, s.id, s.pa, repB 122 s.sv.size, repB 121 s.op.size, s.st, s.ln, repB y s.sj.size, mixA y s.ats k⟩ : Spn)) vs)) (fun i _ => m - (intOf i).toNat)
              case atStart => exact ⟨0, rfl, Nat.zero_le _, HZi⟩
              case round =>
                clear HZi
                obtain ⟨k, rfl, hk, HZ⟩ := hrel
                obtain ⟨x8, f8⟩ := HZ.out.sp.cell1 hlm 8 (.slice Aj m cj) (by show some (vs[j]) = _; rw [HVJ.out])
                by_cases hkm : k < m
                · have hka : k < s.ats.length := by rw [← HMM.out]; exact hkm
                  have hki : (k : Int) < (m : Int) := by omega
                  obtain ⟨ga, ca, e, hca, hga, hcel⟩ := HZ.out.sp.attc1 (k := k) hlm (by show k < (mixA y s.ats k).length; rw [mixA_len]; exact hka)
                  rw [HVJ.out] at e
                  injection e with e1 e2 e3
                  clear e2
                  subst e1 e3
                  have hge : (mixA y s.ats k)[k]'(by rw [mixA_len]; exact hka) = s.ats[k] := mixA_get y hka
                  simp only [hge] at hcel
                  have HA := Lib.hid (chkA_yes (may_all HSO.out.ats s.ats[k] (List.getElem_mem hka)))
                  have HRS := Lib.hid (mixA_step y hka)
                  have HSM := Lib.hid (mixA_same y hka)
                  obtain ⟨a, ha⟩ : ∃ a, a = s.ats[k] := ⟨_, rfl⟩
                  rw [← ha] at hcel HA HRS HSM hge
                  have HGE := Lib.hid hge
                  clear ha hge
                  obtain ⟨z3, _⟩ := hcel 3 (.int .i64 a.val.k) rfl
                  obtain ⟨z5, f5⟩ := hcel 5 (.string a.val.b) rfl
                  clear hcel
                  have hak : (⟨ga, 0, none⟩ : Addr).add (k * 6) = ⟨ga, k * 6, none⟩ := by rw [addr_add, Nat.zero_add]
                  by_cases hk2 : a.val.k = 2
                  · as_aux_lemma =>
                      have hvb : a.val.b.size ≤ 64 := by
                        have h := HA.out.2.2
                        obtain ⟨nm0, lb0, ⟨vk, vn, vb⟩⟩ := a
                        simp only at hk2
                        subst hk2
                        rw [chk_2] at h
                        split at h
                        · rename_i h2; exact h2.2
                        · simp at h
                      have R4 := Lib.hid (show ∀ w, Calls Try.prog 12 #[.string (bs [y]), .int .i64 (a.val.b.size : Int)] w fun e w' => e = .returned (.string (repB y a.val.b.size)) ∧ Below w.heap.size w w' from fun w => Try.strings_Repeat (bs [y]) a.val.b.size w (by omega) (by rw [bs_size]; simp; omega))
                      go_upto_region 19 with (fail)
                      have HZd := Lib.hid (HZ.out.below (bel0 wr).drew)
                      have hx8 := blk_cell (bel0 wr).drew x8
                      have hz5 := blk_cell (bel0 wr).drew z5
                      obtain ⟨wd, hwd⟩ : ∃ W, W = wr.drew := ⟨_, rfl⟩
                      have HWD := Lib.hid hwd
                      rw [← hwd] at HZd hx8 hz5
                      clear hwd HZ x8 f8 z5 f5 z3
                      have hHeld := And.intro hx8 hz5
                      clear hx8 hz5
                      rw [HWD.out] at hHeld
                      refine wp_region_g 20 (fun w' => w'.cell? ⟨g7, j * 9 + 8, none⟩ = some (.slice (some ⟨ga, 0, none⟩) m cj) ∧ w'.cell? ⟨ga, k * 6 + 5, none⟩ = some (.string a.val.b)) (by kernel_rfl) ?_
                      refine' g_val (i := 0) (d := 86) (v := _) [19, 18, 17, 3, 2, 1, 0] rfl rfl (by kernel_rfl) (by kernel_rfl) (by kernel_rfl) (by kernel_rfl) (by kernel_rfl) (by kernel_rfl) (fun _ _ _ h => h) (by rfl) ?_ (by assumption) ?_
                      rotate_left
                      · (intro w hSw; (try dsimp only at hSw); go_simp; (try with_reducible rfl))
                      (try simp only [Act.put, List.getElem_toArray, List.getElem_cons_succ, List.getElem_cons_zero, List.setIfInBounds_toArray, List.set_cons_zero, List.set_cons_succ])
                      refine' g_val (i := 1) (d := 87) (v := _) [19, 18, 17, 3, 2, 1] rfl rfl (by kernel_rfl) (by kernel_rfl) (by kernel_rfl) (by kernel_rfl) (by kernel_rfl) (by kernel_rfl) (fun _ _ _ h => h) (by rfl) ?_ (by assumption) ?_
                      rotate_left
                      · (intro w hSw; (try dsimp only at hSw); go_simp; (try with_reducible rfl))
                      (try simp only [Act.put, List.getElem_toArray, List.getElem_cons_succ, List.getElem_cons_zero, List.setIfInBounds_toArray, List.set_cons_zero, List.set_cons_succ])
                      refine' g_val (i := 2) (d := 88) (v := _) [19, 18, 17, 3, 2] rfl rfl (by kernel_rfl) (by kernel_rfl) (by kernel_rfl) (by kernel_rfl) (by kernel_rfl) (by kernel_rfl) (fun _ _ _ h => h) (by rfl) ?_ (by assumption) ?_
                      rotate_left
                      · (intro w hSw; (try dsimp only at hSw); go_simp; (try with_reducible rfl))
                      (try simp only [Act.put, List.getElem_toArray, List.getElem_cons_succ, List.getElem_cons_zero, List.setIfInBounds_toArray, List.set_cons_zero, List.set_cons_succ])
                      refine' g_val (i := 3) (d := 89) (v := _) [19, 18, 17, 3] rfl rfl (by kernel_rfl) (by kernel_rfl) (by kernel_rfl) (by kernel_rfl) (by kernel_rfl) (by kernel_rfl) (fun _ _ _ h => h) (by rfl) ?_ (by assumption) ?_
                      rotate_left
                      · (intro w hSw; (try dsimp only at hSw); go_simp; (try with_reducible rfl))
                      (try simp only [Act.put, List.getElem_toArray, List.getElem_cons_succ, List.getElem_cons_zero, List.setIfInBounds_toArray, List.set_cons_zero, List.set_cons_succ])
                      refine' g_val (i := 4) (d := 90) (v := _) [19, 18, 17, 4] rfl rfl (by kernel_rfl) (by kernel_rfl) (by kernel_rfl) (by kernel_rfl) (by kernel_rfl) (by kernel_rfl) (fun _ _ _ h => h) (by rfl) ?_ (by assumption) ?_
                      rotate_left
                      · (intro w hSw; (try dsimp only at hSw); go_simp; (try with_reducible rfl))
                      (try simp only [Act.put, List.getElem_toArray, List.getElem_cons_succ, List.getElem_cons_zero, List.setIfInBounds_toArray, List.set_cons_zero, List.set_cons_succ])
                      refine' g_val (i := 5) (d := 91) (v := _) [16, 5] rfl rfl (by kernel_rfl) (by kernel_rfl) (by kernel_rfl) (by kernel_rfl) (by kernel_rfl) (by kernel_rfl) (fun _ _ _ h => h) (by rfl) ?_ (by assumption) ?_
                      rotate_left
                      · (intro w hSw; (try dsimp only at hSw); go_simp; (try with_reducible rfl))
                      (try simp only [Act.put, List.getElem_toArray, List.getElem_cons_succ, List.getElem_cons_zero, List.setIfInBounds_toArray, List.set_cons_zero, List.set_cons_succ])
                      refine' g_val (i := 6) (d := 92) (v := _) [16, 15, 14, 13, 12, 11, 9, 8, 7, 6] rfl rfl (by kernel_rfl) (by kernel_rfl) (by kernel_rfl) (by kernel_rfl) (by kernel_rfl) (by kernel_rfl) (fun _ _ _ h => h) (by rfl) ?_ (by assumption) ?_
                      rotate_left
                      · (intro w hSw; (try dsimp only at hSw); go_simp; (try with_reducible rfl))
                      (try simp only [Act.put, List.getElem_toArray, List.getElem_cons_succ, List.getElem_cons_zero, List.setIfInBounds_toArray, List.set_cons_zero, List.set_cons_succ])
                      refine' g_val (i := 7) (d := 93) (v := _) [16, 15, 14, 13, 12, 11, 9, 8, 7] rfl rfl (by kernel_rfl) (by kernel_rfl) (by kernel_rfl) (by kernel_rfl) (by kernel_rfl) (by kernel_rfl) (fun _ _ _ h => h) (by rfl) ?_ (by assumption) ?_
                      rotate_left
                      · (intro w hSw; (try dsimp only at hSw); go_simp; (try with_reducible rfl))
                      (try simp only [Act.put, List.getElem_toArray, List.getElem_cons_succ, List.getElem_cons_zero, List.setIfInBounds_toArray, List.set_cons_zero, List.set_cons_succ])
                      refine' g_val (i := 8) (d := 94) (v := _) [16, 15, 14, 13, 12, 11, 9, 8] rfl rfl (by kernel_rfl) (by kernel_rfl) (by kernel_rfl) (by kernel_rfl) (by kernel_rfl) (by kernel_rfl) (fun _ _ _ h => h) (by rfl) ?_ (by assumption) ?_
                      rotate_left
                      · (intro w hSw; (try dsimp only at hSw); go_simp; (try with_reducible rfl))
                      (try simp only [Act.put, List.getElem_toArray, List.getElem_cons_succ, List.getElem_cons_zero, List.setIfInBounds_toArray, List.set_cons_zero, List.set_cons_succ])
                      refine' g_val (i := 9) (d := 95) (v := _) [16, 15, 14, 13, 12, 11, 9] rfl rfl (by kernel_rfl) (by kernel_rfl) (by kernel_rfl) (by kernel_rfl) (by kernel_rfl) (by kernel_rfl) (fun _ _ _ h => h) (by rfl) ?_ (by assumption) ?_
                      rotate_left
                      · (intro w hSw; (try dsimp only at hSw); go_simp; (try with_reducible rfl))
                      (try simp only [Act.put, List.getElem_toArray, List.getElem_cons_succ, List.getElem_cons_zero, List.setIfInBounds_toArray, List.set_cons_zero, List.set_cons_succ])
                      refine' g_val (i := 10) (d := 96) (v := _) [16, 15, 14, 13, 12, 11, 10] rfl rfl (by kernel_rfl) (by kernel_rfl) (by kernel_rfl) (by kernel_rfl) (by kernel_rfl) (by kernel_rfl) (fun _ _ _ h => h) (by rfl) ?_ (by assumption) ?_
                      rotate_left
                      · (intro w hSw; (try dsimp only at hSw); go_simp; (try with_reducible rfl))
                      (try simp only [Act.put, List.getElem_toArray, List.getElem_cons_succ, List.getElem_cons_zero, List.setIfInBounds_toArray, List.set_cons_zero, List.set_cons_succ])
                      refine' g_val (i := 11) (d := 97) (v := _) [16, 15, 14, 13, 12, 11] rfl rfl (by kernel_rfl) (by kernel_rfl) (by kernel_rfl) (by kernel_rfl) (by kernel_rfl) (by kernel_rfl) (fun _ _ _ h => h) (by rfl) ?_ (by assumption) ?_
                      rotate_left
                      · (intro w hSw; (try dsimp only at hSw); go_simp; (try with_reducible rfl))
                      (try simp only [Act.put, List.getElem_toArray, List.getElem_cons_succ, List.getElem_cons_zero, List.setIfInBounds_toArray, List.set_cons_zero, List.set_cons_succ])
                      refine' g_val (i := 12) (d := 98) (v := _) [16, 15, 14, 13, 12] rfl rfl (by kernel_rfl) (by kernel_rfl) (by kernel_rfl) (by kernel_rfl) (by kernel_rfl) (by kernel_rfl) (fun _ _ _ h => h) (by rfl) ?_ (by assumption) ?_
                      rotate_left
                      · (intro w hSw; (try dsimp only at hSw); go_simp; (try with_reducible rfl))
                      (try simp only [Act.put, List.getElem_toArray, List.getElem_cons_succ, List.getElem_cons_zero, List.setIfInBounds_toArray, List.set_cons_zero, List.set_cons_succ])
                      refine' g_val (i := 13) (d := 99) (v := _) [16, 15, 14, 13] rfl rfl (by kernel_rfl) (by kernel_rfl) (by kernel_rfl) (by kernel_rfl) (by kernel_rfl) (by kernel_rfl) (fun _ _ _ h => h) (by rfl) ?_ (by assumption) ?_
                      rotate_left
                      · (intro w hSw; (try dsimp only at hSw); go_simp; (try with_reducible rfl))
                      (try simp only [Act.put, List.getElem_toArray, List.getElem_cons_succ, List.getElem_cons_zero, List.setIfInBounds_toArray, List.set_cons_zero, List.set_cons_succ])
                      refine' g_val (i := 14) (d := 100) (v := _) [16, 15, 14] rfl rfl (by kernel_rfl) (by kernel_rfl) (by kernel_rfl) (by kernel_rfl) (by kernel_rfl) (by kernel_rfl) (fun _ _ _ h => h) (by rfl) ?_ (by assumption) ?_
                      rotate_left
                      · (intro w hSw; (try dsimp only at hSw); go_simp; (try with_reducible rfl))
                      (try simp only [Act.put, List.getElem_toArray, List.getElem_cons_succ, List.getElem_cons_zero, List.setIfInBounds_toArray, List.set_cons_zero, List.set_cons_succ])
                      refine' g_val (i := 15) (d := 101) (v := _) [16, 15] rfl rfl (by kernel_rfl) (by kernel_rfl) (by kernel_rfl) (by kernel_rfl) (by kernel_rfl) (by kernel_rfl) (fun _ _ _ h => h) (by rfl) ?_ (by assumption) ?_
                      rotate_left
                      · (intro w hSw; (try dsimp only at hSw); go_simp; (try with_reducible rfl))
                      (try simp only [Act.put, List.getElem_toArray, List.getElem_cons_succ, List.getElem_cons_zero, List.setIfInBounds_toArray, List.set_cons_zero, List.set_cons_succ])
                      rw [← HWD.out] at hHeld ⊢
                      refine wpAnyG_ready (rs := [16]) (by kernel_rfl) (by simp) ?_
                      refine AllReadyG.cons rfl (fun K hK => ?_) AllReadyG.nil
                      go_simp
                      go_at_call 12
                      refine (R4.out _).mono ?_
                      rintro e we ⟨rfl, hbe⟩
                      have HZe := Lib.hid (HZd.out.below hbe)
                      have hHe : we.cell? ⟨g7, j * 9 + 8, none⟩ = some (.slice (some ⟨ga, 0, none⟩) m cj) ∧ we.cell? ⟨ga, k * 6 + 5, none⟩ = some (.string a.val.b) := ⟨blk_cell hbe hHeld.1, blk_cell hbe hHeld.2⟩
                      clear hHeld HZd hbe
                      have hHeld := hHe
                      clear hHe
                      go_wp2_with fail
                      refine hK.out _ _ (fun _ => hHeld) ?_
                      clear hK K
                      (try simp only [Act.put, List.getElem_toArray, List.getElem_cons_succ, List.getElem_cons_zero, List.setIfInBounds_toArray, List.set_cons_zero, List.set_cons_succ])
                      refine' g_val (i := 17) (d := 103) (v := _) [19, 18, 17] rfl rfl (by kernel_rfl) (by kernel_rfl) (by kernel_rfl) (by kernel_rfl) (by kernel_rfl) (by kernel_rfl) (fun _ _ _ h => h) (by rfl) ?_ (by assumption) ?_
                      rotate_left
                      · (intro w hSw; (try dsimp only at hSw); go_simp; (try with_reducible rfl))
                      (try simp only [Act.put, List.getElem_toArray, List.getElem_cons_succ, List.getElem_cons_zero, List.setIfInBounds_toArray, List.set_cons_zero, List.set_cons_succ])
                      refine' g_val (i := 18) (d := 104) (v := _) [19, 18] rfl rfl (by kernel_rfl) (by kernel_rfl) (by kernel_rfl) (by kernel_rfl) (by kernel_rfl) (by kernel_rfl) (fun _ _ _ h => h) (by rfl) ?_ (by assumption) ?_
                      rotate_left
                      · (intro w hSw; (try dsimp only at hSw); go_simp; (try with_reducible rfl))
                      (try simp only [Act.put, List.getElem_toArray, List.getElem_cons_succ, List.getElem_cons_zero, List.setIfInBounds_toArray, List.set_cons_zero, List.set_cons_succ])
                      refine' g_val (i := 19) (d := 105) (v := _) [19] rfl rfl (by kernel_rfl) (by kernel_rfl) (by kernel_rfl) (by kernel_rfl) (by kernel_rfl) (by kernel_rfl) (fun _ _ _ h => h) (by rfl) ?_ (by assumption) ?_
                      rotate_left
                      · (intro w hSw; (try dsimp only at hSw); go_simp; (try with_reducible rfl))
                      (try simp only [Act.put, List.getElem_toArray, List.getElem_cons_succ, List.getElem_cons_zero, List.setIfInBounds_toArray, List.set_cons_zero, List.set_cons_succ])
                      refine wpAnyG_ready (rs := [20]) (by kernel_rfl) (by simp) ?_
                      refine AllReadyG.cons rfl (fun K hK => ?_) AllReadyG.nil
                      have z5 := hHeld.2
                      clear hHeld
                      have f5 : we.frozen? ⟨ga, k * 6 + 5, none⟩ = false := by
                        obtain ⟨ga2, ca2, e, _, _, hcel⟩ := HZe.out.sp.attc1 (k := k) hlm (by show k < (mixA y s.ats k).length; rw [mixA_len]; exact hka)
                        rw [HVJ.out] at e
                        injection e with e1 e2 _
                        injection e1 with e1
                        injection e1 with e1 _ _
                        clear e2
                        subst e1
                        simp only [HGE.out] at hcel
                        exact (hcel 5 (.string a.val.b) rfl).2
                      go_simp
                      go_wp2_with fail
                      refine hK.out _ _ (fun h => absurd h (by simp)) ?_
                      clear hK K z5 f5
                      (try simp only [Act.put, List.getElem_toArray, List.getElem_cons_succ, List.getElem_cons_zero, List.setIfInBounds_toArray, List.set_cons_zero, List.set_cons_succ])
                      have HZf := Lib.hid (HZe.out.att (k := k) (f := 5) (x := .string (repB y a.val.b.size)) (a' := rep y a) (s' := (⟨s.tr, s.id, s.pa, repB 122 s.sv.size, repB 121 s.op.size, s.st, s.ln, repB y s.sj.size, mixA y s.ats (k + 1)⟩ : Spn)) hga hlm HVJ.out (by show k < (mixA y s.ats k).length; rw [mixA_len]; exact hka) (by omega) (by
                        show (rep y a).cells = ((mixA y s.ats k)[k]'(by rw [mixA_len]; exact hka)).cells.set 5 _
                        rw [HGE.out]
                        unfold rep
                        rw [if_pos hk2]
                        rfl) (fun _ => rfl) HRS.out.symm)
                      clear HZe
                      refine wpAnyG_done (by kernel_rfl) ?_ _
                      go_wp2_with fail
                      exact ⟨⟨k + 1, by go_num, by omega, HZf⟩, by simp [intOf]; omega⟩
                  · have hr : rep y a = a := if_neg hk2
                    as_aux_lemma =>
                    go_wp2_with fail
                    exact ⟨⟨k + 1, by go_num, by omega, by rw [HSM.out hr]; exact HZ⟩, by simp [intOf]; omega⟩
                · obtain rfl : k = m := by omega
                  have HZe := Lib.hid (show SzW b w wr q7 g7 c7 (mixS y b.sp (j + 1)) vs by
                    rw [← HST.out]
                    have h := HZ.out
                    rw [HMM.out, mixA_all] at h
                    exact h)
                  clear HZ
                  go_wp2_with fail
                  exact ⟨⟨j + 1, by go_num, by omega, HZe⟩, by simp [intOf]; omega⟩
    · obtain rfl : j = n := by omega
      have hp2 : ∀ s ∈ b.sp.map (repS y), ∀ a ∈ s.ats, a.lab.p < 4294967296 := fun s hs a ha => by
        obtain ⟨s0, hs0, rfl⟩ := List.mem_map.1 hs
        obtain ⟨a0, ha0, rfl⟩ := List.mem_map.1 ha
        rw [rep_lab]
        exact HPT.out s0 hs0 a0 ha0
      have HP2 := Lib.hid hp2
      have HS := Lib.hid (show SpV wr w.heap.size g7 c7 (b.sp.map (repS y)) vs by
        have h := HZ.out.sp
        rw [HN.out, mixS_all] at h
        exact h)
      have HLC := Lib.hid (show LS wr (some ⟨g7, 0, none⟩) j c7 (b.sp.map (repS y)) by
        obtain ⟨A9, n9, c9, e9, h9⟩ := HS.out.sp.ls HP2.out (fun s hs => by
          obtain ⟨s0, hs0, rfl⟩ := List.mem_map.1 hs
          show (s0.ats.map (rep y)).length ≤ _
          rw [List.length_map]
          exact HAT.out s0 hs0) (by rw [List.length_map]; exact HLN.out)
        rw [List.length_map, ← HN.out] at e9
        injection e9 with a1 a2 a3
        rw [a1, a2, a3]
        exact h9)
      clear HS hp2
      obtain ⟨d0, d1, d2⟩ := bat_block HZ.out.b7
      rw [← HN.out] at d2
      have HOR := Lib.hid (ok_repB (k := y) HOK.out)
      have HLR := Lib.hid (btB_rep (k := y) HOK.out)
      go_wp2_with fail
      refine (batBytes_any (b := { b with sp := b.sp.map (repS y) }) HLC.out).mono ?_
      rw [btP_yes HOR.out]
      intro e w8 hh
      obtain ⟨A2, n2, c2, rfl, hB, hb8⟩ := hh.open (btB_byt HOR.out.1 HP2.out) (by have := HOR.out.2; show (btB _).length ≤ _; omega)
      have hn2 : n2 = n1 := by rw [HN1.out, ← HLR.out]; exact hB.len
      subst hn2
      have hbw8 := nx HZ.out.bw hb8
      clear hh hB hb8 d0 d1 d2 HN1
      go_wp2_with fail
      go_ret
      exact ⟨rfl, hbw8⟩
end Go.Proofs.Ytbhfbpaaghpadaa
