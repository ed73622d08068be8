/- The statements' own helpers on batches: chapter, works. No conditions. -/
import Derived.Test.YtbhfbpaaghpadaaGC25
import Derived.Test.YtbhfbpaaghpadaaGC30
import Derived.Test.YtbhfbpaaghpadaaGC31
import Derived.Test.YtbhfbpaaghpadaaGC19
import Derived.Deep.RegionHeld3
set_option linter.unusedSimpArgs false
set_option linter.unusedVariables false
namespace Go.Proofs.Ytbhfbpaaghpadaa
open Go.RowKit

def chS : Spn := ⟨3, 4, 0, ⟨#[97]⟩, ⟨#[98]⟩, 5, 6, ⟨#[]⟩, []⟩
def chB : Bat := ⟨1, 2, [chS]⟩
theorem chB_bytes : btB chB = [1, 2, 1, 3, 4, 0, 5, 6, 1, 97, 1, 98, 0, 0] := by decide +kernel
theorem chS_ok : OkS chS := ⟨by decide, by decide, by decide, by decide, by decide, by decide, by decide +kernel, by decide +kernel, by decide, by decide +kernel⟩
theorem chB_pt : PtB chB := by
  intro s hs a ha
  simp only [chB, List.mem_singleton] at hs
  subst hs
  cases ha
theorem chB_ok : OkB chB := ⟨⟨by decide, by decide, by decide, by
  intro s hs
  simp only [chB, List.mem_singleton] at hs
  subst hs
  exact chS_ok⟩, by rw [chB_bytes]; decide⟩
theorem chB_read : prB [1, 2, 1, 3, 4, 0, 5, 6, 1, 97, 1, 98, 0, 0] = (chB, 0) := by rw [← chB_bytes]; exact prB_to chB_ok chB_pt
theorem LS.one {w : World} {q : Nat} {s : Spn} {B : Option Addr} {m d : Nat} (h : BSp w q s (.slice B m d)) (hA : AS w B m d s.ats) : LS w (some ⟨q, 0, none⟩) 1 1 [s] := by
  refine ⟨rfl, Nat.le_refl _, (by intro h; cases h), fun i hi => ?_, by simp⟩
  obtain rfl : i = 0 := by simp at hi; omega
  refine ⟨q, 0, B, m, d, rfl, fun j v hj => ?_, hA⟩
  simp only [Nat.zero_mul, Nat.zero_add]
  rw [cell_of h j]
  exact (List.getElem?_toArray ..).trans hj
theorem AS.none0 (w : World) : AS w none 0 0 [] := ⟨rfl, Nat.le_refl _, fun _ => rfl, Lies.nil _ _, (by intro a ha; cases ha), by decide⟩
theorem PrR.open {w w' : World} {e : Ending} {b : Bat} {k : Int} (h : PrR w w' e (b, k)) (hp : PtB b) (hl : ∀ s ∈ b.sp, s.ats.length ≤ 2199023255552) (hn : b.sp.length ≤ 1256584717421) :
    ∃ A c, e = .returned (.tuple #[.agg #[.int .i64 b.ag, .int .i64 b.sq, .slice A b.sp.length c], .int .i64 k]) ∧ LS w' A b.sp.length c b.sp ∧ Below w.heap.size w w' := by
  obtain ⟨v, rfl, ho, hb⟩ := h
  obtain ⟨A, n, c, rfl, hL⟩ := ho.ls hp hl hn
  obtain rfl := hL.len
  exact ⟨A, c, rfl, hL, hb⟩
set_option maxHeartbeats 4000000 in
set_option maxRecDepth 100000 in
theorem chapter_any (w : World) : Calls Try.prog 13 #[] w fun e w' => ∃ A c, e = .returned (.agg #[.int .i64 1, .int .i64 2, .slice A 1 c]) ∧ LS w' A 1 c chB.sp ∧ Below w.heap.size w w' := by
  go_enter Try.func13, Try.ntmps13
  go_wp2_with fail
  obtain ⟨W, hW⟩ : ∃ W, W = ((w.alloc (.cells #[.int .i64 1, .int .i64 2, .slice (some ⟨w.heap.size + 1, 0, none⟩) 1 1] 24)).alloc (.cells #[.int .i64 3, .int .i64 4, .int .i64 0, .string ⟨#[97]⟩, .string ⟨#[98]⟩, .int .i64 5, .int .i64 6, .string ⟨#[]⟩, .slice none 0 0] 32)) := ⟨_, rfl⟩
  have B4 : W.heap[w.heap.size]? = some (.cells #[.int .i64 1, .int .i64 2, .slice (some ⟨w.heap.size + 1, 0, none⟩) 1 1] 24 (0, 0)) := by
    rw [hW]; exact alloc_block (heap_alloc_new w _)
  have B5 : BSp W (w.heap.size + 1) chS (.slice none 0 0) := by
    rw [hW]
    have := BSp.new (w.alloc (.cells #[.int .i64 1, .int .i64 2, .slice (some ⟨w.heap.size + 1, 0, none⟩) 1 1] 24)) chS (.slice none 0 0)
    rw [World.size_alloc] at this
    exact this
  have HB : Below w.heap.size w W := by rw [hW]; exact nx (bel1 _ _) (bel1 _ _)
  first | rw [← hW] | skip
  clear hW
  have d0 := cell_of B4 0
  have d1 := cell_of B4 1
  have d2 := cell_of B4 2
  simp at d0 d1 d2
  refine bodyPost_ret (by simp [results, Try.results13, go_sem, d0, d1, d2]; try rfl) rfl ?_
  exact ⟨_, _, rfl, LS.one B5 (AS.none0 W), HB⟩

set_option maxHeartbeats 16000000 in
set_option maxRecDepth 100000 in
theorem works_any (w : World) : Calls Try.prog 6 #[] w fun e w' => e = .returned (.bool true) ∧ Below w.heap.size w w' := by
  go_enter Try.func6, Try.ntmps6
  go_wp2_with fail
  have WB : BS (w.alloc (.cells #[.int .u8 1, .int .u8 2, .int .u8 1, .int .u8 3, .int .u8 4, .int .u8 0, .int .u8 5, .int .u8 6, .int .u8 1, .int .u8 97, .int .u8 1, .int .u8 98, .int .u8 0, .int .u8 0] 5)) (some ⟨w.heap.size, 0, none⟩) 14 14 [1, 2, 1, 3, 4, 0, 5, 6, 1, 97, 1, 98, 0, 0] := BS.alloc w [1, 2, 1, 3, 4, 0, 5, 6, 1, 97, 1, 98, 0, 0] _ _ (by decide) (by decide)
  have hb1 : Below w.heap.size w (w.alloc (.cells #[.int .u8 1, .int .u8 2, .int .u8 1, .int .u8 3, .int .u8 4, .int .u8 0, .int .u8 5, .int .u8 6, .int .u8 1, .int .u8 97, .int .u8 1, .int .u8 98, .int .u8 0, .int .u8 0] 5)) := bel1 _ _
  obtain ⟨w1, hw1⟩ : ∃ W, W = w.alloc (.cells #[.int .u8 1, .int .u8 2, .int .u8 1, .int .u8 3, .int .u8 4, .int .u8 0, .int .u8 5, .int .u8 6, .int .u8 1, .int .u8 97, .int .u8 1, .int .u8 98, .int .u8 0, .int .u8 0] 5) := ⟨_, rfl⟩
  rw [← hw1] at WB hb1 ⊢
  have WB1 := Lib.hid WB
  have HB1 := Lib.hid hb1
  clear hw1 WB hb1
  refine (chapter_any _).mono ?_
  rintro e w2 ⟨A, c, rfl, hL, hb⟩
  have HL := Lib.hid hL
  have HB2 := Lib.hid (nx HB1.out hb)
  have WB2 := Lib.hid (WB1.out.below hb)
  clear hL hb HB1 WB1
  go_wp2_with fail
  refine (batBytes_any (b := chB) HL.out).mono ?_
  rw [btP_yes chB_ok, chB_bytes]
  intro e w3 hh
  obtain ⟨A2, n2, c2, rfl, hB, hb⟩ := hh.open (by decide) (by decide)
  obtain rfl : n2 = 14 := hB.len
  have HB3 := Lib.hid (nx HB2.out hb)
  have B3 := Lib.hid hB
  have WB3 := Lib.hid (WB2.out.below hb)
  clear hh hB hb HB2 WB2 HL
  go_wp2_with fail
  refine (batParse_any WB3.out).mono ?_
  rw [chB_read]
  intro e w4 hh
  obtain ⟨A4, c4, he, hL, hb⟩ := hh.open chB_pt (by decide) (by decide)
  replace he : e = .returned (.tuple #[.agg #[.int .i64 1, .int .i64 2, .slice A4 1 c4], .int .i64 0]) := he
  subst he
  have HB4 := Lib.hid (nx HB3.out hb)
  have B4 := Lib.hid (B3.out.below hb)
  have WB4 := Lib.hid (WB3.out.below hb)
  have L4 := Lib.hid (show LS w4 A4 1 c4 chB.sp from hL)
  clear hh hL hb HB3 B3 WB3
  go_wp2_with fail
  obtain ⟨W5, hW5⟩ : ∃ W, W = w4.alloc (.cells #[.int .i64 1, .int .i64 2, .slice A4 1 c4] 24) := ⟨_, rfl⟩
  have hb : Below w4.heap.size w4 W5 := by rw [hW5]; exact bel1 _ _
  have hq := heap_alloc_new w4 (.cells #[.int .i64 1, .int .i64 2, .slice A4 1 c4] 24)
  rw [← hW5] at hq ⊢
  obtain ⟨q, hqq⟩ : ∃ q, q = w4.heap.size := ⟨_, rfl⟩
  rw [← hqq] at hq ⊢
  have HB5 := Lib.hid (nx HB4.out hb)
  have B5 := Lib.hid (B4.out.below hb)
  have WB5 := Lib.hid (WB4.out.below hb)
  have L5 := Lib.hid (L4.out.below hb)
  have AK := Lib.hid (fun (w' : World) (h : Below W5.heap.size W5 w') => show Below W5.heap.size W5 w' ∧ w'.cell? ⟨q, 0, none⟩ = some (.int .i64 1) ∧ w'.cell? ⟨q, 1, none⟩ = some (.int .i64 2) ∧ w'.cell? ⟨q, 2, none⟩ = some (.slice A4 1 c4) from by
    have h' := (h.block _ (Array.getElem?_eq_some_iff.1 hq).1).trans hq
    have d0 := cell_of h' 0
    have d1 := cell_of h' 1
    have d2 := cell_of h' 2
    simp at d0 d1 d2
    exact ⟨h, d0, d1, d2⟩)
  clear hW5 hb hq hqq HB4 B4 WB4 L4
  refine wp_region_held_drew (S := (fun w' => Below W5.heap.size W5 w' ∧ w'.cell? ⟨q, 0, none⟩ = some (.int .i64 1) ∧ w'.cell? ⟨q, 1, none⟩ = some (.int .i64 2) ∧ w'.cell? ⟨q, 2, none⟩ = some (.slice A4 1 c4))) (by kernel_rfl) (AK.out _ (bel0 _).drew) (fun hHeld => ?_)
  refine' take_val (i := 0) (d := 17) (v := _) rfl rfl (by kernel_rfl) (by kernel_rfl) (by kernel_rfl) (fun _ _ _ h => h) (by rfl) ?_ (by assumption) ?_
  rotate_left
  · (intro w hSw; (try dsimp only at hSw); go_simp; (try with_reducible rfl))
  (try simp only [Act.put, List.setIfInBounds_toArray, List.set_cons_zero, List.set_cons_succ])
  refine' take_val (i := 1) (d := 18) (v := _) rfl rfl (by kernel_rfl) (by kernel_rfl) (by kernel_rfl) (fun _ _ _ h => h) (by rfl) ?_ (by assumption) ?_
  rotate_left
  · (intro w hSw; (try dsimp only at hSw); go_simp; (try with_reducible rfl))
  (try simp only [Act.put, List.setIfInBounds_toArray, List.set_cons_zero, List.set_cons_succ])
  refine' take_val (i := 2) (d := 19) (v := _) rfl rfl (by kernel_rfl) (by kernel_rfl) (by kernel_rfl) (fun _ _ _ h => h) (by rfl) ?_ (by assumption) ?_
  rotate_left
  · (intro w hSw; (try dsimp only at hSw); go_simp; (try with_reducible rfl))
  (try simp only [Act.put, List.setIfInBounds_toArray, List.set_cons_zero, List.set_cons_succ])
  refine' take_val (i := 3) (d := 20) (v := _) rfl rfl (by kernel_rfl) (by kernel_rfl) (by kernel_rfl) (fun _ _ _ h => h) (by rfl) ?_ (by assumption) ?_
  rotate_left
  · (intro w hSw; (try dsimp only at hSw); go_simp; (try with_reducible rfl))
  (try simp only [Act.put, List.setIfInBounds_toArray, List.set_cons_zero, List.set_cons_succ])
  refine' take_val (i := 4) (d := 21) (v := _) rfl rfl (by kernel_rfl) (by kernel_rfl) (by kernel_rfl) (fun _ _ _ h => h) (by rfl) ?_ (by assumption) ?_
  rotate_left
  · (intro w hSw; (try dsimp only at hSw); go_simp; (try with_reducible rfl))
  (try simp only [Act.put, List.setIfInBounds_toArray, List.set_cons_zero, List.set_cons_succ])
  refine wpAnyH_ready (rs := [5]) (by kernel_rfl) (by simp) ?_
  refine AllReadyH.cons rfl (fun K hK => ?_) AllReadyH.nil
  go_simp
  go_at_call 15
  refine (eqBytes_any A2 (some ⟨w.heap.size, 0, none⟩) 14 c2 14 14 [1, 2, 1, 3, 4, 0, 5, 6, 1, 97, 1, 98, 0, 0] [1, 2, 1, 3, 4, 0, 5, 6, 1, 97, 1, 98, 0, 0] _ (B5.out.below hHeld.1) (WB5.out.below hHeld.1)).mono ?_
  rintro r wb ⟨rfl, hbb⟩
  rw [decide_eq_true rfl]
  go_wp2_with fail
  refine hK.out _ _ (AK.out _ (nx hHeld.1 hbb)) (fun hHeld => ?_)
  clear hK K
  (try simp only [Act.put, List.setIfInBounds_toArray, List.set_cons_zero, List.set_cons_succ])
  refine' take_val (i := 6) (d := 23) (v := _) rfl rfl (by kernel_rfl) (by kernel_rfl) (by kernel_rfl) (fun _ _ _ h => h) (by rfl) ?_ (by assumption) ?_
  rotate_left
  · (intro w hSw; (try dsimp only at hSw); go_simp; (try with_reducible rfl))
  (try simp only [Act.put, List.setIfInBounds_toArray, List.set_cons_zero, List.set_cons_succ])
  refine' take_val (i := 7) (d := 24) (v := _) rfl rfl (by kernel_rfl) (by kernel_rfl) (by kernel_rfl) (fun _ _ _ h => h) (by rfl) ?_ (by assumption) ?_
  rotate_left
  · (intro w hSw; (try dsimp only at hSw); go_simp; (try with_reducible rfl))
  (try simp only [Act.put, List.setIfInBounds_toArray, List.set_cons_zero, List.set_cons_succ])
  refine' take_val (i := 8) (d := 25) (v := _) rfl rfl (by kernel_rfl) (by kernel_rfl) (by kernel_rfl) (fun _ _ _ h => h) (by rfl) ?_ (by assumption) ?_
  rotate_left
  · (intro w hSw; (try dsimp only at hSw); go_simp; (try with_reducible rfl))
  (try simp only [Act.put, List.setIfInBounds_toArray, List.set_cons_zero, List.set_cons_succ])
  refine' take_val (i := 9) (d := 26) (v := _) rfl rfl (by kernel_rfl) (by kernel_rfl) (by kernel_rfl) (fun _ _ _ h => h) (by rfl) ?_ (by assumption) ?_
  rotate_left
  · (intro w hSw; (try dsimp only at hSw); go_simp; (try with_reducible rfl))
  (try simp only [Act.put, List.setIfInBounds_toArray, List.set_cons_zero, List.set_cons_succ])
  refine' take_val (i := 10) (d := 27) (v := _) rfl rfl (by kernel_rfl) (by kernel_rfl) (by kernel_rfl) (fun _ _ _ h => h) (by rfl) ?_ (by assumption) ?_
  rotate_left
  · (intro w hSw; (try dsimp only at hSw); go_simp; (try with_reducible rfl))
  (try simp only [Act.put, List.setIfInBounds_toArray, List.set_cons_zero, List.set_cons_succ])
  refine' take_val (i := 11) (d := 28) (v := _) rfl rfl (by kernel_rfl) (by kernel_rfl) (by kernel_rfl) (fun _ _ _ h => h) (by rfl) ?_ (by assumption) ?_
  rotate_left
  · (intro w hSw; (try dsimp only at hSw); go_simp; (try with_reducible rfl))
  (try simp only [Act.put, List.setIfInBounds_toArray, List.set_cons_zero, List.set_cons_succ])
  refine' take_val (i := 12) (d := 29) (v := _) rfl rfl (by kernel_rfl) (by kernel_rfl) (by kernel_rfl) (fun _ _ _ h => h) (by rfl) ?_ (by assumption) ?_
  rotate_left
  · (intro w hSw; (try dsimp only at hSw); go_simp; (try with_reducible rfl))
  (try simp only [Act.put, List.setIfInBounds_toArray, List.set_cons_zero, List.set_cons_succ])
  refine wpAnyH_ready (rs := [13]) (by kernel_rfl) (by simp) ?_
  refine AllReadyH.cons rfl (fun K hK => ?_) AllReadyH.nil
  go_simp
  go_at_call 13
  refine (chapter_any _).mono ?_
  rintro r wb ⟨Ac, cc, rfl, hLc, hbb⟩
  have LC := Lib.hid hLc
  have HC := Lib.hid (nx hHeld.1 hbb)
  clear hLc
  go_wp2_with fail
  refine hK.out _ _ (AK.out _ (nx hHeld.1 hbb)) (fun hHeld => ?_)
  clear hK K
  (try simp only [Act.put, List.setIfInBounds_toArray, List.set_cons_zero, List.set_cons_succ])
  refine wpAnyH_ready (rs := [14]) (by kernel_rfl) (by simp) ?_
  refine AllReadyH.cons rfl (fun K hK => ?_) AllReadyH.nil
  go_simp
  go_at_call 16
  refine (refBatSame_any (a := chB) (b := chB) (L5.out.below HC.out) LC.out).mono ?_
  rintro r wc ⟨bb, rfl, hbb, hbc⟩
  have hbt := hbb.2 rfl
  subst hbt
  clear hbb
  go_wp2_with fail
  refine hK.out _ _ (AK.out _ (nx HC.out hbc)) (fun hHeld => ?_)
  clear hK K
  (try simp only [Act.put, List.setIfInBounds_toArray, List.set_cons_zero, List.set_cons_succ])
  refine' take_val (i := 15) (d := 32) (v := _) rfl rfl (by kernel_rfl) (by kernel_rfl) (by kernel_rfl) (fun _ _ _ h => h) (by rfl) ?_ (by assumption) ?_
  rotate_left
  · (intro w hSw; (try dsimp only at hSw); go_simp; (try with_reducible rfl))
  (try simp only [Act.put, List.setIfInBounds_toArray, List.set_cons_zero, List.set_cons_succ])
  refine' take_val (i := 16) (d := 0) (v := _) rfl rfl (by kernel_rfl) (by kernel_rfl) (by kernel_rfl) (fun _ _ _ h => h) (by rfl) ?_ (by assumption) ?_
  rotate_left
  · (intro w hSw; (try dsimp only at hSw); go_simp; (try with_reducible rfl))
  (try simp only [Act.put, List.setIfInBounds_toArray, List.set_cons_zero, List.set_cons_succ])
  refine wpAnyH_done (by kernel_rfl) ?_ _
  go_wp2_with fail
  go_ret
  exact ⟨rfl, nx HB5.out hHeld.1⟩
end Go.Proofs.Ytbhfbpaaghpadaa
/- Small lemmas for the laws on batches. No conditions. -/
set_option linter.unusedSimpArgs false
set_option linter.unusedVariables false
namespace Go.Proofs.Ytbhfbpaaghpadaa
open Go.RowKit

theorem bat_block {W : World} {q : Nat} {a s : Int} {v : Value} (h : W.heap[q]? = some (.cells #[.int .i64 a, .int .i64 s, v] 24 (0, 0))) :
    W.cell? ⟨q, 0, none⟩ = some (.int .i64 a) ∧ W.cell? ⟨q, 1, none⟩ = some (.int .i64 s) ∧ W.cell? ⟨q, 2, none⟩ = some v := ⟨cell_of h 0, cell_of h 1, cell_of h 2⟩
theorem blk_below {w w' : World} {q : Nat} {o : Obj} (h : w.heap[q]? = some o) (hb : Below w.heap.size w w') : w'.heap[q]? = some o := (hb.block _ (Array.getElem?_eq_some_iff.1 h).1).trans h
theorem btB_byt {b : Bat} (h : OkC b) (hp : PtB b) : Byt (btB b) := by
  unfold btB
  exact Byt.append (uN_byt _) (sps_len (fun s hs => ⟨h.sp s hs, hp s hs⟩)).1
end Go.Proofs.Ytbhfbpaaghpadaa
