/- slices.Grow of a nil slice and slices.Concat of byte slices: their contracts. No conditions. -/
import Derived.Test.YtmnabhennibddaaGC07
import Derived.Lib.AppendZerosOnto
import Derived.Lib.Walk
set_option linter.unusedSimpArgs false
set_option linter.unusedVariables false
namespace Go.Proofs.Ytmnabhennibddaa
open Go.RowKit

set_option maxHeartbeats 4000000 in
set_option maxRecDepth 100000 in
theorem grow_any (n : Nat) (hn : n ≤ 140737488355328) (w : World) :
    Calls Try.prog 70 #[.slice none 0 0, .int .i64 n] w fun e w' => ∃ v, e = .returned v ∧ w'.ownsRow w.heap.size 5 1 v 0 [] ∧ Below w.heap.size w w' := by
  by_cases h0 : n = 0
  · subst h0
    go_enter Try.func70, Try.ntmps70
    go_wp2
    go_ret
    exact ⟨_, rfl, World.ownsRow_nil _ _ _ _, Below.refl _ _⟩
  · obtain ⟨i5, hi5, hz5, hs5, hb5⟩ := info_parts infoU8
    have hpos : 0 < n := by omega
    have hpos2 : (0 : Int) < (n : Int) := by omega
    have hrz : ∀ ty, (Builtin.append_ #[22, 3] ty #[.slice none 0 0, .int .i64 (n : Int)]).run Try.prog w =
        .ok (.slice (some ⟨w.heap.size, 0, none⟩) n (grownCap w n 0 5)) (w.drew.alloc (.cells ((#[] : Array Value) ++ Builtin.zeroCells (Value.int .u8 0).cells n ++ Builtin.zeroCells (Value.int .u8 0).cells (grownCap w n 0 5 - n)) 5)) := fun ty => by
      have h := Lib.run_append_grow_zeros (P := Try.prog) w 22 3 ty 5 i5 (.int .u8 0) .i64 .i64 Try.underlying22 Try.underlying3 hi5 hz5 none 0 0 [] (by rw [hs5]; exact run_firstCells_none w.drew 1 0 0 0) n hpos (by rw [hs5]; omega) (by omega) (by omega)
        (by rw [hb5]; omega) (by rw [hb5]; have := growslice_fits (need := 0 + n) (old := 0) (bytes := 1) (by omega) (by omega); exact this)
      simpa using h
    have hGn : n ≤ grownCap w n 0 5 := grownCap_ge w _ _ _
    have hGm := grownCap_le_maxLen w n 0 5 (by unfold maxLen; omega)
    generalize grownCap w n 0 5 = G at *
    have hG63 : G ≤ 9223372036854775807 := by unfold maxLen at hGm; omega
    go_enter Try.func70, Try.ntmps70
    go_wp2_with (at_builtin; refine Lib.wpList_append_run _ rfl _ _ _ _ rfl _ _ rfl rfl _ _ (hrz _) ?_)
    go_ret
    refine ⟨_, rfl, World.ownsRow_made _ _ _ (Nat.le_refl _) hGm ?_, (bel0 w).drew.alloc (Nat.le_refl _) _⟩
    simp [Builtin.zeroCells]
    omega

/-- Parts that lie one beside the other in a block. -/
structure Parts (w : World) (g : Nat) (ls : List (List Nat)) : Prop where
  row : ∃ vs t mk, w.heap[g]? = some (.cells vs t mk)
  at' : ∀ i (h : i < ls.length), ∃ A n c, w.cell? ⟨g, i, none⟩ = some (.slice A n c) ∧ BS w A n c ls[i]
theorem Parts.below {w w' : World} {g : Nat} {ls : List (List Nat)} (h : Parts w g ls) (hb : Below w.heap.size w w') : Parts w' g ls := by
  obtain ⟨vs, t, mk, e⟩ := h.row
  have hlt := (Array.getElem?_eq_some_iff.1 e).1
  have e' := hb.block g hlt
  refine ⟨⟨vs, t, mk, by rw [e', e]⟩, fun i hi => ?_⟩
  obtain ⟨A, n, c, h1, h2⟩ := h.at' i hi
  refine ⟨A, n, c, ?_, h2.below hb⟩
  rw [cell_of (by rw [e', e]) i, ← cell_of e i]; exact h1
theorem flat_snoc (ls : List (List Nat)) (k : Nat) (h : k < ls.length) : (ls.take (k + 1)).flatten = (ls.take k).flatten ++ ls[k] := by
  rw [take_snoc ls k h, List.flatten_append]; simp
theorem flat_le (ls : List (List Nat)) (k : Nat) : (ls.take k).flatten.length ≤ ls.flatten.length := by
  have h : ls.flatten = (ls.take k).flatten ++ (ls.drop k).flatten := by rw [← List.flatten_append, List.take_append_drop]
  rw [h, List.length_append]; omega

set_option maxHeartbeats 4000000 in
set_option maxRecDepth 100000 in
theorem concat_any {g : Nat} {ls : List (List Nat)} {w : World} (hp : Parts w g ls) (hl : ls.flatten.length ≤ 140737488354304) (hn : ls.length ≤ 4294967296) :
    Calls Try.prog 38 #[.slice (some ⟨g, 0, none⟩) ls.length ls.length] w fun e w' => ∃ v, e = .returned v ∧ w'.ownsRow w.heap.size 5 1 v ls.flatten.length (bv ls.flatten) ∧ Below w.heap.size w w' := by
  have HP := Lib.hid hp
  clear hp
  obtain ⟨T, hT⟩ : ∃ T, T = ls.flatten.length := ⟨_, rfl⟩
  rw [← hT] at hl ⊢
  have HT := Lib.hid hT
  clear hT
  have GR := Lib.hid (grow_any T (by omega))
  go_enter Try.func38, Try.ntmps38
  go_wp2_with fail
  go_loop [3, 11] (fun s i => ∃ k t : Nat, k ≤ ls.length ∧ i = .int .i64 k ∧ s = .int .i64 t ∧ Hid (t = (ls.take k).flatten.length)) (fun _ i => ls.length - (intOf i).toNat)
  case atStart => exact ⟨0, 0, Nat.zero_le _, rfl, rfl, Lib.hid rfl⟩
  case round =>
    obtain ⟨k, t, hk, rfl, rfl, HK⟩ := hrel
    by_cases hlt : k < ls.length
    · obtain ⟨A, n, c, hc, hB⟩ := HP.out.at' k hlt
      have hbl := hB.len
      have hts : t + n ≤ T := by
        have h1 := flat_le ls (k + 1)
        rw [flat_snoc ls k hlt, List.length_append, ← HK.out, ← hbl, ← HT.out] at h1
        exact h1
      have HB := Lib.hid hB
      have HBL := Lib.hid hbl
      clear hB hbl
      go_wp2_with fail
      exact ⟨⟨k + 1, t + n, by omega, by go_num, by go_num, Lib.hid (by rw [flat_snoc ls k hlt, List.length_append, ← HK.out, ← HBL.out])⟩, by simp [intOf]; omega⟩
    · obtain rfl : k = ls.length := by omega
      obtain rfl : t = T := by rw [HK.out, List.take_length, HT.out]
      go_wp2_with fail
      refine (GR.out w).mono ?_
      rintro e w1 ⟨v, rfl, ho, hb⟩
      have HO := Lib.hid ho
      clear ho
      have HP1 := Lib.hid (HP.out.below hb)
      go_wp2_with fail
      go_loopw [6, 27] (fun o i wr => ∃ k : Nat, k ≤ ls.length ∧ i = .int .i64 k ∧ Hid (wr.ownsRow w.heap.size 5 1 o (ls.take k).flatten.length (bv (ls.take k).flatten)) ∧ Below w.heap.size w wr) (fun _ i _ => ls.length - (intOf i).toNat)
      case atStart => exact ⟨0, Nat.zero_le _, rfl, HO, hb⟩
      case round =>
        clear HO hb HP1
        obtain ⟨k, hk, rfl, HO, hb⟩ := hrel
        by_cases hlt : k < ls.length
        · have hP := HP.out.below hb
          obtain ⟨A, n, c, hc, hB⟩ := hP.at' k hlt
          have hts : (ls.take k).flatten.length + ls[k].length ≤ 140737488354304 := by
            have h1 := flat_le ls (k + 1)
            rw [flat_snoc ls k hlt, List.length_append, ← HT.out] at h1
            omega
          have hfs := flat_snoc ls k hlt
          have HB := Lib.hid hB
          have HFS := Lib.hid hfs
          have HTS := Lib.hid hts
          clear hB hP hfs hts
          go_wp2_with (at_builtin; refine append_bytes rfl _ _ rfl w.heap.size _ (ls.take k).flatten ls[k] rfl HO.out A _ c rfl HB.out (by have := HTS.out; omega) hb.size ?_; intro v' w2 ho hg hv)
          have hb3 := hb.grown hg hb.size (own_block HO.out)
          have HO2 := Lib.hid ho
          clear ho hg hv
          go_wp2_with fail
          exact ⟨⟨k + 1, by omega, by go_num, Lib.hid (by rw [HFS.out]; exact HO2.out), hb3⟩, by simp [intOf]; omega⟩
        · obtain rfl : k = ls.length := by omega
          rw [List.take_length, ← HT.out] at HO
          go_wp2_with fail
          go_ret
          exact ⟨_, rfl, HO.out, hb⟩
end Go.Proofs.Ytmnabhennibddaa
