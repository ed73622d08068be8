/- slices.Grow, Concat, Sort, Compact of numbers; posts.Or, Page: contracts. No conditions. -/
import Derived.Test.YthikhoamodcggaaPoD
import Derived.Sort.OwnSortedInts
import Derived.Lib.SlicesCompact
import Derived.Lib.AppendZerosOnto
import Derived.Lib.Walk
set_option linter.unusedSimpArgs false
set_option linter.unusedVariables false
namespace Go.Proofs.Ythikhoamodcggaa
open Go.RowKit

set_option maxHeartbeats 4000000 in
set_option maxRecDepth 100000 in
theorem growI_any (n : Nat) (hn : n ≤ 17592186044416) (w : World) :
    Calls Try.prog 51 #[.slice none 0 0, .int .i64 n] w fun e w' => ∃ v, e = .returned v ∧ w'.ownsRow w.heap.size 3 1 v 0 [] ∧ Below w.heap.size w w' := by
  by_cases h0 : n = 0
  · subst h0
    go_enter Try.func51, Try.ntmps51
    go_wp2
    go_ret
    exact ⟨_, rfl, World.ownsRow_nil _ _ _ _, Below.refl _ _⟩
  · obtain ⟨i5, hi5, hz5, hs5, hb5⟩ := info_parts infoI64
    have hpos : 0 < n := by omega
    have hpos2 : (0 : Int) < (n : Int) := by omega
    have hrz : ∀ ty, (Builtin.append_ #[23, 3] ty #[.slice none 0 0, .int .i64 (n : Int)]).run Try.prog w =
        .ok (.slice (some ⟨w.heap.size, 0, none⟩) n (grownCap w n 0 3)) (w.drew.alloc (.cells ((#[] : Array Value) ++ Builtin.zeroCells (Value.int .i64 0).cells n ++ Builtin.zeroCells (Value.int .i64 0).cells (grownCap w n 0 3 - n)) 3)) := fun ty => by
      have h := Lib.run_append_grow_zeros (P := Try.prog) w 23 3 ty 3 i5 (.int .i64 0) .i64 .i64 Try.underlying23 Try.underlying3 hi5 hz5 none 0 0 [] (by rw [hs5]; exact run_firstCells_none w.drew 1 0 0 0) n hpos (by rw [hs5]; omega) (by omega) (by omega)
        (by rw [hb5]; omega) (by rw [hb5]; have := growslice_fits (need := 0 + n) (old := 0) (bytes := 8) (by omega) (by omega); exact this)
      simpa using h
    have hGn : n ≤ grownCap w n 0 3 := grownCap_ge w _ _ _
    have hGm := grownCap_le_maxLen w n 0 3 (by unfold maxLen; omega)
    generalize grownCap w n 0 3 = G at *
    have hG63 : G ≤ 9223372036854775807 := by unfold maxLen at hGm; omega
    go_enter Try.func51, Try.ntmps51
    go_wp2_with (at_builtin; refine Lib.wpList_append_run _ rfl _ _ _ _ rfl _ _ rfl rfl _ _ (hrz _) ?_)
    go_ret
    refine ⟨_, rfl, World.ownsRow_made _ _ _ (Nat.le_refl _) hGm ?_, (bel0 w).drew.alloc (Nat.le_refl _) _⟩
    simp [Builtin.zeroCells]
    omega

theorem flat_snocI (ls : List (List Int)) (k : Nat) (h : k < ls.length) : (ls.take (k + 1)).flatten = (ls.take k).flatten ++ ls[k] := by
  rw [take_snoc ls k h, List.flatten_append]; simp
theorem flat_leI (ls : List (List Int)) (k : Nat) : (ls.take k).flatten.length ≤ ls.flatten.length := by
  have h : ls.flatten = (ls.take k).flatten ++ (ls.drop k).flatten := by rw [← List.flatten_append, List.take_append_drop]
  rw [h, List.length_append]; omega

set_option maxHeartbeats 8000000 in
set_option maxRecDepth 100000 in
theorem concatI_any {A : Option Addr} {n c : Nat} {ls : List (List Int)} {w : World} (hp : LL w A n c ls) (hl : ls.flatten.length ≤ 17592186044416) :
    Calls Try.prog 40 #[.slice A n c] w fun e w' => OneI w w' e ls.flatten := by
  obtain rfl := hp.len
  have HP := Lib.hid hp
  have hlim := hp.lim
  clear hp
  unfold OneI
  obtain ⟨T, hT⟩ : ∃ T, T = ls.flatten.length := ⟨_, rfl⟩
  rw [← hT] at hl ⊢
  have HT := Lib.hid hT
  clear hT
  have GR := Lib.hid (growI_any T (by omega))
  go_enter Try.func40, Try.ntmps40
  go_wp2_with fail
  go_loop [3, 11] (fun s i => ∃ k t : Nat, k ≤ ls.length ∧ i = .int .i64 k ∧ s = .int .i64 t ∧ Hid (t = (ls.take k).flatten.length)) (fun _ i => ls.length - (intOf i).toNat)
  case atStart => exact ⟨0, 0, Nat.zero_le _, rfl, rfl, Lib.hid rfl⟩
  case round =>
    obtain ⟨k, t, hk, rfl, rfl, HK⟩ := hrel
    by_cases hlt : k < ls.length
    · obtain ⟨b, o, B, n, c, hA, hc, hB⟩ := HP.out.at' k hlt
      have haa : (⟨b, o, none⟩ : Addr).add k = ⟨b, o + k, none⟩ := addr_add _ _ _
      have hbl := hB.len
      have hts : t + n ≤ T := by
        have h1 := flat_leI ls (k + 1)
        rw [flat_snocI ls k hlt, List.length_append, ← HK.out, ← hbl, ← HT.out] at h1
        exact h1
      have HB := Lib.hid hB
      have HBL := Lib.hid hbl
      subst hA
      clear hB hbl
      go_wp2_with fail
      exact ⟨⟨k + 1, t + n, by omega, by go_num, by go_num, Lib.hid (by rw [flat_snocI ls k hlt, List.length_append, ← HK.out, ← HBL.out])⟩, by simp [intOf]; omega⟩
    · obtain rfl : k = ls.length := by omega
      obtain rfl : t = T := by rw [HK.out, List.take_length, HT.out]
      go_wp2_with fail
      refine (GR.out w).mono ?_
      rintro e w1 ⟨v, rfl, ho, hb⟩
      have HO := Lib.hid ho
      clear ho
      go_wp2_with fail
      go_loopw [6, 27] (fun o i wr => ∃ (vo : Value) (k : Nat), vo = o ∧ k ≤ ls.length ∧ i = .int .i64 k ∧ Hid (wr.ownsRow w.heap.size 3 1 vo (ls.take k).flatten.length (iv (ls.take k).flatten)) ∧ Below w.heap.size w wr) (fun _ i _ => ls.length - (intOf i).toNat)
      case atStart => exact ⟨_, 0, rfl, Nat.zero_le _, rfl, HO, hb⟩
      case round =>
        clear HO hb
        obtain ⟨vo, k, rfl, hk, rfl, HO, hb⟩ := hrel
        by_cases hlt : k < ls.length
        · obtain ⟨b, o, B, n, c, hA, hc, hB⟩ := (HP.out.below hb).at' k hlt
          have haa : (⟨b, o, none⟩ : Addr).add k = ⟨b, o + k, none⟩ := addr_add _ _ _
          have hts : (ls.take k).flatten.length + ls[k].length ≤ 17592186044416 := by
            have h1 := flat_leI ls (k + 1)
            rw [flat_snocI ls k hlt, List.length_append, ← HT.out] at h1
            omega
          have hfs := flat_snocI ls k hlt
          have HB := Lib.hid hB
          have HFS := Lib.hid hfs
          have HTS := Lib.hid hts
          subst hA
          clear hB hfs hts
          go_wp2_with (at_builtin; refine append_ints rfl (.tmp 31) (.tmp 32) rfl w.heap.size vo (ls.take k).flatten ls[k] rfl HO.out B _ c rfl HB.out (by have := HTS.out; omega) hb.size ?_; intro v' w2 ho hg hv; have hb3 := hb.grown hg hb.size (own_block HO.out); have HO2 := Lib.hid ho; clear ho hg hv)
          exact ⟨⟨_, k + 1, rfl, by omega, by go_num, Lib.hid (by rw [HFS.out]; exact HO2.out), hb3⟩, by simp [intOf]; omega⟩
        · obtain rfl : k = ls.length := by omega
          rw [List.take_length, ← HT.out] at HO
          go_wp2_with fail
          go_ret
          exact ⟨_, rfl, HO.out, hb⟩

/-- slices.Sort of a slice of the call's own. -/
theorem sortI_any {base : Nat} {v : Value} {l : List Int} {w : World} (h : w.ownsRow base 3 1 v l.length (iv l)) (hl : l.length ≤ 17592186044416) :
    Calls Try.prog 41 #[v] w fun e w' => e = .returned (.tuple #[]) ∧ w'.ownsRow base 3 1 v l.length (iv (l.mergeSort fun x y => decide (x ≤ y))) ∧ w.grownBy w' v.ownBlock := by
  by_cases h0 : l = []
  · subst h0
    have hv : ∃ A c, v = .slice A 0 c := by
      rcases h.2 with ⟨hv, _⟩ | ⟨g, cap, cur, hv, _⟩
      · exact ⟨none, 0, hv⟩
      · exact ⟨some ⟨g, 0, none⟩, cap, hv⟩
    obtain ⟨A, c, rfl⟩ := hv
    refine (Try.slices_Sort_int_none A c w).mono ?_
    rintro e w' ⟨rfl, rfl⟩
    exact ⟨rfl, by simpa using h, grown_reflI _ _⟩
  · rcases h.2 with ⟨hv, hn⟩ | ⟨g, cap, cur, rfl, hb, hh, hn, hm, hs, ht⟩
    · exact absurd hn (by intro e; apply h0; simpa [iv] using e)
    · rw [Nat.mul_one] at ht
      have hlt := (Array.getElem?_eq_some_iff.1 hh).1
      refine (Try.slices_Sort_int g 0 cap l w (holds_of_blockI hh ht) hlt (by omega)).mono ?_
      rintro e w' ⟨rfl, q, os, rfl⟩
      exact ⟨rfl, ownsRow_sortedI (List.length_mergeSort _) hb hh hn hm hs, grownBy_sortedI _⟩
where
  grown_reflI (w : World) (row : Option Nat) : w.grownBy w row := ⟨rfl, rfl, rfl, Nat.le_refl _, fun _ _ _ => rfl⟩

/-- slices.Compact of a slice of the call's own. -/
theorem compactI_any {base : Nat} {v : Value} {l : List Int} {w : World} (h : w.ownsRow base 3 1 v l.length (iv l)) (hl : l.length ≤ 17592186044416) :
    Calls Try.prog 42 #[v] w fun e w' => ∃ v', e = .returned v' ∧ w'.ownsRow base 3 1 v' (Lib.compact l).length (iv (Lib.compact l)) ∧ w.grownBy w' v.ownBlock := by
  by_cases h0 : l = []
  · subst h0
    have hv : ∃ A c, v = .slice A 0 c := by
      rcases h.2 with ⟨hv, _⟩ | ⟨g, cap, cur, hv, _⟩
      · exact ⟨none, 0, hv⟩
      · exact ⟨some ⟨g, 0, none⟩, cap, hv⟩
    obtain ⟨A, c, rfl⟩ := hv
    refine (Try.slices_Compact_int_empty A c w).mono ?_
    rintro e w' ⟨rfl, rfl⟩
    exact ⟨_, rfl, h, ⟨rfl, rfl, rfl, Nat.le_refl _, fun _ _ _ => rfl⟩⟩
  · rcases h.2 with ⟨hv, hn⟩ | ⟨g, cap, cur, rfl, hb, hh, hn, hm, hs, ht⟩
    · exact absurd hn (by intro e; apply h0; simpa [iv] using e)
    · rw [Nat.mul_one] at ht
      refine (Try.slices_Compact_int g 0 cap l w (holds_of_blockI hh ht) (by omega) hn).mono ?_
      rintro e w' ⟨rfl, q, rfl⟩
      have hcl : (Lib.compact l).length ≤ l.length := by
        unfold Lib.compact Lib.compactUpTo
        rw [List.length_map]
        exact Nat.le_trans (List.length_filter_le _ _) (by simp)
      refine ⟨_, rfl, ⟨by simp [iv], .inr ⟨g, cap, Go.Sort.putCells (Value.int .i64) 0 (Lib.compact l ++ List.replicate (l.length - (Lib.compact l).length) 0).toArray cur, rfl, hb, ?_, by omega, hm, ?_, ?_⟩⟩, ?_⟩
      · have := heap_sortedI (n := q) (os := #[]) (Lib.compact l ++ List.replicate (l.length - (Lib.compact l).length) 0).toArray hh
        rw [Go.Sort.grow_empty] at this
        exact this
      · simp [Go.Sort.putCells, hs]
      · have h2 := take_putCellsI cur (Lib.compact l ++ List.replicate (l.length - (Lib.compact l).length) 0) (by rw [List.length_append, List.length_replicate]; omega)
        have h3 := congrArg (List.take (Lib.compact l).length) h2
        rw [List.take_take, Nat.min_eq_left (by rw [List.length_append]; omega), List.map_append, List.take_left' (by simp)] at h3
        rw [Nat.mul_one]
        exact h3
      · have := grownBy_sortedI (w := w) (g := g) (n := q) (os := #[]) (Lib.compact l ++ List.replicate (l.length - (Lib.compact l).length) 0).toArray
        rw [Go.Sort.grow_empty] at this
        exact this

/-- What Or answers: all numbers, in order, each once. -/
def orL (ls : List (List Int)) : List Int := Lib.compact (ls.flatten.mergeSort fun x y => decide (x ≤ y))
def orP (ls : List (List Int)) : List Int × Int := if allI ls then (orL ls, 0) else ([], 2)
theorem compact_step (d : Array Int) (m : Nat) (hm : m ≤ d.size) (hs : ∀ i j, i ≤ j → j < d.size → d[i]! ≤ d[j]!) (h0 : ∀ i, i < d.size → 0 ≤ d[i]!) :
    Inc (Lib.compactUpTo d m) ∧ (∀ x, x ∈ Lib.compactUpTo d m ↔ ∃ i, i < m ∧ d[i]! = x) := by
  induction m with
  | zero => exact ⟨by unfold Lib.compactUpTo; simp; exact inc_nil, fun x => by unfold Lib.compactUpTo; simp⟩
  | succ m ih =>
    obtain ⟨h1, h2⟩ := ih (by omega)
    rw [Lib.compactUpTo_succ]
    by_cases hk : Lib.keeps d m = true
    · rw [if_pos hk]
      have hlt : ∀ y ∈ Lib.compactUpTo d m, y < d[m]! := by
        intro y hy
        obtain ⟨i, hi, rfl⟩ := (h2 y).1 hy
        unfold Lib.keeps at hk
        have hk' := of_decide_eq_true hk
        rcases hk' with hk' | hk'
        · omega
        · have a := hs i (m - 1) (by omega) (by omega)
          have b := hs (m - 1) m (by omega) (by omega)
          omega
      refine ⟨⟨fun x hx => ?_, ?_⟩, fun x => ?_⟩
      · rcases List.mem_append.1 hx with hx | hx
        · exact h1.1 x hx
        · simp only [List.mem_singleton] at hx; rw [hx]; exact h0 m (by omega)
      · rw [List.pairwise_append]
        exact ⟨h1.2, List.pairwise_singleton _ _, fun x hx y hy => by simp only [List.mem_singleton] at hy; rw [hy]; exact hlt x hx⟩
      · rw [List.mem_append, h2 x, List.mem_singleton]
        constructor
        · rintro (⟨i, hi, rfl⟩ | rfl)
          · exact ⟨i, by omega, rfl⟩
          · exact ⟨m, by omega, rfl⟩
        · rintro ⟨i, hi, rfl⟩
          rcases Nat.lt_or_ge i m with h | h
          · exact .inl ⟨i, h, rfl⟩
          · exact .inr (by rw [show i = m by omega])
    · rw [if_neg hk, List.append_nil]
      refine ⟨h1, fun x => ?_⟩
      rw [h2 x]
      constructor
      · rintro ⟨i, hi, rfl⟩; exact ⟨i, by omega, rfl⟩
      · rintro ⟨i, hi, rfl⟩
        rcases Nat.lt_or_ge i m with h | h
        · exact ⟨i, h, rfl⟩
        · obtain rfl : i = m := by omega
          unfold Lib.keeps at hk
          have hk' : ¬ (i = 0 ∨ d[i]! ≠ d[i - 1]!) := fun h => hk (decide_eq_true h)
          exact ⟨i - 1, by omega, by have : ¬ d[i]! ≠ d[i - 1]! := fun h => hk' (.inr h); exact (Decidable.not_not.1 this).symm⟩
theorem compact_sorted {l : List Int} (hs : l.Pairwise (· ≤ ·)) (h0 : ∀ x ∈ l, 0 ≤ x) : Inc (Lib.compact l) ∧ ∀ x, x ∈ Lib.compact l ↔ x ∈ l := by
  have hg : ∀ i, (h : i < l.length) → l.toArray[i]! = l[i] := fun i h => by simp [h]
  obtain ⟨h1, h2⟩ := compact_step l.toArray l.length (by simp) (fun i j hij hj => by
    have hj' : j < l.length := by simpa using hj
    rw [hg i (by omega), hg j hj']
    rcases Nat.lt_or_ge i j with h | h
    · exact List.pairwise_iff_getElem.1 hs i j (by omega) hj' h
    · have : i = j := by omega
      subst this; exact Int.le_refl _) (fun i hi => by
    have hi' : i < l.length := by simpa using hi
    rw [hg i hi']; exact h0 _ (List.getElem_mem hi'))
  refine ⟨h1, fun x => (h2 x).trans ⟨?_, ?_⟩⟩
  · rintro ⟨i, hi, rfl⟩; rw [hg i hi]; exact List.getElem_mem hi
  · intro hx
    obtain ⟨i, hi, rfl⟩ := List.getElem_of_mem hx
    exact ⟨i, hi, hg i hi⟩
theorem orL_ok {ls : List (List Int)} (h : allI ls = true) : Inc (orL ls) ∧ ∀ x, x ∈ orL ls ↔ ∃ l ∈ ls, x ∈ l := by
  have hp : ∀ x, x ∈ (ls.flatten.mergeSort fun x y => decide (x ≤ y)) ↔ x ∈ ls.flatten := fun x => List.mem_mergeSort
  have hs : (ls.flatten.mergeSort fun x y => decide (x ≤ y)).Pairwise (· ≤ ·) := by
    have := List.pairwise_mergeSort (le := fun x y : Int => decide (x ≤ y)) (fun a b c hab hbc => by simp at *; omega) (fun a b => by simp; omega) ls.flatten
    exact this.imp (fun h => by simpa using h)
  have h0 : ∀ x ∈ (ls.flatten.mergeSort fun x y => decide (x ≤ y)), 0 ≤ x := by
    intro x hx
    obtain ⟨l, hl, hxl⟩ := List.mem_flatten.1 ((hp x).1 hx)
    have := List.all_eq_true.1 h l hl
    exact (of_decide_eq_true this).1 x hxl
  obtain ⟨h1, h2⟩ := compact_sorted hs h0
  exact ⟨h1, fun x => (h2 x).trans ((hp x).trans List.mem_flatten)⟩

set_option maxHeartbeats 8000000 in
theorem Or_any {A : Option Addr} {n c : Nat} {ls : List (List Int)} {w : World} (h : LL w A n c ls) (hl : ls.flatten.length ≤ 17592186044416) :
    Calls Try.prog 13 #[.slice A n c] w fun e w' => TwoI w w' e (orP ls).1 (orP ls).2 := by
  have HM := Lib.hid (may_anyI h)
  have HC := Lib.hid (fun (w' : World) (hb : Below w.heap.size w w') => concatI_any (h.below hb) hl)
  clear h
  unfold orP
  by_cases hi : allI ls = true
  · rw [if_pos hi]
    rw [hi] at HM
    clear hi
    unfold orL
    go_enter Try.func13, Try.ntmps13
    go_wp2_with fail
    refine HM.out.mono ?_
    rintro e w1 ⟨rfl, hb1⟩
    go_wp2_with fail
    refine (HC.out _ hb1).mono ?_
    rintro e w2 ⟨v, rfl, ho, hb2⟩
    have HO := Lib.hid ho
    clear ho
    have hbw2 := nx hb1 hb2
    have hz1 := hb1.size
    go_wp2_with fail
    refine (sortI_any HO.out hl).mono ?_
    rintro e w3 ⟨rfl, ho, hg3⟩
    have hb3 := grown_below hbw2 hg3 (fun k hk => Nat.le_trans hz1 (own_block HO.out k hk))
    have hll : ls.flatten.length = (ls.flatten.mergeSort fun x y => decide (x ≤ y)).length := (List.length_mergeSort _).symm
    rw [hll] at ho
    have HO3 := Lib.hid ho
    clear ho hg3
    go_wp2_with fail
    refine (compactI_any HO3.out (by rw [← hll]; exact hl)).mono ?_
    rintro e w4 ⟨v4, rfl, ho, hg4⟩
    have hb4 := grown_below hb3 hg4 (fun k hk => Nat.le_trans hz1 (own_block HO.out k hk))
    have HO4 := Lib.hid ho
    clear ho hg4 hll
    go_wp2_with fail
    go_ret2
    exact ⟨v4, rfl, ownsRow_base HO4.out hz1, hb4⟩
  · rw [if_neg hi]
    rw [Bool.not_eq_true] at hi
    rw [hi] at HM
    clear hi
    go_enter Try.func13, Try.ntmps13
    go_wp2_with fail
    refine HM.out.mono ?_
    rintro e w1 ⟨rfl, hb1⟩
    go_wp2_with fail
    go_ret2
    exact ⟨_, rfl, World.ownsRow_nil _ _ _ _, hb1⟩

/-- What Page answers. -/
def restP (l : List Int) (x : Int) : List Int := l.drop (l.countP (· < x))
def pageP (l : List Int) (x m : Int) : List Int × Int × Int := if Inc l then (if m < 1 then ([], 0, 9) else if m < (restP l x).length then ((restP l x).take m.toNat, (restP l x).getD m.toNat 0, 0) else (restP l x, 0, 0)) else ([], 0, 2)
def ThreeI (w w' : World) (e : Ending) (p : List Int × Int × Int) : Prop := ∃ v, e = .returned (.tuple #[v, .int .i64 p.2.1, .int .i64 p.2.2]) ∧ w'.ownsRow w.heap.size 3 1 v p.1.length (iv p.1) ∧ Below w.heap.size w w'
set_option maxHeartbeats 16000000 in
set_option maxRecDepth 100000 in
theorem Page_any {A : Option Addr} {n c : Nat} {l : List Int} {w : World} (x m : Int) (hm : I64 m) (h : IL w A n c l) :
    Calls Try.prog 21 #[.slice A n c, .int .i64 x, .int .i64 m] w fun e w' => ThreeI w w' e (pageP l x m) := by
  obtain ⟨L, rfl⟩ : ∃ L, L = n := ⟨_, rfl⟩
  have hL : L = l.length := h.len
  have HLL := Lib.hid hL
  have HL := Lib.hid h
  have hle : L ≤ c := by rw [hL]; exact h.le
  have hlim : L ≤ 17592186044416 := by rw [hL]; exact h.lim
  obtain ⟨W2, hW2⟩ : ∃ W, W = w.alloc (.cells #[.slice A L c] 23) := ⟨_, rfl⟩
  have hb2 : Below w.heap.size w W2 := by rw [hW2]; exact (bel0 w).alloc (Nat.le_refl _) _
  have HM : Hid (Calls Try.prog 32 #[.slice (some ⟨w.heap.size, 0, none⟩) 1 1] W2 fun e w' => e = .returned (.bool (decide (Inc l))) ∧ Below W2.heap.size W2 w') := Lib.hid (by
    have := may_anyI (LL.one h 23)
    rw [allI_one, ← hW2] at this
    exact this)
  have hm1 := hm.1
  have hm2 := hm.2
  clear h hL hm
  obtain ⟨X, hX⟩ : ∃ X, X = pageP l x m := ⟨_, rfl⟩
  rw [← hX]
  have HX := Lib.hid hX
  clear hX
  by_cases hi : Inc l
  · rw [decide_eq_true hi] at HM
    by_cases hneg : m < 1
    · have HX1 : Hid (X = ([], 0, 9)) := Lib.hid (by rw [HX.out]; unfold pageP; rw [if_pos hi, if_pos hneg])
      clear hi
      go_enter Try.func21, Try.ntmps21
      go_wp2_with fail
      rw [← hW2]
      refine HM.out.mono ?_
      rintro e w3 ⟨rfl, hb3⟩
      go_wp2_with fail
      go_ret3
      rw [HX1.out]
      exact ⟨_, rfl, World.ownsRow_nil _ _ _ _, nx hb2 hb3⟩
    · obtain ⟨k, hk⟩ : ∃ k, k = l.countP (· < x) := ⟨_, rfl⟩
      have hkl : k ≤ L := by rw [hk, HLL.out]; exact List.countP_le_length
      have HB := Lib.hid (fun (w' : World) (hb : Below w.heap.size w w') => bsearch_any x (HL.out.below hb) hi)
      rw [← hk] at HB
      have HDR := Lib.hid (fun (w' : World) (hb : Below w.heap.size w w') => (HL.out.below hb).dropA (k := k) (by rw [← HLL.out]; exact hkl))
      have hrl : (restP l x).length = L - k := by unfold restP; rw [List.length_drop, ← hk, HLL.out]
      have hre : restP l x = l.drop k := by unfold restP; rw [hk]
      have HX0 : Hid (X = if m < ((L - k : Nat) : Int) then ((l.drop k).take m.toNat, (l.drop k).getD m.toNat 0, 0) else (l.drop k, 0, 0)) := Lib.hid (by rw [HX.out]; unfold pageP; rw [if_pos hi, if_neg hneg, hrl, hre])
      obtain ⟨mm, rfl⟩ := Int.eq_ofNat_of_zero_le (show 0 ≤ m by omega)
      have q2 := fun w' => slice_dropI (w := w') (A := A) (n := L) (c := c) (k := k) hkl hle
      have k0 : (0 : Int) ≤ (k : Int) := by omega
      have k1 : (k : Int) ≤ (L : Int) := by omega
      by_cases hlt : mm < L - k
      · have HX1 : Hid (X = ((l.drop k).take mm, (l.drop k).getD mm 0, 0)) := Lib.hid (by rw [HX0.out, if_pos (by omega), Int.toNat_natCast])
        have hlti : (mm : Int) < ((L - k : Nat) : Int) := by omega
        have hldr : mm < (l.drop k).length := by rw [List.length_drop, ← HLL.out]; exact hlt
        obtain ⟨bD, oD, hAD⟩ := (HDR.out w (bel0 w)).plain (by omega)
        rw [hAD] at HDR q2
        have q3 := fun w' => slice_takeI (w := w') (A := some ⟨bD, oD, none⟩) (n := L - k) (c := c - k) (k := mm) (by omega)
        have hcel := Lib.hid (fun (w' : World) (hb : Below w.heap.size w w') => (HDR.out w' hb).cells (bel0 w') hldr)
        have HCL := Lib.hid (fun (w' : World) (hb : Below w.heap.size w w') => clone_ints ((HDR.out w' hb).cutN (k := mm) (by omega)))
        have haa : (⟨bD, oD, none⟩ : Addr).add mm = ⟨bD, oD + mm, none⟩ := addr_add _ _ _
        have HG := Lib.hid (show (l.drop k).getD mm 0 = (l.drop k)[mm] from by rw [List.getD_eq_getElem?_getD, List.getElem?_eq_getElem hldr]; rfl)
        generalize hy : (l.drop k)[mm] = y at *
        have hj0 : (0 : Int) ≤ (mm : Int) := by omega
        clear hi hk hre hrl hy hldr hAD
        generalize L - k = R at *
        go_enter Try.func21, Try.ntmps21
        go_wp2_with fail
        rw [← hW2]
        refine HM.out.mono ?_
        rintro e w3 ⟨rfl, hb3⟩
        have hbw3 := nx hb2 hb3
        go_wp2_with fail
        refine (HB.out _ hbw3).mono ?_
        rintro e w4 ⟨rfl, hb4⟩
        have hbw4 := nx hbw3 hb4
        have hc4 := hcel.out _ hbw4
        go_wp2_with fail
        refine (HCL.out _ hbw4).mono ?_
        rintro e w5 ⟨v, rfl, ho, hb5⟩
        have HO := Lib.hid ho
        clear ho
        go_wp2_with fail
        go_ret3
        rw [HX1.out, HG.out]
        exact ⟨v, rfl, ownsRow_base HO.out hbw4.size, nx hbw4 hb5⟩
      · have HX1 : Hid (X = (l.drop k, 0, 0)) := Lib.hid (by rw [HX0.out, if_neg (by omega)])
        have hlti : ¬ (mm : Int) < ((L - k : Nat) : Int) := by omega
        have HCL := Lib.hid (fun (w' : World) (hb : Below w.heap.size w w') => clone_ints (HDR.out w' hb))
        clear hi hk hre hrl
        generalize L - k = R at *
        go_enter Try.func21, Try.ntmps21
        go_wp2_with fail
        rw [← hW2]
        refine HM.out.mono ?_
        rintro e w3 ⟨rfl, hb3⟩
        have hbw3 := nx hb2 hb3
        go_wp2_with fail
        refine (HB.out _ hbw3).mono ?_
        rintro e w4 ⟨rfl, hb4⟩
        have hbw4 := nx hbw3 hb4
        go_wp2_with fail
        refine (HCL.out _ hbw4).mono ?_
        rintro e w5 ⟨v, rfl, ho, hb5⟩
        have HO := Lib.hid ho
        clear ho
        go_wp2_with fail
        go_ret3
        rw [HX1.out]
        exact ⟨v, rfl, ownsRow_base HO.out hbw4.size, nx hbw4 hb5⟩
  · rw [decide_eq_false hi] at HM
    have HX1 : Hid (X = ([], 0, 2)) := Lib.hid (by rw [HX.out]; unfold pageP; rw [if_neg hi])
    clear hi
    go_enter Try.func21, Try.ntmps21
    go_wp2_with fail
    rw [← hW2]
    refine HM.out.mono ?_
    rintro e w3 ⟨rfl, hb3⟩
    go_wp2_with fail
    go_ret3
    rw [HX1.out]
    exact ⟨_, rfl, World.ownsRow_nil _ _ _ _, nx hb2 hb3⟩
end Go.Proofs.Ythikhoamodcggaa
