/- The two Check of lists of numbers, the document's is: their contracts. No conditions. -/
import Derived.Test.YthikhoamodcggaaPo
set_option linter.unusedSimpArgs false
set_option linter.unusedVariables false
namespace Go.Proofs.Ythikhoamodcggaa
open Go.RowKit

set_option maxHeartbeats 8000000 in
theorem checkI_any {A : Option Addr} {n c : Nat} {l : List Int} {w : World} (h : IL w A n c l) :
    Calls Try.prog 27 #[.slice A n c] w fun e w' => e = .returned (.int .i64 (chkI l)) ∧ Below w.heap.size w w' := by
  obtain rfl := h.len
  have HL := Lib.hid h
  have hlim := h.lim
  clear h
  obtain ⟨X, hX⟩ : ∃ X, X = chkI l := ⟨_, rfl⟩
  rw [← hX]
  unfold chkI at hX
  have HY := Lib.hid (fun h : Inc l => hX.trans (if_pos h))
  have HN := Lib.hid (fun h : ¬ Inc l => hX.trans (if_neg h))
  clear hX
  go_enter Try.func27, Try.ntmps27
  go_wp2
  go_loop [7] (fun i => ∃ k : Nat, k ≤ l.length ∧ i = .int .i64 k ∧ Hid (Inc (l.take k))) (fun i => l.length - (intOf i).toNat)
  case atStart => exact ⟨0, Nat.zero_le _, rfl, Lib.hid (by rw [List.take_zero]; exact inc_nil)⟩
  case round =>
    obtain ⟨k, hk, rfl, HI⟩ := hrel
    by_cases hlt : k < l.length
    · obtain ⟨b, o, rfl⟩ := HL.out.plain (by omega)
      have hc := HL.out.cells (bel0 w) hlt
      have haa : (⟨b, o, none⟩ : Addr).add k = ⟨b, o + k, none⟩ := addr_add _ _ _
      have hf := HL.out.fit.at hlt
      by_cases hneg : l[k] < 0
      · have HX := Lib.hid (HN.out (inc_no1 hlt hneg))
        go_wp2
        go_ret
        rw [HX.out]
        exact ⟨rfl, bel0 w⟩
      · by_cases hk0 : k = 0
        · subst hk0
          rw [Nat.add_zero] at hc
          clear haa
          have HI1 := Lib.hid (inc_snoc0 hlt (by omega))
          go_wp2
          exact ⟨⟨1, by omega, rfl, HI1⟩, by simp [intOf]; omega⟩
        · obtain ⟨j, rfl⟩ : ∃ j, k = j + 1 := ⟨k - 1, by omega⟩
          have hc' := HL.out.cells (bel0 w) (show j < l.length by omega)
          have haa' : (⟨b, o, none⟩ : Addr).add j = ⟨b, o + j, none⟩ := addr_add _ _ _
          have hj0 : 0 < (j : Int) + 1 := by omega
          by_cases hle : l[j + 1] ≤ l[j]
          · have HX := Lib.hid (HN.out (inc_no2 hlt hle))
            go_wp2
            go_ret
            rw [HX.out]
            exact ⟨rfl, bel0 w⟩
          · have HI1 := Lib.hid (inc_snoc hlt HI.out (by omega))
            have hle' : ¬ l[j + 1] ≤ l[j] := hle
            go_wp2
            exact ⟨⟨j + 1 + 1, by omega, by go_num, HI1⟩, by simp [intOf]; omega⟩
    · obtain rfl : k = l.length := by omega
      have HX := Lib.hid (HY.out (by have := HI.out; rwa [List.take_length] at this))
      go_wp2
      go_ret
      rw [HX.out]
      exact ⟨rfl, bel0 w⟩

set_option maxHeartbeats 8000000 in
theorem refCheckI_any {A : Option Addr} {n c : Nat} {l : List Int} {w : World} (h : IL w A n c l) :
    Calls Try.prog 28 #[.slice A n c] w fun e w' => e = .returned (.int .i64 (chkI l)) ∧ Below w.heap.size w w' := by
  obtain rfl := h.len
  have HL := Lib.hid h
  have hlim := h.lim
  clear h
  obtain ⟨X, hX⟩ : ∃ X, X = chkI l := ⟨_, rfl⟩
  rw [← hX]
  unfold chkI at hX
  have HY := Lib.hid (fun h : Inc l => hX.trans (if_pos h))
  have HN := Lib.hid (fun h : ¬ Inc l => hX.trans (if_neg h))
  clear hX
  go_enter Try.func28, Try.ntmps28
  go_wp2
  go_loopw [3] (fun i wr => ∃ k : Nat, k ≤ l.length ∧ i = .int .i64 k ∧ Hid (Inc (l.take k)) ∧ Below w.heap.size w wr) (fun i _ => l.length - (intOf i).toNat)
  case atStart => exact ⟨0, Nat.zero_le _, rfl, Lib.hid (by rw [List.take_zero]; exact inc_nil), bel0 w⟩
  case round =>
    obtain ⟨k, hk, rfl, HI, hb⟩ := hrel
    by_cases hlt : k < l.length
    · obtain ⟨b, o, rfl⟩ := HL.out.plain (by omega)
      have hc := HL.out.cells hb hlt
      have haa : (⟨b, o, none⟩ : Addr).add k = ⟨b, o + k, none⟩ := addr_add _ _ _
      have hf := HL.out.fit.at hlt
      by_cases hneg : l[k] < 0
      · have HX := Lib.hid (HN.out (inc_no1 hlt hneg))
        have hd : decide (l[k] < 0) = true := decide_eq_true hneg
        go_wp2
        go_quiet (fail)
        go_wp2
        go_ret
        rw [HX.out]
        exact ⟨rfl, below_drewN hb _⟩
      · have hd : decide (l[k] < 0) = false := decide_eq_false hneg
        by_cases hk0 : k = 0
        · subst hk0
          rw [Nat.add_zero] at hc
          clear haa
          have HI1 := Lib.hid (inc_snoc0 hlt (by omega))
          go_wp2
          go_quiet (fail)
          go_wp2
          exact ⟨⟨1, by omega, rfl, HI1, below_drewN hb _⟩, by simp [intOf]; omega⟩
        · obtain ⟨j, rfl⟩ : ∃ j, k = j + 1 := ⟨k - 1, by omega⟩
          have hc' := HL.out.cells hb (show j < l.length by omega)
          have haa' : (⟨b, o, none⟩ : Addr).add j = ⟨b, o + j, none⟩ := addr_add _ _ _
          have hj0 : 0 < (j : Int) + 1 := by omega
          have hj1 : decide (0 < (j : Int) + 1) = true := decide_eq_true hj0
          have hw1 : IntKind.i64.wrap ((j : Int) + 1 - 1) = (j : Int) := by rw [Int.add_sub_cancel]; exact IntWalk.i64_in _ (by omega)
          by_cases hle : l[j + 1] ≤ l[j]
          · have HX := Lib.hid (HN.out (inc_no2 hlt hle))
            have hd2 : decide (l[j + 1] ≤ l[j]) = true := decide_eq_true hle
            go_wp2
            go_quiet (fail)
            go_wp2
            go_ret
            rw [HX.out]
            exact ⟨rfl, below_drewN hb _⟩
          · have HI1 := Lib.hid (inc_snoc hlt HI.out (by omega))
            have hd2 : decide (l[j + 1] ≤ l[j]) = false := decide_eq_false hle
            go_wp2
            go_quiet (fail)
            go_wp2
            exact ⟨⟨j + 1 + 1, by omega, by go_num, HI1, below_drewN hb _⟩, by simp [intOf]; omega⟩
    · obtain rfl : k = l.length := by omega
      have HX := Lib.hid (HY.out (by have := HI.out; rwa [List.take_length] at this))
      go_wp2
      go_ret
      rw [HX.out]
      exact ⟨rfl, hb⟩

set_option maxHeartbeats 8000000 in
theorem refIs_any {A : Option Addr} {n c : Nat} {l : List Int} {w : World} (x : Int) (hx : I64 x) (h : IL w A n c l) :
    Calls Try.prog 39 #[.slice A n c, .int .i64 x] w fun e w' => e = .returned (.bool (decide (x ∈ l))) ∧ Below w.heap.size w w' := by
  obtain rfl := h.len
  have HL := Lib.hid h
  have hlim := h.lim
  clear h
  obtain ⟨X, hX⟩ : ∃ X, X = decide (x ∈ l) := ⟨_, rfl⟩
  rw [← hX]
  have HY := Lib.hid (fun h : x ∈ l => hX.trans (decide_eq_true h))
  have HN := Lib.hid (fun h : ¬ x ∈ l => hX.trans (decide_eq_false h))
  have hx1 := hx.1
  have hx2 := hx.2
  clear hX hx
  go_enter Try.func39, Try.ntmps39
  go_wp2
  go_loop [5] (fun i => ∃ k : Nat, k ≤ l.length ∧ i = .int .i64 k ∧ Hid (¬ x ∈ l.take k)) (fun i => l.length - (intOf i).toNat)
  case atStart => exact ⟨0, Nat.zero_le _, rfl, Lib.hid (by simp)⟩
  case round =>
    obtain ⟨k, hk, rfl, HI⟩ := hrel
    by_cases hlt : k < l.length
    · obtain ⟨b, o, rfl⟩ := HL.out.plain (by omega)
      have hc := HL.out.cells (bel0 w) hlt
      have haa : (⟨b, o, none⟩ : Addr).add k = ⟨b, o + k, none⟩ := addr_add _ _ _
      have hf := HL.out.fit.at hlt
      by_cases he : l[k] = x
      · have HX := Lib.hid (HY.out (he ▸ List.getElem_mem hlt))
        have hd : (l[k] == x) = true := by simpa using he
        clear he
        go_wp2
        go_ret
        rw [HX.out]
        exact ⟨rfl, bel0 w⟩
      · have hd : (l[k] == x) = false := by simpa using he
        have HI1 := Lib.hid (show ¬ x ∈ l.take (k + 1) by
          rw [take_snocI l k hlt]
          intro hm
          rcases List.mem_append.1 hm with hm | hm
          · exact HI.out hm
          · simp only [List.mem_singleton] at hm; exact he hm.symm)
        clear he
        go_wp2
        exact ⟨⟨k + 1, by omega, by go_num, HI1⟩, by simp [intOf]; omega⟩
    · obtain rfl : k = l.length := by omega
      have HX := Lib.hid (HN.out (by have := HI.out; rwa [List.take_length] at this))
      go_wp2
      go_ret
      rw [HX.out]
      exact ⟨rfl, bel0 w⟩
end Go.Proofs.Ythikhoamodcggaa
