/- SameAttrs: its contract. No conditions. -/
import Derived.Test.YtmnabhennibddaaGD19
import Derived.Test.YtmnabhennibddaaGD20
import Derived.Laws.StructEq
set_option linter.unusedSimpArgs false
set_option linter.unusedVariables false
namespace Go.Proofs.Ytmnabhennibddaa
open Go.RowKit

set_option maxHeartbeats 8000000 in
set_option maxRecDepth 100000 in
theorem same_any {A B : Option Addr} {n c m d : Nat} {l r : List Att} {w : World} (h : AS w A n c l) (h2 : AS w B m d r) :
    Calls Try.prog 60 #[.slice A n c, .slice B m d] w fun e w' => ∃ b, e = .returned (.bool b) ∧ (b = true ↔ l = r) ∧ Below w.heap.size w w' := by
  obtain rfl := h.len
  obtain rfl := h2.len
  have HL := Lib.hid h
  have HM := Lib.hid h2
  have hlim := h.lim
  have hlim2 := h2.lim
  clear h h2
  by_cases hlen : l.length = r.length
  · have hd : ((l.length : Int) != (r.length : Int)) = false := by simp [hlen]
    have HLEN := Lib.hid hlen
    clear hlen
    go_enter Try.func60, Try.ntmps60
    go_wp2
    go_loopw [5] (fun i wr => ∃ k : Nat, k ≤ l.length ∧ i = .int .i64 k ∧ Hid (l.take k = r.take k) ∧ Below w.heap.size w wr) (fun i _ => l.length - (intOf i).toNat)
    case atStart => exact ⟨0, Nat.zero_le _, rfl, Lib.hid rfl, Below.refl _ _⟩
    case round =>
      obtain ⟨k, hk, rfl, HE, hb⟩ := hrel
      by_cases hlt : k < l.length
      · have hlt' : k < r.length := by rw [← HLEN.out]; exact hlt
        obtain ⟨g, o, hA, hc⟩ := HL.out.cellsAt hb hlt
        obtain ⟨g2, o2, hB, hc2⟩ := HM.out.cellsAt hb hlt'
        subst hA hB
        have haa : (⟨g, o, none⟩ : Addr).add (k * 6) = ⟨g, o + k * 6, none⟩ := addr_add _ _ _
        have haa2 : (⟨g2, o2, none⟩ : Addr).add (k * 6) = ⟨g2, o2 + k * 6, none⟩ := addr_add _ _ _
        have hl1 := take_snoc l k hlt
        have hm1 := take_snoc r k hlt'
        obtain ⟨a, ha⟩ : ∃ a, a = l[k] := ⟨_, rfl⟩
        obtain ⟨b, hb'⟩ : ∃ b, b = r[k] := ⟨_, rfl⟩
        rw [← ha] at hc hl1
        rw [← hb'] at hc2 hm1
        have hca0 : wr.cell? ⟨g, o + k * 6, none⟩ = some (.string a.name) := hc 0 _ rfl
        have hca1 := hc 1 _ rfl
        have hca2 := hc 2 _ rfl
        have hca3 := hc 3 _ rfl
        have hca4 := hc 4 _ rfl
        have hca5 := hc 5 _ rfl
        have hcb0 : wr.cell? ⟨g2, o2 + k * 6, none⟩ = some (.string b.name) := hc2 0 _ rfl
        have hcb1 := hc2 1 _ rfl
        have hcb2 := hc2 2 _ rfl
        have hcb3 := hc2 3 _ rfl
        have hcb4 := hc2 4 _ rfl
        have hcb5 := hc2 5 _ rfl
        have HL1 := Lib.hid hl1
        have HM1 := Lib.hid hm1
        clear hl1 hm1 hc hc2 ha hb'
        have hlt2 : (k : Int) < (r.length : Int) := by omega
        have heq := eqA_run a b
        have hiff := eqA_iff a b
        have HIFF := Lib.hid hiff
        generalize eqA a b = bb at *
        clear hiff
        cases bb with
        | true =>
          obtain rfl := HIFF.out.1 rfl
          go_wp2
          go_quiet (fail)
          go_wp2
          exact ⟨⟨k + 1, by omega, by go_num, Lib.hid (by rw [HL1.out, HM1.out, HE.out]), below_drewN hb _⟩, by simp [intOf]; omega⟩
        | false =>
          have hne : ¬ l = r := by
            intro e
            subst e
            have h1 := HL1.out
            rw [HM1.out] at h1
            have h2 := List.append_cancel_left h1
            injection h2 with h3
            have := HIFF.out.2 h3.symm
            simp at this
          have HNE := Lib.hid hne
          clear hne
          go_wp2
          go_quiet (fail)
          go_wp2
          go_ret
          exact ⟨false, rfl, ⟨(by intro h; cases h), fun h => absurd h HNE.out⟩, below_drewN hb _⟩
      · have hyes : l = r := by
          have h1 := HE.out
          rw [List.take_of_length_le (by omega), List.take_of_length_le (by rw [← HLEN.out]; omega)] at h1
          exact h1
        have HY := Lib.hid hyes
        clear hyes
        go_wp2
        go_ret
        exact ⟨true, rfl, ⟨fun _ => HY.out, fun _ => rfl⟩, hb⟩
  · have hd : ((l.length : Int) != (r.length : Int)) = true := by simp; omega
    have hne : ¬ l = r := fun h => hlen (by rw [h])
    have HNE := Lib.hid hne
    clear hne
    go_enter Try.func60, Try.ntmps60
    go_wp2
    go_ret
    exact ⟨false, rfl, ⟨(by intro h; cases h), fun h => absurd h HNE.out⟩, Below.refl _ _⟩
end Go.Proofs.Ytmnabhennibddaa
