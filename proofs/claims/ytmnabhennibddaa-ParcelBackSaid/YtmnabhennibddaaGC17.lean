/- parcel.number, slices.Equal of bytes, and parcel.first: their contracts. No conditions. -/
import Derived.Test.YtmnabhennibddaaGC14
import Derived.Test.YtmnabhennibddaaGC16
import Derived.BigRegion
import Derived.BigQuiet
import Derived.RegionTactic
import Derived.Deep.QuietTactic
set_option linter.unusedSimpArgs false
set_option linter.unusedVariables false
namespace Go.Proofs.Ytmnabhennibddaa
open Go.RowKit

set_option maxHeartbeats 4000000 in
theorem equal_any (A B : Option Addr) (n c k d : Nat) (l m : List Nat) (w : World) (hl : BS w A n c l) (hm : BS w B k d m) :
    Calls Try.prog 63 #[.slice A n c, .slice B k d] w fun e w' => e = .returned (.bool (decide (l = m))) ∧ Below w.heap.size w w' := by
  obtain rfl := hl.len
  obtain rfl := hm.len
  have HL := Lib.hid hl
  have HM := Lib.hid hm
  have hll := hl.lim
  have hmm := hm.lim
  clear hl hm
  by_cases hlen : l.length = m.length
  · have hd : ((l.length : Int) != (m.length : Int)) = false := by simp [hlen]
    have HLEN := Lib.hid hlen
    clear hlen
    go_enter Try.func63, Try.ntmps63
    go_wp2
    go_loopw [13] (fun i wr => ∃ k : Nat, k ≤ l.length ∧ i = .int .i64 k ∧ Hid (l.take k = m.take k) ∧ Below w.heap.size w wr) (fun i _ => l.length - (intOf i).toNat)
    case atStart => exact ⟨0, Nat.zero_le _, rfl, Lib.hid rfl, Below.refl _ _⟩
    case round =>
      obtain ⟨k, hk, rfl, HE, hb⟩ := hrel
      by_cases hlt : k < l.length
      · have hlt' : k < m.length := by rw [← HLEN.out]; exact hlt
        obtain ⟨ad, hA, hc2⟩ := HL.out.cellAt hb hlt
        obtain ⟨ad', hB, hc3⟩ := HM.out.cellAt (hb.mono (by exact Nat.le_refl _)) hlt'
        subst hA hB
        have hx : l[k] < 256 := HL.out.byt.at hlt
        have hy : m[k] < 256 := HM.out.byt.at hlt'
        have hl1 := take_snoc l k hlt
        have hm1 := take_snoc m k hlt'
        have HL1 := Lib.hid hl1
        have HM1 := Lib.hid hm1
        clear hl1 hm1
        by_cases he : l[k] = m[k]
        · have hd1 : ((l[k] : Int) != (m[k] : Int)) = false := by simp [he]
          have HEQ := Lib.hid he
          clear he
          go_wp2
          go_quiet (fail)
          go_wp2
          exact ⟨⟨k + 1, by omega, by go_num, Lib.hid (by rw [HL1.out, HM1.out, HE.out, HEQ.out]), below_drewN hb _⟩, by simp [intOf]; omega⟩
        · have hd1 : ((l[k] : Int) != (m[k] : Int)) = true := by simp; omega
          have hne : decide (l = m) = false := decide_eq_false (fun h => he (by subst h; rfl))
          have HNE := Lib.hid hne
          clear he hne
          go_wp2
          go_quiet (fail)
          go_wp2
          go_ret
          exact ⟨by rw [HNE.out]; rfl, below_drewN hb _⟩
      · have hyes : decide (l = m) = true := by
          have h1 := HE.out
          rw [List.take_of_length_le (by omega), List.take_of_length_le (by rw [← HLEN.out]; omega)] at h1
          exact decide_eq_true h1
        have HY := Lib.hid hyes
        clear hyes
        go_wp2
        go_ret
        exact ⟨by rw [HY.out]; rfl, hb⟩
  · have hd : ((l.length : Int) != (m.length : Int)) = true := by simp; omega
    have hne : decide (l = m) = false := decide_eq_false (fun h => hlen (by rw [h]))
    have HNE := Lib.hid hne
    clear hne
    go_enter Try.func63, Try.ntmps63
    go_wp2
    go_ret
    exact ⟨by rw [HNE.out]; rfl, Below.refl _ _⟩

/-- What number answers of a reader that has told nothing yet. -/
def numP (most : Nat) (l : List Nat) : Nat × Int × List Nat :=
  if (nb 9007199254740991 0 l).2.1 = 3 then (0, 3, (nb 9007199254740991 0 l).2.2) else if (nb 9007199254740991 0 l).2.1 ≠ 0 ∨ most < (nb 9007199254740991 0 l).1 then (0, 30, (nb 9007199254740991 0 l).2.2)
  else ((nb 9007199254740991 0 l).1, 0, (nb 9007199254740991 0 l).2.2)
/-- .. in memory. -/
def PNumR (w w' : World) (r : Ending) (lo g : Nat) (x : Nat × Int × List Nat) : Prop :=
  r = .returned (.tuple #[.int .i64 (x.1 : Int), .int .i64 x.2.1]) ∧ (x.2.1 = 0 → Rdr w' lo g 0 x.2.2) ∧ w.grownBy w' (some g)

set_option maxHeartbeats 4000000 in
set_option maxRecDepth 100000 in
theorem parNumber_any {lo g : Nat} {l : List Nat} {w : World} (most : Nat) (h : Rdr w lo g 0 l) :
    Calls Try.prog 61 #[.pointer (some ⟨g, 0, none⟩), .int .i64 most] w fun r w' => PNumR w w' r lo g (numP most l) := by
  have HR := Lib.hid (rdU_any h)
  clear h
  unfold numP
  have HR0 := HR.out
  clear HR
  generalize nb 9007199254740991 0 l = x at *
  obtain ⟨k, e, m⟩ := x
  simp only at HR0 ⊢
  have HR := Lib.hid HR0
  clear HR0
  by_cases h1 : e = 3
  · subst h1
    go_enter Try.func61, Try.ntmps61
    go_wp2_with fail
    refine HR.out.mono ?_
    rintro r w1 ⟨rfl, hr, hg⟩
    have H1 := Lib.hid hr
    clear hr
    go_wp2_with fail
    refine (Err_any H1.out).mono ?_
    rintro r w2 ⟨rfl, rfl⟩
    go_wp2_with fail
    go_ret2
    exact ⟨rfl, (by intro h; simp at h), hg⟩
  · rw [if_neg h1]
    by_cases h2 : e = 0
    · subst h2
      by_cases h3 : most < k
      · rw [if_pos (.inr h3)]
        have h3' : (most : Int) < (k : Int) := by omega
        go_enter Try.func61, Try.ntmps61
        go_wp2_with fail
        refine HR.out.mono ?_
        rintro r w1 ⟨rfl, hr, hg⟩
        have H1 := Lib.hid hr
        clear hr
        go_wp2_with fail
        refine (Err_any H1.out).mono ?_
        rintro r w2 ⟨rfl, rfl⟩
        go_wp2_with fail
        go_ret2
        exact ⟨rfl, (by intro h; simp at h), hg⟩
      · rw [if_neg (by omega)]
        have h3' : ¬ (most : Int) < (k : Int) := by omega
        go_enter Try.func61, Try.ntmps61
        go_wp2_with fail
        refine HR.out.mono ?_
        rintro r w1 ⟨rfl, hr, hg⟩
        have H1 := Lib.hid hr
        clear hr
        go_wp2_with fail
        refine (Err_any H1.out).mono ?_
        rintro r w2 ⟨rfl, rfl⟩
        go_wp2_with fail
        go_ret2
        exact ⟨rfl, fun _ => H1.out, hg⟩
    · rw [if_pos (.inl h2)]
      have h1' : (e == 3) = false := by simp; exact h1
      have h2' : (e != 0) = true := by simp; exact h2
      go_enter Try.func61, Try.ntmps61
      go_wp2_with fail
      refine HR.out.mono ?_
      rintro r w1 ⟨rfl, hr, hg⟩
      have H1 := Lib.hid hr
      clear hr
      go_wp2_with fail
      refine (Err_any H1.out).mono ?_
      rintro r w2 ⟨rfl, rfl⟩
      go_wp2_with fail
      go_ret2
      exact ⟨rfl, (by intro h; simp at h), hg⟩
end Go.Proofs.Ytmnabhennibddaa
