/- Byte slices in the shelf's words, in this seat's words. No conditions. -/
import Derived.Test.YtbbejajnfajpoaaStr
import Derived.Test.YtbbejajnfajpoaaShelf
import Derived.Shelf.Bytes.SlSmallAll
set_option linter.unusedSimpArgs false
set_option linter.unusedVariables false
namespace Go.Proofs.Ytbbejajnfajpoaa
open Go.RowKit

theorem BS.bytesIn {w : World} {A : Option Addr} {n c : Nat} {l : List Nat} (h : BS w A n c l) : Lib.BytesIn w A n (l.map fun x : Nat => (x : Int)) := by
  have hn := h.len
  subst hn
  cases A with
  | none =>
    have := h.nil rfl
    have := h.le
    intro hp
    omega
  | some a =>
    refine Lib.BytesIn.of_cells fun i hi => ?_
    obtain ⟨ad, e, hc⟩ := h.lies.byte hi
    cases e
    rw [hc]
    simp [List.getD, hi]
theorem bytesOf_nat (l : List Nat) : Lib.bytesOf (l.map fun x : Nat => (x : Int)) = l.map UInt8.ofNat := by
  rw [Lib.bytesOf, List.map_map]
  rfl
theorem map_back {l : List Nat} (h : Byt l) : (l.map UInt8.ofNat).map UInt8.toNat = l := sb_bs h
theorem prefix_map {p l : List Nat} (hp : Byt p) (hl : Byt l) : (p.map UInt8.ofNat).isPrefixOf (l.map UInt8.ofNat) = decide (p <+: l) := by
  rw [Bool.eq_iff_iff, List.isPrefixOf_iff_prefix, decide_eq_true_eq]
  constructor
  · intro h
    have h2 := h.map UInt8.toNat
    rwa [map_back hp, map_back hl] at h2
  · exact fun h => h.map _
end Go.Proofs.Ytbbejajnfajpoaa
