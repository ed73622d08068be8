/- Texts as bytes: what lies in one, conversions there and back. No conditions. -/
import Derived.Test.YtmnabhennibddaaGD02
import Derived.Lib.AppendStr
import Derived.Laws.IdiomStrings
import Derived.Laws.BytesArg
set_option linter.unusedSimpArgs false
set_option linter.unusedVariables false
namespace Go.Proofs.Ytmnabhennibddaa
open Go.RowKit

/-- A text's bytes. -/
def sb (s : ByteArray) : List Nat := s.data.toList.map UInt8.toNat
theorem sb_length (s : ByteArray) : (sb s).length = s.size := by rw [sb, List.length_map, Array.length_toList]; rfl
theorem sb_byt (s : ByteArray) : Byt (sb s) := by
  intro x hx
  simp only [sb, List.mem_map] at hx
  obtain ⟨b, _, rfl⟩ := hx
  exact b.toNat_lt
theorem strCells_bv (s : ByteArray) : Lib.strCells s = bv (sb s) := by rw [Lib.strCells, bv, sb, List.map_map]; rfl
/-- The text of bytes. -/
def bs (l : List Nat) : ByteArray := ⟨(l.map UInt8.ofNat).toArray⟩
theorem bs_size (l : List Nat) : (bs l).size = l.length := by
  show (l.map UInt8.ofNat).toArray.size = _
  simp
theorem sb_bs {l : List Nat} (h : Byt l) : sb (bs l) = l := by
  rw [sb, bs]
  show ((l.map UInt8.ofNat).map UInt8.toNat) = l
  rw [List.map_map]
  conv => rhs; rw [← List.map_id l]
  apply List.map_congr_left
  intro x hx
  have := h x hx
  simp [UInt8.toNat_ofNat']
  omega
theorem bs_sb (s : ByteArray) : bs (sb s) = s := by
  cases s with
  | mk d =>
    rw [sb, bs, List.map_map]
    congr 1
    rw [show (UInt8.ofNat ∘ UInt8.toNat) = id from funext fun x => by simp]
    simp
theorem bs_nil : bs [] = ⟨#[]⟩ := rfl
theorem sb_inj {s t : ByteArray} (h : sb s = sb t) : s = t := by rw [← bs_sb s, ← bs_sb t, h]
theorem bs_inj {l m : List Nat} (hl : Byt l) (hm : Byt m) (h : bs l = bs m) : l = m := by rw [← sb_bs hl, ← sb_bs hm, h]

/-- A slice of bytes as a text. -/
theorem conv_back {w : World} {A : Option Addr} {n c : Nat} {l : List Nat} (h : BS w A n c l) : (convert 22 9 (.slice A n c)).run Try.prog w = .ok (.string (bs l)) w := by
  cases A with
  | none =>
    have : l = [] := by
      have h1 := h.nil rfl
      have h2 := h.le
      exact List.eq_nil_of_length_eq_zero (by omega)
    subst this
    exact run_convert_bytes_nil w _ _ Try.underlying22 Try.underlying5 _ _ _ Try.underlying9
  | some a =>
    have hn := h.len
    subst hn
    have := run_convert_bytes_back w 22 9 5 a c (l.map UInt8.ofNat) Try.underlying22 Try.underlying5 Try.underlying9 (by
      intro j hj
      rw [List.length_map] at hj
      obtain ⟨ad, e, hc⟩ := h.lies.byte hj
      cases e
      rw [hc]
      have := h.byt.at hj
      simp [UInt8.toNat_ofNat']
      omega)
    rw [List.length_map] at this
    exact this

/-- A text as a new slice of bytes. -/
theorem conv_str (w : World) (s : ByteArray) (hs : s.size ≤ 140737488354304) :
    ∃ c w', (convert 9 22 (.string s)).run Try.prog w = .ok (.slice (some ⟨w.heap.size, 0, none⟩) s.size c) w' ∧ BS w' (some ⟨w.heap.size, 0, none⟩) s.size c (sb s) ∧ Below w.heap.size w w' := by
  refine ⟨_, _, run_bytes_of_string w _ _ _ s Try.underlying9 Try.underlying22 Try.underlying5, ?_, (bel0 w).drew.alloc (Nat.le_refl _) _⟩
  have hc := grownCap_ge w s.size 0 5
  refine ⟨(sb_length s).symm, by rw [sb_length]; exact hc, (by intro h; cases h), ?_, sb_byt s, by rw [sb_length]; exact hs⟩
  intro i hi
  refine ⟨_, rfl, ?_⟩
  rw [length_bv, sb_length] at hi
  rw [addr_add, Nat.zero_add]
  show ((w.drew).alloc _).cell? ⟨(w.drew).heap.size, i, none⟩ = _
  rw [World.cell?_alloc_mark]
  have h1 : (s.data.map fun b => Value.int .u8 b.toNat).size = s.size := by rw [Array.size_map]; rfl
  rw [bytesRow, Array.getElem?_append_left (by rw [h1]; exact hi)]
  have h2 : i < s.data.size := hi
  simp only [bv, sb, List.getElem_map, Array.getElem?_map, Array.getElem?_eq_getElem h2, Option.map_some, Array.getElem_toList]
end Go.Proofs.Ytmnabhennibddaa
