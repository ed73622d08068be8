/- bytes.Join of four parts, nothing between them: its contract. No conditions. -/
import Derived.Test.YtbbejajnfajpoaaPreA
set_option linter.unusedSimpArgs false
set_option linter.unusedVariables false
namespace Go.Proofs.Ytbbejajnfajpoaa
open Go.RowKit

theorem BS.holds {w : World} {A : Option Addr} {n c : Nat} {l : List Nat} (h : BS w A n c l) : Lib.HoldsBytes w (.slice A n c) (l.map UInt8.ofNat) := by
  refine ⟨A, c, by rw [List.length_map, h.len], ?_, ?_⟩
  · intro e
    have h1 := h.nil e
    have h2 := h.le
    have : l = [] := List.eq_nil_of_length_eq_zero (by omega)
    rw [this]; rfl
  · intro a e i x hx
    rw [List.getElem?_map] at hx
    obtain ⟨y, hy, rfl⟩ := Option.map_eq_some_iff.1 hx
    obtain ⟨hil, rfl⟩ := List.getElem?_eq_some_iff.1 hy
    obtain ⟨ad, e2, hc⟩ := h.lies.byte hil
    have : ad = a := by rw [e] at e2; injection e2 with e3; exact e3.symm
    subst this
    rw [hc, UInt8.toNat_ofNat']
    have := h.byt.at hil
    congr 2
    omega
/-- A fresh slice of bytes, in this seat's words. -/
theorem fresh_bs {B : Nat} {w : World} {v : Value} {l : List Nat} (h : Lib.FreshBytes B w v (l.map UInt8.ofNat)) (hb : Byt l) (hl : l.length ≤ 140737488354304) :
    ∃ g c, v = .slice (some ⟨g, 0, none⟩) l.length c ∧ B ≤ g ∧ BS w (some ⟨g, 0, none⟩) l.length c l := by
  obtain ⟨g, c, zs, rfl, hg, hlc, hcm, hz, hzr, hzb, hc, _⟩ := h
  rw [List.length_map] at hlc hzb ⊢
  refine ⟨g, c, rfl, hg, rfl, hlc, (by intro e; cases e), ?_, hb, hl⟩
  intro i hi
  rw [length_bv] at hi
  refine ⟨_, rfl, ?_⟩
  rw [addr_add, Nat.zero_add, hc i (by omega)]
  have h1 : i < zs.length := by omega
  have h2 : (zs.take l.length)[i]? = some zs[i] := by rw [List.getElem?_take_of_lt hi, List.getElem?_eq_getElem h1]
  have h3 : (Lib.bytesOf (zs.take l.length))[i]? = some (UInt8.ofNat zs[i].toNat) := by rw [Lib.bytesOf, List.getElem?_map, h2]; rfl
  rw [hzb, List.getElem?_map, List.getElem?_eq_getElem hi] at h3
  simp only [Option.map_some, Option.some.injEq] at h3
  have h4 := congrArg UInt8.toNat h3
  rw [UInt8.toNat_ofNat', UInt8.toNat_ofNat'] at h4
  have h5 := hb.at hi
  have h6 := hzr zs[i] (List.getElem_mem h1)
  have h7 : zs[i] = (l[i] : Int) := by omega
  simp [bv, List.getD, h1, h7]
theorem join4 (a b c d : List UInt8) : Lib.join [a, b, c, d] [] = a ++ b ++ c ++ d := by
  simp [Lib.join, List.intercalate, List.intersperse]
theorem cell_of2 {w : World} {g : Nat} {C : Array Value} {t : TypeId} {m : Nat × Nat} (h : w.heap[g]? = some (.cells C t m)) (i : Nat) : w.cell? ⟨g, i, none⟩ = C[i]? := by
  simp [World.cell?, h]
theorem join_any {A B C D : Option Addr} {n m k j cA cB cC cD g : Nat} {a b c d : List Nat} {w : World} (hA : BS w A n cA a) (hB : BS w B m cB b) (hC : BS w C k cC c) (hD : BS w D j cD d) (hl : (a ++ b ++ c ++ d).length ≤ 140737488354304)
    (hg : ∃ t mk, w.heap[g]? = some (.cells #[.slice A n cA, .slice B m cB, .slice C k cC, .slice D j cD] t mk)) :
    Calls Try.prog 24 #[.slice (some ⟨g, 0, none⟩) 4 4, .slice none 0 0] w fun e w' => ∃ h r, e = .returned (.slice (some ⟨h, 0, none⟩) (a ++ b ++ c ++ d).length r) ∧ BS w' (some ⟨h, 0, none⟩) (a ++ b ++ c ++ d).length r (a ++ b ++ c ++ d) ∧ Below w.heap.size w w' := by
  obtain ⟨t, mk, hg⟩ := hg
  have hbt := ((hA.byt.append hB.byt).append hC.byt).append hD.byt
  have hcell : ∀ i v, #[Value.slice A n cA, Value.slice B m cB, Value.slice C k cC, Value.slice D j cD][i]? = some v → w.cell? ⟨g, i, none⟩ = some v := by
    intro i v hv
    rw [cell_of2 hg]; exact hv
  refine (Try.bytes_Join_many g 0 4 4 [.slice A n cA, .slice B m cB, .slice C k cC, .slice D j cD] [a.map UInt8.ofNat, b.map UInt8.ofNat, c.map UInt8.ofNat, d.map UInt8.ofNat] (.slice none 0 0) [] w rfl (by omega) ⟨rfl, ?_, ?_⟩ (Nat.le_refl _) ⟨none, 0, rfl, fun _ => rfl, fun a h => by cases h⟩ (by omega) ?_).mono ?_
  · intro i v hv
    rw [addr_add, Nat.zero_add]
    refine hcell i v ?_
    rw [← hv]
    simp
  · intro i v l hv hl
    match i, hv, hl with
    | 0, hv, hl => cases hv; cases hl; exact hA.holds
    | 1, hv, hl => cases hv; cases hl; exact hB.holds
    | 2, hv, hl => cases hv; cases hl; exact hC.holds
    | 3, hv, hl => cases hv; cases hl; exact hD.holds
  · simp only [Lib.lens, List.map_cons, List.map_nil, List.length_map, List.sum_cons, List.sum_nil, List.length_nil]
    simp only [List.length_append] at hl
    omega
  · rintro e w' ⟨v', rfl, hf, hb⟩
    rw [join4, ← List.map_append, ← List.map_append, ← List.map_append] at hf
    obtain ⟨h, r, rfl, _, hBS⟩ := fresh_bs hf hbt hl
    exact ⟨h, r, rfl, hBS, hb⟩
end Go.Proofs.Ytbbejajnfajpoaa
