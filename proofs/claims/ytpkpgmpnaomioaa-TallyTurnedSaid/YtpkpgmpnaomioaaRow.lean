/- How a row's arguments are opened into the words of this seat's walks. No conditions. -/
import Derived.Test.YtpkpgmpnaomioaaLib
import Derived.ProofKit
import Derived.OpenShut
import Derived.ShutString
import Derived.ChangeOld
import Derived.SizedLaws
import Derived.ChangeSlices
namespace Go.Proofs.Ytpkpgmpnaomioaa
open Go.ChangeShapes Go.WideShapes Go.ChangeAt Go.RowKit

/-- Numbers as values. -/
def iv (l : List Int) : List Value := l.map (Value.int .i64)
/-- Each fits 64 bits. -/
def I64 (n : Int) : Prop := -9223372036854775808 ≤ n ∧ n ≤ 9223372036854775807
/-- An argument that is a slice of numbers. -/
structure IS (w : World) (A : Option Addr) (c : Nat) (l : List Int) : Prop where
  le : l.length ≤ c
  nil : A = none → c = 0
  lies : Lies w A (iv l)
  fit : ∀ n ∈ l, I64 n
  lim : l.length * 8 ≤ 140737488351232

theorem i64_wf {n : Int} (h : (Lit.int .i64 n).wf = true) : I64 n := by
  have := bounds_i64 h
  exact ⟨by omega, by omega⟩

/-- A slice of whole numbers out of a row's reading. -/
theorem row_ints {H : Type} {enc : TypeId × Value → H} {P : Program} {W : World} {base : Nat} {spare : Nat → Bool} {held : Bool} {t e : TypeId} {k : IntKind} {a : Option Addr} {len cap : Nat} {d : DataW H} {ps : List MemPlace} {ts : List TypeId} {ds : List (DataW H)} {j B : Nat}
    (hsz : (DataW.weightsEach P ts ds).all (· ≤ reachBytes) = true) (ht : ts[j]? = some t) (hd : ds[j]? = some d) (hu : P.underlying t = some (.slice e)) (he : P.underlying e = some (.int k)) (hc : P.cellsOf e = 1) (hB : P.bytesOf e = B)
    (h : DataW.Trod enc P W base spare held t (.slice a len cap) d ps) :
    ∃ zs : List Int, zs.length = len ∧ len ≤ cap ∧ (a = none → cap = 0) ∧ Lies W a (zs.map (Value.int k)) ∧ (∀ n ∈ zs, (Lit.int k n).wf = true) ∧ len * B ≤ 140737488351232 := by
  obtain ⟨fuel, hf⟩ := h
  rcases open_ints hu he hc hf with ⟨hcs, _⟩ | ⟨x, l, c, zs, hcs, _, hl, _, hz, hx, hcell, hwf⟩
  · simp [Value.cells] at hcs
    obtain ⟨rfl, rfl, rfl⟩ := hcs
    exact ⟨[], rfl, Nat.le_refl _, fun _ => rfl, Lies.nil _ _, by simp, by simp⟩
  · simp [Value.cells] at hcs
    obtain ⟨rfl, rfl, rfl⟩ := hcs
    obtain ⟨hx, _⟩ := Prod.mk.inj hx
    subst hx
    have z := sized_slice hsz ht hd hu
    rw [hB] at z
    have hl2 : len ≤ zs.length := by
      rw [hz]
      split
      · exact hl
      · exact Nat.le_refl _
    have h1 : (lits (H := H) k (zs.take len)).length + (lits (H := H) k (zs.drop len)).length = zs.length := by
      simp [lits]
      omega
    rw [h1] at z
    refine ⟨zs.take len, by simp; omega, hl, (by intro h; cases h), ?_, fun n hn => hwf n (List.mem_of_mem_take hn), Nat.le_trans (Nat.mul_le_mul_right _ hl2) z⟩
    intro i hi
    have hi' : i < len := by simp at hi; omega
    refine ⟨x, rfl, ?_⟩
    rw [hcell i (by omega)]
    simp [List.getElem_take, List.getD_eq_getElem?_getD, List.getElem?_eq_getElem (show i < zs.length by omega)]

theorem row_bytes {W : World} {a : Option Addr} {len cap : Nat} (h : ∃ zs : List Int, zs.length = len ∧ len ≤ cap ∧ (a = none → cap = 0) ∧ Lies W a (zs.map (Value.int .u8)) ∧ (∀ n ∈ zs, (Lit.int .u8 n).wf = true) ∧ len * 1 ≤ 140737488351232) :
    ∃ l : List Nat, len = l.length ∧ BS W a l.length cap l := by
  obtain ⟨zs, rfl, h1, h2, h3, h4, h5⟩ := h
  refine ⟨zs.map Int.toNat, by simp, ⟨rfl, by simpa using h1, h2, ?_, ?_, by simpa using h5⟩⟩
  · have : bv (zs.map Int.toNat) = zs.map (Value.int .u8) := by
      unfold bv
      rw [List.map_map]
      apply List.map_congr_left
      intro n hn
      have := bounds_u8 (h4 n hn)
      simp only [Function.comp_apply]
      congr 1
      omega
    rw [this]
    exact h3
  · intro x hx
    obtain ⟨n, hn, rfl⟩ := List.mem_map.1 hx
    have := bounds_u8 (h4 n hn)
    omega

theorem row_i64s {W : World} {a : Option Addr} {len cap : Nat} (h : ∃ zs : List Int, zs.length = len ∧ len ≤ cap ∧ (a = none → cap = 0) ∧ Lies W a (zs.map (Value.int .i64)) ∧ (∀ n ∈ zs, (Lit.int .i64 n).wf = true) ∧ len * 8 ≤ 140737488351232) :
    ∃ l : List Int, len = l.length ∧ IS W a cap l := by
  obtain ⟨zs, rfl, h1, h2, h3, h4, h5⟩ := h
  exact ⟨zs, rfl, ⟨h1, h2, h3, fun n hn => i64_wf (h4 n hn), h5⟩⟩

theorem row_u32 {n : Int} (h : (Lit.int .u32 n).wf = true) : ∃ m : Nat, n = m ∧ m < 4294967296 := by
  have := bounds_u32 h
  exact ⟨n.toNat, by omega, by omega⟩
theorem row_u8 {n : Int} (h : (Lit.int .u8 n).wf = true) : ∃ m : Nat, n = m ∧ m < 256 := by
  have := bounds_u8 h
  exact ⟨n.toNat, by omega, by omega⟩
end Go.Proofs.Ytpkpgmpnaomioaa
