/- How a row's arguments are opened into the words of this seat's walks. No conditions. -/
import Derived.Test.YtmnabhennibddaaGD00
import Derived.ProofKit
import Derived.OpenShut
import Derived.ShutString
import Derived.ChangeOld
import Derived.SizedLaws
import Derived.ChangeSlices
namespace Go.Proofs.Ytmnabhennibddaa
open Go.ChangeShapes Go.WideShapes Go.ChangeAt Go.RowKit

/-- Numbers as values. -/
def iv (l : List Int) : List Value := l.map (Value.int .i64)
/-- Each fits 64 bits. -/
def I64 (n : Int) : Prop := -9223372036854775808 ≤ n ∧ n ≤ 9223372036854775807
/-- An argument that is a slice of numbers. -/
structure IS (w : World) (A : Option Addr) (c : Nat) (l : List Int) : Prop where
  le : l.length ≤ c
  nil : A = none → c = 0
  lies : Lies w A (iv l)
  fit : ∀ n ∈ l, I64 n
  lim : l.length * 8 ≤ 140737488351232

theorem i64_wf {n : Int} (h : (Lit.int .i64 n).wf = true) : I64 n := by
  have := bounds_i64 h
  exact ⟨by omega, by omega⟩

/-- A slice of whole numbers out of a row's reading. -/
theorem row_ints {H : Type} {enc : TypeId × Value → H} {P : Program} {W : World} {base : Nat} {spare : Nat → Bool} {held : Bool} {t e : TypeId} {k : IntKind} {a : Option Addr} {len cap : Nat} {d : DataW H} {ps : List MemPlace} {ts : List TypeId} {ds : List (DataW H)} {j B : Nat}
    (hsz : (DataW.weightsEach P ts ds).all (· ≤ reachBytes) = true) (ht : ts[j]? = some t) (hd : ds[j]? = some d) (hu : P.underlying t = some (.slice e)) (he : P.underlying e = some (.int k)) (hc : P.cellsOf e = 1) (hB : P.bytesOf e = B)
    (h : DataW.Trod enc P W base spare held t (.slice a len cap) d ps) :
    ∃ zs : List Int, zs.length = len ∧ len ≤ cap ∧ (a = none → cap = 0) ∧ Lies W a (zs.map (Value.int k)) ∧ (∀ n ∈ zs, (Lit.int k n).wf = true) ∧ len * B ≤ 140737488351232 := by
  obtain ⟨fuel, hf⟩ := h
  rcases open_ints hu he hc hf with ⟨hcs, _⟩ | ⟨x, l, c, zs, hcs, _, hl, _, hz, hx, hcell, hwf⟩
  · simp [Value.cells] at hcs
    obtain ⟨rfl, rfl, rfl⟩ := hcs
    exact ⟨[], rfl, Nat.le_refl _, fun _ => rfl, Lies.nil _ _, by simp, by simp⟩
  · simp [Value.cells] at hcs
    obtain ⟨rfl, rfl, rfl⟩ := hcs
    obtain ⟨hx, _⟩ := Prod.mk.inj hx
    subst hx
    have z := sized_slice hsz ht hd hu
    rw [hB] at z
    have hl2 : len ≤ zs.length := by
      rw [hz]
      split
      · exact hl
      · exact Nat.le_refl _
    have h1 : (lits (H := H) k (zs.take len)).length + (lits (H := H) k (zs.drop len)).length = zs.length := by
      simp [lits]
      omega
    rw [h1] at z
    refine ⟨zs.take len, by simp; omega, hl, (by intro h; cases h), ?_, fun n hn => hwf n (List.mem_of_mem_take hn), Nat.le_trans (Nat.mul_le_mul_right _ hl2) z⟩
    intro i hi
    have hi' : i < len := by simp at hi; omega
    refine ⟨x, rfl, ?_⟩
    rw [hcell i (by omega)]
    simp [List.getElem_take, List.getD_eq_getElem?_getD, List.getElem?_eq_getElem (show i < zs.length by omega)]

theorem row_bytes {W : World} {a : Option Addr} {len cap : Nat} (h : ∃ zs : List Int, zs.length = len ∧ len ≤ cap ∧ (a = none → cap = 0) ∧ Lies W a (zs.map (Value.int .u8)) ∧ (∀ n ∈ zs, (Lit.int .u8 n).wf = true) ∧ len * 1 ≤ 140737488351232) :
    ∃ l : List Nat, len = l.length ∧ BS W a l.length cap l := by
  obtain ⟨zs, rfl, h1, h2, h3, h4, h5⟩ := h
  refine ⟨zs.map Int.toNat, by simp, ⟨rfl, by simpa using h1, h2, ?_, ?_, by rw [List.length_map]; omega⟩⟩
  · have : bv (zs.map Int.toNat) = zs.map (Value.int .u8) := by
      unfold bv
      rw [List.map_map]
      apply List.map_congr_left
      intro n hn
      have := bounds_u8 (h4 n hn)
      simp only [Function.comp_apply]
      congr 1
      omega
    rw [this]
    exact h3
  · intro x hx
    obtain ⟨n, hn, rfl⟩ := List.mem_map.1 hx
    have := bounds_u8 (h4 n hn)
    omega

/-- .. with the row's own bound. -/
theorem row_bytesT {W : World} {a : Option Addr} {len cap : Nat} (h : ∃ zs : List Int, zs.length = len ∧ len ≤ cap ∧ (a = none → cap = 0) ∧ Lies W a (zs.map (Value.int .u8)) ∧ (∀ n ∈ zs, (Lit.int .u8 n).wf = true) ∧ len * 1 ≤ 140737488351232) :
    ∃ l : List Nat, len = l.length ∧ BS W a l.length cap l ∧ l.length ≤ 140737488351232 := by
  obtain ⟨l, h1, h2⟩ := row_bytes h
  obtain ⟨zs, rfl, _, _, _, _, h5⟩ := h
  exact ⟨l, h1, h2, by omega⟩

theorem row_i64s {W : World} {a : Option Addr} {len cap : Nat} (h : ∃ zs : List Int, zs.length = len ∧ len ≤ cap ∧ (a = none → cap = 0) ∧ Lies W a (zs.map (Value.int .i64)) ∧ (∀ n ∈ zs, (Lit.int .i64 n).wf = true) ∧ len * 8 ≤ 140737488351232) :
    ∃ l : List Int, len = l.length ∧ IS W a cap l := by
  obtain ⟨zs, rfl, h1, h2, h3, h4, h5⟩ := h
  exact ⟨zs, rfl, ⟨h1, h2, h3, fun n hn => i64_wf (h4 n hn), h5⟩⟩

theorem row_u32 {n : Int} (h : (Lit.int .u32 n).wf = true) : ∃ m : Nat, n = m ∧ m < 4294967296 := by
  have := bounds_u32 h
  exact ⟨n.toNat, by omega, by omega⟩
theorem row_u8 {n : Int} (h : (Lit.int .u8 n).wf = true) : ∃ m : Nat, n = m ∧ m < 256 := by
  have := bounds_u8 h
  exact ⟨n.toNat, by omega, by omega⟩

theorem okWide_array {P : Program} {w : World} {r : Reach} {base : Nat} {t : TypeId} {v : Value} {n : Nat} {e : TypeId} (ht : P.underlying t = some (.array n e)) (h : Value.okWide P w r base t v) : ∃ cs, v = .agg cs ∧ cs.size = P.cellsOf t := by
  simp only [Value.okWide, ht] at h
  obtain ⟨cs, h1, h2, _⟩ := h
  exact ⟨cs, h1, h2⟩
/-- An array of whole numbers by value. -/
theorem row_arr {H : Type} {enc : TypeId × Value → H} {P : Program} {W : World} {r : Reach} {b0 : Nat} {base : Nat} {spare : Nat → Bool} {held : Bool} {t e : TypeId} {k : IntKind} {n : Nat} {v : Value} {d : DataW H} {ps : List MemPlace}
    (hu : P.underlying t = some (.array n e)) (he : P.underlying e = some (.int k)) (hc : P.cellsOf e = 1) (hct : P.cellsOf t = n) (hok : Value.okWide P W r b0 t v) (h : DataW.Trod enc P W base spare held t v d ps) :
    ∃ zs : List Int, zs.length = n ∧ (∀ x ∈ zs, (Lit.int k x).wf = true) ∧ v = .agg (zs.map (Value.int k)).toArray := by
  obtain ⟨cs, rfl, hsz⟩ := okWide_array hu hok
  obtain ⟨fuel, hf⟩ := h
  obtain ⟨xs, m, _, _, hl, hxl, hx⟩ := DataW.trod_array hu hf
  rw [hct] at hsz
  have hone : ∀ i (h : i < cs.toList.length), ∃ x, cs.toList[i] = .int k x ∧ (Lit.int k x).wf = true := by
    intro i hi
    have hi2 : i < n := by simpa [hsz] using hi
    have h1 := hx i hi2
    rw [hc, Nat.mul_one] at h1
    have h2 : ((Value.agg cs).cells.toList.drop i).take 1 = [cs.toList[i]] := by
      show (cs.toList.drop i).take 1 = _
      rw [List.drop_eq_getElem_cons hi]; rfl
    rw [h2, List.getElem?_eq_getElem (by omega)] at h1
    obtain ⟨x, e1, _, hw⟩ := DataW.trod_int he h1
    exact ⟨x, by simpa using e1, hw⟩
  refine ⟨cs.toList.map (fun v => match v with | .int _ x => x | _ => 0), by simpa using hsz, ?_, ?_⟩
  · intro x hx'
    obtain ⟨v, hv, rfl⟩ := List.mem_map.1 hx'
    obtain ⟨i, hi, rfl⟩ := List.getElem_of_mem hv
    obtain ⟨x, e1, hw⟩ := hone i hi
    rw [e1]; exact hw
  · congr 1
    apply Array.toList_inj.1
    rw [List.map_map]
    apply List.ext_getElem
    · simp
    · intro i h1 h2
      obtain ⟨x, e1, hw⟩ := hone i h1
      simp only [List.getElem_map, Function.comp_apply]
      rw [e1]
theorem row_u8arr {n : Nat} {v : Value} (h : ∃ zs : List Int, zs.length = n ∧ (∀ x ∈ zs, (Lit.int .u8 x).wf = true) ∧ v = .agg (zs.map (Value.int .u8)).toArray) : ∃ l : List Nat, l.length = n ∧ Byt l ∧ v = .agg (bv l).toArray := by
  obtain ⟨zs, hl, hw, rfl⟩ := h
  refine ⟨zs.map Int.toNat, by simpa using hl, ?_, ?_⟩
  · intro x hx
    obtain ⟨n, hn, rfl⟩ := List.mem_map.1 hx
    have := bounds_u8 (hw n hn)
    omega
  · congr 2
    unfold bv
    rw [List.map_map]
    apply List.map_congr_left
    intro n hn
    have := bounds_u8 (hw n hn)
    simp only [Function.comp_apply]
    congr 1
    omega
theorem row_i64arr {n : Nat} {v : Value} (h : ∃ zs : List Int, zs.length = n ∧ (∀ x ∈ zs, (Lit.int .i64 x).wf = true) ∧ v = .agg (zs.map (Value.int .i64)).toArray) : ∃ l : List Int, l.length = n ∧ (∀ x ∈ l, I64 x) ∧ v = .agg (l.map (Value.int .i64)).toArray := by
  obtain ⟨zs, hl, hw, rfl⟩ := h
  exact ⟨zs, hl, fun x hx => i64_wf (hw x hx), rfl⟩
end Go.Proofs.Ytmnabhennibddaa
