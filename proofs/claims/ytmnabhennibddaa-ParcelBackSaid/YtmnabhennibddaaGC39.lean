/- Lists of lists of bytes as an argument of a row. No conditions. -/
import Derived.Test.YtmnabhennibddaaGC38
import Derived.Test.YtmnabhennibddaaGC22
import Derived.Test.YtmnabhennibddaaGC01
import Derived.ChangeOld
set_option linter.unusedSimpArgs false
set_option linter.unusedVariables false
namespace Go.Proofs.Ytmnabhennibddaa
open Go.RowKit Go.ChangeShapes Go.WideShapes Go.ChangeAt

theorem els_chooseL {α : Type} {R : RdE α} {W : World} {Q : List Value → Prop} (hQ : ∀ cs, Q cs → ∃ x, R.rd W x cs) : ∀ {ys : List (List Value)}, (∀ y ∈ ys, Q y) → ∃ l : List α, l.length = ys.length ∧ ∀ i (h : i < l.length) (h2 : i < ys.length), R.rd W l[i] ys[i]
  | [], _ => ⟨[], rfl, (by intro i h; cases h)⟩
  | y :: ys, h => by
    obtain ⟨x, e⟩ := hQ y (h y (by simp))
    obtain ⟨l, h1, h3⟩ := els_chooseL hQ (ys := ys) (fun z hz => h z (List.mem_cons_of_mem _ hz))
    refine ⟨x :: l, by simp [h1], fun i hi hi2 => ?_⟩
    cases i with
    | zero => exact e
    | succ i => exact h3 i (by simpa using hi) (by simpa using hi2)
theorem bytes_chooseL {Q : List Value → Prop} (hQ : ∀ cs, Q cs → ∃ n : Nat, cs = [.int .u8 (n : Int)] ∧ n < 256) : ∀ {ys : List (List Value)}, (∀ y ∈ ys, Q y) → ∃ l : List Nat, ys = l.map (fun n : Nat => [Value.int .u8 (n : Int)]) ∧ Byt l
  | [], _ => ⟨[], rfl, (by intro x h; cases h)⟩
  | y :: ys, h => by
    obtain ⟨n, rfl, hn⟩ := hQ y (h y (by simp))
    obtain ⟨l, rfl, hl⟩ := bytes_chooseL hQ (ys := ys) (fun z hz => h z (List.mem_cons_of_mem _ hz))
    refine ⟨n :: l, rfl, fun x hx => ?_⟩
    rcases List.mem_cons.1 hx with rfl | hx
    · exact hn
    · exact hl x hx
theorem bv_flat : ∀ l : List Nat, (l.map (fun n : Nat => [Value.int .u8 (n : Int)])).flatten = bv l
  | [] => rfl
  | n :: l => by
    rw [List.map_cons, List.flatten_cons, bv_flat l]
    rfl
theorem u8_of {cs : List Value} (h : IntS .u8 cs) : ∃ n : Nat, cs = [.int .u8 (n : Int)] ∧ n < 256 := by
  obtain ⟨n, rfl, hw⟩ := h
  obtain ⟨m, rfl, hm⟩ := row_u8 hw
  exact ⟨m, rfl, hm⟩
theorem bl_of {W : World} (cs : List Value) (h : SlcS W 1 1 (IntS .u8) cs) : ∃ l : List Nat, blR.rd W l cs := by
  obtain ⟨A, c, ys, rfl, h1, h2, h3, h4, h5, h6⟩ := h
  obtain ⟨l, rfl, hl⟩ := bytes_chooseL (fun cs h => u8_of h) (fun y hy => (h4 y hy).2)
  rw [bv_flat] at h3
  rw [List.length_map] at *
  exact ⟨l, A, _, c, rfl, rfl, h1, h2, h3, hl, by omega⟩
section
variable {H : Type} {enc : TypeId × Value → H} {W : World} {base : Nat} {spare : Nat → Bool} {held : Bool}
theorem rds_u8L : RdS enc Try.prog W base spare held 5 1 (IntS .u8) := rds_int Try.underlying5 (by kernel_rfl)
theorem rds_bytesL : RdS enc Try.prog W base spare held 22 1 (SlcS W 1 1 (IntS .u8)) := rds_slice Try.underlying22 (by kernel_rfl) (by omega) (by kernel_rfl) rds_u8L
theorem rds_listL : RdS enc Try.prog W base spare held 28 1 (SlcS W 1 24 (SlcS W 1 1 (IntS .u8))) := rds_slice Try.underlying28 (by kernel_rfl) (by omega) (by kernel_rfl) rds_bytesL
theorem row_ofL {P : Program} {t : TypeId} {k j : Nat} {R : List Value → Prop} {v : Value} {d : DataW H} {ps : List MemPlace} {ts : List TypeId} {ds : List (DataW H)} (hr : RdS enc P W base spare held t k R)
    (hsz : (DataW.weightsEach P ts ds).all (· ≤ reachBytes) = true) (ht : ts[j]? = some t) (hd : ds[j]? = some d) (h : DataW.Trod enc P W base spare held t v d ps) : R v.cells.toList := by
  obtain ⟨fuel, hf⟩ := h
  refine hr.2 fuel _ _ hf (fun n hn => ?_)
  have := List.all_eq_true.1 hsz n (DataW.weights_mem_each ht hd n hn)
  simpa using this
theorem row_bytess {a : Option Addr} {len cap : Nat} {j : Nat} {d : DataW H} {ps : List MemPlace} {ts : List TypeId} {ds : List (DataW H)}
    (hsz : (DataW.weightsEach Try.prog ts ds).all (· ≤ reachBytes) = true) (ht : ts[j]? = some 28) (hd : ds[j]? = some d) (h : DataW.Trod enc Try.prog W base spare held 28 (.slice a len cap) d ps) :
    ∃ l : List (List Nat), len = l.length ∧ EL blR W a l.length cap l := by
  obtain ⟨A, c, ys, e, h1, h2, h3, h4, h5, h6⟩ := row_ofL rds_listL hsz ht hd h
  simp [Value.cells] at e
  obtain ⟨rfl, rfl, rfl⟩ := e
  obtain ⟨l, e1, e3⟩ := els_chooseL (R := blR) (W := W) bl_of (fun y hy => (h4 y hy).2)
  exact ⟨l, e1.symm, EL.ofLies (by omega) h2 h3 e1.symm e3 (by omega)⟩
end
end Go.Proofs.Ytmnabhennibddaa
