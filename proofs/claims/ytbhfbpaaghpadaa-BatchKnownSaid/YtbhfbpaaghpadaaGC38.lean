/- How arguments that are slices of structs, structs of structs are opened: by the type's shape. No conditions. -/
import Derived.Test.YtbhfbpaaghpadaaGC01
import Derived.ChangeSame
import Derived.WideShapes
import Derived.Deep.Slices
set_option linter.unusedSimpArgs false
set_option linter.unusedVariables false
namespace Go.Proofs.Ytbhfbpaaghpadaa
open Go.RowKit Go.ChangeShapes Go.WideShapes Go.ChangeAt

theorem block_addS (a : Addr) (i : Nat) : (a.add i).block = a.block := by
  unfold Addr.add; split <;> rfl

section
variable {H : Type} (enc : TypeId × Value → H) (P : Program) (W : World) (base : Nat) (spare : Nat → Bool) (held : Bool)

/-- What the cells are that a type reads. -/
def RdS (e : TypeId) (k : Nat) (R : List Value → Prop) : Prop :=
  P.cellsOf e = k ∧ ∀ fuel cs x, DataW.trod enc P W base spare held fuel e cs = some x → (∀ n ∈ x.1.weights P e, n ≤ reachBytes) → R cs

/-- Fields, one behind the other. -/
def FldS : List (Nat × (List Value → Prop)) → List Value → Prop
  | [], cs => cs = []
  | (k, R) :: r, cs => ∃ a b, cs = a ++ b ∧ a.length = k ∧ R a ∧ FldS r b

def IntS (k : IntKind) (cs : List Value) : Prop := ∃ n : Int, cs = [.int k n] ∧ (Lit.int k n).wf = true
def BoolS (cs : List Value) : Prop := ∃ b : Bool, cs = [.bool b]
def StrS (cs : List Value) : Prop := ∃ s : ByteArray, cs = [.string s] ∧ s.size ≤ 140737488351232
def SlcS (k bytes : Nat) (R : List Value → Prop) (cs : List Value) : Prop :=
  ∃ (A : Option Addr) (c : Nat) (ys : List (List Value)), cs = [.slice A ys.length c] ∧ ys.length ≤ c ∧ (A = none → c = 0) ∧ Lies W A ys.flatten ∧ (∀ y ∈ ys, y.length = k ∧ R y) ∧ ys.length * bytes ≤ 140737488351232 ∧ (∀ ad, A = some ad → ad.block < W.heap.size ∨ ys = [])

variable {enc P W base spare held}

theorem rds_int {e : TypeId} {k : IntKind} (hu : P.underlying e = some (.int k)) (hc : P.cellsOf e = 1) : RdS enc P W base spare held e 1 (IntS k) :=
  ⟨hc, fun fuel cs x h _ => by obtain ⟨n, rfl, _, hw⟩ := DataW.trod_int hu h; exact ⟨n, rfl, hw⟩⟩
theorem rds_bool {e : TypeId} (hu : P.underlying e = some .bool) (hc : P.cellsOf e = 1) : RdS enc P W base spare held e 1 BoolS :=
  ⟨hc, fun fuel cs x h _ => by obtain ⟨n, rfl, _⟩ := DataW.trod_bool hu h; exact ⟨n, rfl⟩⟩
theorem rds_str {e : TypeId} (hu : P.underlying e = some .string) (hc : P.cellsOf e = 1) : RdS enc P W base spare held e 1 StrS :=
  ⟨hc, fun fuel cs x h hw => by
    obtain ⟨s, rfl, rfl, _⟩ := DataW.trod_string hu h
    refine ⟨s, rfl, ?_⟩
    have := hw s.data.toList.length (by simp [DataW.weights])
    rw [Array.length_toList] at this
    exact this⟩

/-- One field's part of the list. -/
structure FldOk (P : Program) (off : Nat) (f : Field) (t : TypeId) (k : Nat) : Prop where
  ty : f.type = t
  off : f.offset = off

theorem weights_each_mem {ts : List TypeId} {ds : List (DataW H)} {j : Nat} {t : TypeId} {d : DataW H} (ht : ts[j]? = some t) (hd : ds[j]? = some d) : ∀ n ∈ d.weights P t, n ∈ DataW.weightsEach P ts ds := DataW.weights_mem_each ht hd

theorem weights_all_mem {e : TypeId} {ds : List (DataW H)} {d : DataW H} (hd : d ∈ ds) : ∀ n ∈ d.weights P e, n ∈ DataW.weightsAll P e ds := by
  induction ds with
  | nil => cases hd
  | cons a l ih =>
    intro n hn
    rw [DataW.weightsAll, List.mem_append]
    rcases List.mem_cons.1 hd with rfl | h
    · exact .inl hn
    · exact .inr (ih h n hn)

/-- What a list of fields asks: types and offsets in a row. -/
def FldsOk (P : Program) : Nat → List Field → List (TypeId × Nat) → Prop
  | _, [], [] => True
  | o, f :: fs, (t, k) :: r => f.type = t ∧ f.offset = o ∧ FldsOk P (o + k) fs r
  | _, _, _ => False

theorem flds_aux {fuel : Nat} (fs : List Field) : ∀ (o : Nat) (ts : List (TypeId × Nat × (List Value → Prop))) (cs : List Value) (xs : List (DataW H × List MemPlace)),
    FldsOk P o fs (ts.map fun t => (t.1, t.2.1)) → (∀ t ∈ ts, RdS enc P W base spare held t.1 t.2.1 t.2.2) → o ≤ cs.length → cs.length = o + (ts.map fun t => t.2.1).sum →
    (∀ (i : Nat) (f : Field), fs[i]? = some f → DataW.trod enc P W base spare held fuel f.type ((cs.drop f.offset).take (P.cellsOf f.type)) = xs[i]?) → xs.length = fs.length →
    (∀ n ∈ DataW.weightsEach P (fs.map (·.type)) (xs.map (·.1)), n ≤ reachBytes) →
    FldS (ts.map fun t => (t.2.1, t.2.2)) (cs.drop o) := by
  induction fs with
  | nil =>
    intro o ts cs xs hok _ ho hl _ _ _
    cases ts with
    | nil => simp at hl; simp [FldS, hl]
    | cons t r => exact hok.elim
  | cons f fs ih =>
    intro o ts cs xs hok hts ho hl hf hxl hw
    cases ts with
    | nil => exact hok.elim
    | cons t r =>
      obtain ⟨t, k, R⟩ := t
      obtain ⟨h1, h2, h3⟩ := hok
      cases xs with
      | nil => simp at hxl
      | cons x xs =>
        have h0 := hf 0 f rfl
        simp only [List.getElem?_cons_zero] at h0
        simp only [List.map_cons, List.sum_cons] at hl
        have hR := hts (t, k, R) (by simp)
        have hck : P.cellsOf f.type = k := by rw [h1]; exact hR.1
        rw [h2, hck] at h0
        refine ⟨(cs.drop o).take k, (cs.drop o).drop k, (List.take_append_drop k _).symm, ?_, ?_, ?_⟩
        · simp; omega
        · refine hR.2 fuel _ x (by rw [← h1]; exact h0) (fun n hn => hw n ?_)
          simp only [List.map_cons, DataW.weightsEach, List.mem_append]
          exact .inl (by rw [h1]; exact hn)
        · rw [List.drop_drop]
          refine ih (o + k) r cs xs h3 (fun t ht => hts t (by simp [ht])) (by omega) (by omega) (fun i g hg => ?_) (by simpa using hxl) (fun n hn => hw n ?_)
          · have := hf (i + 1) g (by simpa using hg)
            simpa using this
          · simp only [List.map_cons, DataW.weightsEach, List.mem_append]
            exact .inr hn

theorem rds_struct {e : TypeId} {fs : Array Field} {K : Nat} (ts : List (TypeId × Nat × (List Value → Prop))) (hu : P.underlying e = some (.struct fs)) (hc : P.cellsOf e = K) (hK : (ts.map fun t => t.2.1).sum = K)
    (hok : FldsOk P 0 fs.toList (ts.map fun t => (t.1, t.2.1))) (hts : ∀ t ∈ ts, RdS enc P W base spare held t.1 t.2.1 t.2.2) : RdS enc P W base spare held e K (FldS (ts.map fun t => (t.2.1, t.2.2))) := by
  refine ⟨hc, fun fuel cs x h hw => ?_⟩
  obtain ⟨xs, n, _, rfl, hl, hxl, hf⟩ := DataW.trod_struct hu h
  have := flds_aux (enc := enc) (P := P) (W := W) (base := base) (spare := spare) (held := held) (fuel := n) fs.toList 0 ts cs xs hok hts (Nat.zero_le _) (by rw [hl, hc, hK, Nat.zero_add])
    (fun i f hi => hf i f (by simpa using hi)) (by simpa using hxl) (fun m hm => hw m (by simp only [DataW.weights, hu]; exact hm))
  simpa using this

theorem rds_slice {t e : TypeId} {k bytes : Nat} {R : List Value → Prop} (hu : P.underlying t = some (.slice e)) (hc : P.cellsOf t = 1) (hk : 0 < k) (hB : P.bytesOf e = bytes) (he : RdS enc P W base spare held e k R) :
    RdS enc P W base spare held t 1 (SlcS W k bytes R) := by
  refine ⟨hc, fun fuel cs x h hw => ?_⟩
  rcases Go.Deep.open_slice hu h with ⟨rfl, rfl⟩ | ⟨a, len, cap, m, n, D, Pl, rfl, hb, hl, hm, hmm, rfl, hx⟩
  · exact ⟨none, 0, [], rfl, Nat.le_refl _, fun _ => rfl, Lies.nil _ _, (by intro y hy; cases hy), by simp, (by intro ad h; cases h)⟩
  · have hlm : len ≤ m := by rw [hmm]; split <;> omega
    have each : ∀ i, i < len → ∃ ys : List Value, (∀ j, j < k → ∀ v, ys[j]? = some v → W.cell? (a.add (i * k + j)) = some v) ∧ ys.length = k ∧ R ys := by
      intro i hi
      obtain ⟨cs', h1, h2⟩ := hx i (by omega)
      rw [he.1] at h1
      obtain ⟨_, hlen, hcell⟩ := World.cells?_some h1
      refine ⟨cs', fun j hj v hv => ?_, hlen, he.2 n cs' _ h2 (fun q hq => hw q ?_)⟩
      · have := hcell j hj
        rw [Go.Deep.add_add] at this
        rw [this, hv]
      · simp only [DataW.weights, hu, List.mem_cons, List.mem_append]
        exact .inr (.inl (weights_all_mem (List.mem_map.2 ⟨i, List.mem_range.2 hi, rfl⟩) q hq))
    obtain ⟨f, hf⟩ := Go.Deep.choose_lt each
    have hfl : ∀ i, i < len → (f i).length = k := fun i hi => (hf i hi).2.1
    have hlen : ((List.range len).map f).length = len := by simp
    have flat : ∀ n, n ≤ len → ((List.range n).map f).flatten.length = n * k := by
      intro n
      induction n with
      | zero => intro _; simp
      | succ n ih =>
        intro h
        rw [List.range_succ, List.map_append, List.flatten_append, List.length_append, ih (by omega)]
        simp [hfl n (by omega), Nat.succ_mul]
    refine ⟨some a, cap, (List.range len).map f, by rw [hlen], by rw [hlen]; exact hl, (by intro h; cases h), ?_, ?_, ?_, ?_⟩
    · intro i hi
      refine ⟨a, rfl, ?_⟩
      rw [flat len (Nat.le_refl _)] at hi
      have key : ∀ n, n ≤ len → ∀ i, i < n * k → ((List.range n).map f).flatten[i]? = (f (i / k))[i % k]? := by
        intro n
        induction n with
        | zero => intro _ i hi; simp at hi
        | succ n ih =>
          intro h i hi
          rw [List.range_succ, List.map_append, List.flatten_append]
          by_cases hlt : i < n * k
          · rw [List.getElem?_append_left (by rw [flat n (by omega)]; exact hlt)]
            exact ih (by omega) i hlt
          · rw [List.getElem?_append_right (by rw [flat n (by omega)]; omega), flat n (by omega)]
            rw [Nat.succ_mul] at hi
            have h1 : i / k = n := by
              rw [Nat.div_eq_iff hk]
              rw [Nat.mul_comm] at hlt
              have := Nat.mul_comm n k
              omega
            have h2 : i % k = i - n * k := by
              have := Nat.div_add_mod i k
              rw [h1, Nat.mul_comm] at this
              omega
            rw [h1, h2]
            simp
      have hil : i / k < len := Nat.div_lt_of_lt_mul (by rw [Nat.mul_comm]; exact hi)
      have h4 := key len (Nat.le_refl _) i hi
      have h3 := (hf (i / k) hil).1 (i % k) (Nat.mod_lt _ hk) (((List.range len).map f).flatten[i]'(by rw [flat len (Nat.le_refl _)]; exact hi)) (by rw [← h4]; exact List.getElem?_eq_getElem _)
      rw [show i / k * k + i % k = i by rw [Nat.mul_comm]; exact Nat.div_add_mod i k] at h3
      exact h3
    · intro y hy
      obtain ⟨i, hi, rfl⟩ := List.mem_map.1 hy
      exact (hf i (List.mem_range.1 hi)).2
    · rw [hlen]
      have := hw ((((List.range len).map D).length + ((List.range (m - len)).map fun j => D (len + j)).length) * P.bytesOf e) (by simp [DataW.weights, hu])
      rw [hB] at this
      refine Nat.le_trans (Nat.mul_le_mul_right bytes ?_) this
      simp
    · intro ad had
      cases had
      by_cases h0 : len = 0
      · right; subst h0; rfl
      · left
        obtain ⟨q, hq1, hq2, _⟩ := each 0 (by omega)
        have := hq1 0 hk (q[0]'(by omega)) (List.getElem?_eq_getElem _)
        have := World.block_lt_of_cell? W _ this
        rwa [block_addS] at this
end
end Go.Proofs.Ytbhfbpaaghpadaa
