/- Where ParcelBack stands: the frames so far in four rows. No conditions. -/
import Derived.Test.YtmnabhennibddaaGC34
import Derived.Test.YtmnabhennibddaaGC35
import Derived.Test.YtmnabhennibddaaGC36
set_option linter.unusedSimpArgs false
set_option linter.unusedVariables false
namespace Go.Proofs.Ytmnabhennibddaa
open Go.RowKit

/-- append(v, x) of one element: and where the new row lies. -/
theorem wp_append_el3 {α : Type} {R : RdE α} {O : RoE R} {w : World} {o : Oper} {a : Act} {K : Act → World → Prop} {Q : Exit → Act → World → Prop} (s x : Operand) (t : TypeId) (z : Value) (bytes : Nat)
    (ho : o.op = .call { callee := .builtin .append, args := #[s, x], argTypes := #[t, t] }) (ht : Try.prog.underlying t = some (.slice O.T)) (hi : (Try.prog.info? O.T).map (fun i => (i.zero, i.size, i.bytes)) = some (some z, R.k, bytes)) (hz : z.cells.size = R.k) (hby : bytes ≤ 4096)
    (base : Nat) (v : Value) (l : List α) (b : α) (cs : List Value) (hs : a.eval s = v) (hown : EOwn O w base v l) (hu : O.ro w base b cs)
    (g : Nat) (hx : a.eval x = .slice (some ⟨g, 0, none⟩) 1 1) (mk : Nat × Nat) (hm : w.heap[g]? = some (.cells cs.toArray O.T mk)) (hb : l.length + 1 ≤ 34359738368) (hbase : base ≤ w.heap.size)
    (h : ∀ v' w', EOwn O w' base v' (l ++ [b]) → w.grownBy w' v.ownBlock → (∀ k, v'.ownBlock = some k → v.ownBlock = some k ∨ w.heap.size ≤ k) → K (a.put o.dst v') w') :
    o.wp Try.prog a w K Q := by
  obtain ⟨css, hv, h1, h2⟩ := hown
  have hbb : (l.length + 1) * bytes ≤ (l.length + 1) * 4096 := Nat.mul_le_mul_left _ hby
  refine wp_append_any s x _ ho base O.T _ R.k bytes ht hi hz R.kpos v l.length css.flatten hs h1 _ 1 1 cs hx (by simp) (by omega) (by rw [O.len _ _ _ _ hu, Nat.one_mul]) ?_ (O.one _ _ _ _ hu) (by unfold maxLen; omega) (by omega) hbase ?_
  · intro i hi
    refine ⟨_, rfl, ?_⟩
    rw [addr_add, Nat.zero_add, cell_of hm i, List.getElem?_toArray]
    exact List.getElem?_eq_getElem hi
  · intro v' w' h3 h4 h5
    have hk : ∀ k c t mk, base ≤ k → t ≠ O.T → w.heap[k]? = some (.cells c t mk) → w'.heap[k]? = some (.cells c t mk) := by
      intro k c t mk _ ht' hk
      refine (h4.block k (Array.getElem?_eq_some_iff.1 hk).1 (fun e => ?_)).trans hk
      obtain ⟨_, c2, mk2, h6⟩ := own_cells h1 e.symm
      rw [hk] at h6
      injection h6 with h6
      injection h6 with _ h7 _
      exact ht' h7
    refine h v' w' ⟨css ++ [cs], by simp [hv], ?_, fun i hi hi2 => ?_⟩ h4 h5
    · rw [List.flatten_append]
      simpa using h3
    · by_cases hil : i < l.length
      · have e : (l ++ [b])[i] = l[i] := List.getElem_append_left hil
        have e2 : (css ++ [cs])[i] = css[i]'(by omega) := List.getElem_append_left (by omega)
        rw [e, e2]
        exact O.keep _ _ _ _ _ (h2 i hil (by omega)) hk
      · have hi3 : i = l.length := by rw [List.length_append, List.length_cons, List.length_nil] at hi; omega
        subst hi3
        have e : (l ++ [b])[l.length]'hi = b := by simp
        have e2 : (css ++ [cs])[l.length]'hi2 = cs := by simp [← hv]
        rw [e2, e]
        exact O.keep _ _ _ _ _ hu hk
theorem append_el3 {α : Type} {R : RdE α} {O : RoE R} {w : World} {ops : Array Oper} {rest : List Oper} {o : Oper} {a : Act} {Q : Exit → Act → World → Prop} (hgd : o.guard = none) (s x : Operand) (t : TypeId) (z : Value) (bytes : Nat)
    (ho : o.op = .call { callee := .builtin .append, args := #[s, x], argTypes := #[t, t] }) (ht : Try.prog.underlying t = some (.slice O.T)) (hi : (Try.prog.info? O.T).map (fun i => (i.zero, i.size, i.bytes)) = some (some z, R.k, bytes)) (hz : z.cells.size = R.k) (hby : bytes ≤ 4096)
    (base : Nat) (v : Value) (l : List α) (b : α) (cs : List Value) (hs : a.eval s = v) (hown : EOwn O w base v l) (hu : O.ro w base b cs)
    (g : Nat) (hx : a.eval x = .slice (some ⟨g, 0, none⟩) 1 1) (mk : Nat × Nat) (hm : w.heap[g]? = some (.cells cs.toArray O.T mk)) (hb : l.length + 1 ≤ 34359738368) (hbase : base ≤ w.heap.size)
    (h : ∀ v' w', EOwn O w' base v' (l ++ [b]) → w.grownBy w' v.ownBlock → (∀ k, v'.ownBlock = some k → v.ownBlock = some k ∨ w.heap.size ≤ k) → wpList Try.prog ops Q rest (a.put o.dst v') w') :
    wpList Try.prog ops Q (o :: rest) a w :=
  wpList_plain hgd fun _ hK => wp_append_el3 s x t z bytes ho ht hi hz hby base v l b cs hs hown hu g hx mk hm hb hbase (fun v' w' h1 h2 h3 => hK _ _ (h v' w' h1 h2 h3))
/-- Slices of bytes that lie in a first world. -/
def blW (W0 : World) : RoE blR where
  T := 22
  ro := fun _ _ x cs => ∃ A n c, cs = [.slice A n c] ∧ BS W0 A n c x
  len := fun w b x cs ⟨_, _, _, h, _⟩ => (by rw [h]; rfl)
  one := fun w b x cs ⟨_, _, _, h, _⟩ => (by
    subst h
    intro u hu
    rw [List.mem_singleton] at hu
    rw [hu]
    rfl)
  keep := fun w w' b x cs h _ => h
  base := fun w b b' x cs h _ => h
theorem blw_keep {W0 W W' : World} {b : Nat} {v : Value} {l : List (List Nat)} (h : EOwn (blW W0) W b v l) (h1 : ∀ k c mk, b ≤ k → v.ownBlock = some k → W.heap[k]? = some (.cells c 22 mk) → W'.heap[k]? = some (.cells c 22 mk)) : EOwn (blW W0) W' b v l := by
  obtain ⟨css, hv, ho, hr⟩ := h
  exact ⟨css, hv, own_keep ho h1, hr⟩
theorem blw_el {W0 W : World} {b : Nat} {v : Value} {l : List (List Nat)} (h : EOwn (blW W0) W b v l) (hb : Below W0.heap.size W0 W) (hl : l.length ≤ 8796093021952) : ∃ A c, v = .slice A l.length c ∧ EL blR W A l.length c l := by
  obtain ⟨css, hv, h1, h2⟩ := h
  obtain ⟨A, c, e, hle, _, hnil, hlies, hA⟩ := ownsRow_lies h1
  exact ⟨A, c, e, EL.ofLies hle hnil hlies hv (fun i hi hi2 => by
    obtain ⟨P, n, d, e1, hB⟩ := h2 i hi hi2
    exact ⟨P, n, d, e1, hB.below hb⟩) hl⟩
theorem ty_ne {W : World} {b1 b2 : Nat} {t1 t2 : TypeId} {v1 v2 : Value} {n1 n2 s1 s2 : Nat} {x1 x2 : List Value} (h1 : W.ownsRow b1 t1 s1 v1 n1 x1) (h2 : W.ownsRow b2 t2 s2 v2 n2 x2) (ht : t1 ≠ t2) : ∀ k, v1.ownBlock = some k → v2.ownBlock ≠ some k := by
  intro k hk e
  obtain ⟨_, c1, m1, g1⟩ := own_cells h1 hk
  obtain ⟨_, c2, m2, g2⟩ := own_cells h2 e
  rw [g1] at g2
  injection g2 with g2
  injection g2 with _ g3 _
  exact ht g3
theorem kept_ne {W W' : World} {base : Nat} {t : TypeId} {v : Value} {row : Option Nat} (hg : W.grownBy W' row) (hne : ∀ k, v.ownBlock = some k → row ≠ some k) : ∀ k c mk, base ≤ k → v.ownBlock = some k → W.heap[k]? = some (.cells c t mk) → W'.heap[k]? = some (.cells c t mk) :=
  fun k c mk _ hk hc => (hg.block k (Array.getElem?_eq_some_iff.1 hc).1 (fun e => hne k hk e.symm)).trans hc
/-- The four rows. -/
structure PB (w w1 W : World) (v7 v8 v9 v10 : Value) (L7 : List Nat) (L8 : List Int) (L9 : List (List Nat)) (L10 : List Int) : Prop where
  bw : Below w.heap.size w w1
  b1 : Below w1.heap.size w1 W
  o7 : W.ownsRow w1.heap.size 5 1 v7 L7.length (bv L7)
  o8 : EOwn inO W w1.heap.size v8 L8
  o9 : EOwn (blW w) W w1.heap.size v9 L9
  o10 : EOwn inO W w1.heap.size v10 L10
  d : ∀ k, v8.ownBlock = some k → v10.ownBlock ≠ some k
section
variable {w w1 W W' : World} {v7 v8 v9 v10 : Value} {L7 : List Nat} {L8 : List Int} {L9 : List (List Nat)} {L10 : List Int}
theorem PB.below (h : PB w w1 W v7 v8 v9 v10 L7 L8 L9 L10) (hb : Below W.heap.size W W') : PB w w1 W' v7 v8 v9 v10 L7 L8 L9 L10 :=
  ⟨h.bw, nx h.b1 hb, ownsRow_below h.o7 hb, h.o8.below hb, h.o9.below hb, h.o10.below hb, h.d⟩
theorem EOwn.row {α : Type} {R : RdE α} {O : RoE R} {W : World} {b : Nat} {v : Value} {l : List α} (h : EOwn O W b v l) : ∃ xs, W.ownsRow b O.T R.k v l.length xs := by
  obtain ⟨css, _, h1, _⟩ := h
  exact ⟨_, h1⟩
theorem PB.app7 (h : PB w w1 W v7 v8 v9 v10 L7 L8 L9 L10) {v : Value} {L : List Nat} (ho : W'.ownsRow w1.heap.size 5 1 v L.length (bv L)) (hg : W.grownBy W' v7.ownBlock) : PB w w1 W' v v8 v9 v10 L L8 L9 L10 := by
  obtain ⟨x8, r8⟩ := h.o8.row
  obtain ⟨x9, r9⟩ := h.o9.row
  obtain ⟨x10, r10⟩ := h.o10.row
  exact ⟨h.bw, grown_below h.b1 hg (own_block h.o7), ho, ino_keep h.o8 (kept_ne hg (ty_ne r8 h.o7 (by decide))), blw_keep h.o9 (kept_ne hg (ty_ne r9 h.o7 (show 22 ≠ 5 by decide))), ino_keep h.o10 (kept_ne hg (ty_ne r10 h.o7 (by decide))), h.d⟩
theorem PB.app8 (h : PB w w1 W v7 v8 v9 v10 L7 L8 L9 L10) {v : Value} {L : List Int} (ho : EOwn inO W' w1.heap.size v L) (hg : W.grownBy W' v8.ownBlock) (hv : ∀ k, v.ownBlock = some k → v8.ownBlock = some k ∨ W.heap.size ≤ k) : PB w w1 W' v7 v v9 v10 L7 L L9 L10 := by
  obtain ⟨x8, r8⟩ := h.o8.row
  obtain ⟨x9, r9⟩ := h.o9.row
  obtain ⟨x10, r10⟩ := h.o10.row
  exact ⟨h.bw, grown_below h.b1 hg h.o8.block, own_keep h.o7 (kept_ne hg (ty_ne h.o7 r8 (by decide))), ho, blw_keep h.o9 (kept_ne hg (ty_ne r9 r8 (show 22 ≠ 3 by decide))), ino_keep h.o10 (kept_ne hg (fun k hk e => h.d k e hk)), fun k hk e => by
    rcases hv k hk with h1 | h1
    · exact h.d k h1 e
    · have := (r10.lt k e).2; omega⟩
theorem PB.app9 (h : PB w w1 W v7 v8 v9 v10 L7 L8 L9 L10) {v : Value} {L : List (List Nat)} (ho : EOwn (blW w) W' w1.heap.size v L) (hg : W.grownBy W' v9.ownBlock) : PB w w1 W' v7 v8 v v10 L7 L8 L L10 := by
  obtain ⟨x8, r8⟩ := h.o8.row
  obtain ⟨x9, r9⟩ := h.o9.row
  obtain ⟨x10, r10⟩ := h.o10.row
  exact ⟨h.bw, grown_below h.b1 hg h.o9.block, own_keep h.o7 (kept_ne hg (ty_ne h.o7 r9 (show 5 ≠ 22 by decide))), ino_keep h.o8 (kept_ne hg (ty_ne r8 r9 (show 3 ≠ 22 by decide))), ho, ino_keep h.o10 (kept_ne hg (ty_ne r10 r9 (show 3 ≠ 22 by decide))), h.d⟩
theorem PB.app10 (h : PB w w1 W v7 v8 v9 v10 L7 L8 L9 L10) {v : Value} {L : List Int} (ho : EOwn inO W' w1.heap.size v L) (hg : W.grownBy W' v10.ownBlock) (hv : ∀ k, v.ownBlock = some k → v10.ownBlock = some k ∨ W.heap.size ≤ k) : PB w w1 W' v7 v8 v9 v L7 L8 L9 L := by
  obtain ⟨x8, r8⟩ := h.o8.row
  obtain ⟨x9, r9⟩ := h.o9.row
  obtain ⟨x10, r10⟩ := h.o10.row
  exact ⟨h.bw, grown_below h.b1 hg h.o10.block, own_keep h.o7 (kept_ne hg (ty_ne h.o7 r10 (by decide))), ino_keep h.o8 (kept_ne hg (h.d)), blw_keep h.o9 (kept_ne hg (ty_ne r9 r10 (show 22 ≠ 3 by decide))), ho, fun k hk e => by
    rcases hv k e with h1 | h1
    · exact h.d k hk h1
    · have := (r8.lt k hk).2; omega⟩
end
/-- The ends of frames. -/
def endsF (F : List (Nat × List Nat)) : List Int := (List.range (F.length + 1)).map fun j => ((flatF (F.take j)).length : Int)
theorem endsF_nil : endsF [] = [0] := rfl
theorem endsF_len (F : List (Nat × List Nat)) : (endsF F).length = F.length + 1 := by simp [endsF]
theorem endsF_snoc (F : List (Nat × List Nat)) (f : Nat × List Nat) : endsF (F ++ [f]) = endsF F ++ [((flatF (F ++ [f])).length : Int)] := by
  unfold endsF
  rw [List.length_append, List.length_singleton, List.range_succ, List.map_append]
  congr 1
  · refine List.map_congr_left (fun j hj => ?_)
    rw [List.mem_range] at hj
    rw [List.take_append_of_le_length (by omega)]
  · simp [List.take_of_length_le]
theorem endsF_at {F : List (Nat × List Nat)} {j : Nat} (h : j < (endsF F).length) : (endsF F)[j] = ((flatF (F.take j)).length : Int) := by simp [endsF]
/-- One number in a block of its own is a row of its own. -/
theorem ino_new (w : World) (x : Int) (base : Nat) (hb : base ≤ w.heap.size) : EOwn inO (w.alloc (.cells #[.int .i64 x] 3)) base (.slice (some ⟨w.heap.size, 0, none⟩) 1 1) [x] := by
  refine ⟨[[.int .i64 x]], rfl, ?_, fun i hi hi2 => ?_⟩
  · exact ⟨rfl, .inr ⟨w.heap.size, 1, #[.int .i64 x], rfl, hb, World.alloc_heap_new w _, Nat.le_refl _, (show 1 ≤ maxLen by decide), rfl, rfl⟩⟩
  · obtain rfl : i = 0 := by simp at hi; omega
    rfl
end Go.Proofs.Ytmnabhennibddaa
