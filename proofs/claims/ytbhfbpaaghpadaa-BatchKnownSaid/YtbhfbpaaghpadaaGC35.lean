/- A batch with its spans turned, a batch without a span; a row of spans that is written over. No conditions. -/
import Derived.Test.YtbhfbpaaghpadaaGC28
import Derived.Test.YtbhfbpaaghpadaaGC27
import Derived.Deep.MidRow
import Derived.Laws.IdiomCopy
set_option linter.unusedSimpArgs false
set_option linter.unusedVariables false
namespace Go.Proofs.Ytbhfbpaaghpadaa
open Go.RowKit

/-! ### Pure -/
def turnL (l : List Spn) (r : Nat) : List Spn := l.drop r ++ l.take r
def lessL (l : List Spn) (k : Nat) : List Spn := l.take k ++ l.drop (k + 1)
theorem turnL_len (l : List Spn) (r : Nat) : (turnL l r).length = l.length := by
  unfold turnL
  rw [List.length_append, List.length_drop, List.length_take]
  omega
theorem lessL_len (l : List Spn) {k : Nat} (h : k < l.length) : (lessL l k).length = l.length - 1 := by
  unfold lessL
  rw [List.length_append, List.length_drop, List.length_take]
  omega
theorem turnL_get {l : List Spn} {r i : Nat} (hr : r < l.length) (hi : i < l.length) : (turnL l r)[i]'(by rw [turnL_len]; exact hi) = l[(i + r) % l.length]'(Nat.mod_lt _ (by omega)) := by
  unfold turnL
  by_cases h : i < l.length - r
  · rw [List.getElem_append_left (by rw [List.length_drop]; exact h), List.getElem_drop]
    congr 1
    rw [Nat.mod_eq_of_lt (by omega)]
    omega
  · rw [List.getElem_append_right (by rw [List.length_drop]; omega), List.getElem_take]
    congr 1
    rw [List.length_drop]
    have : (i + r) % l.length = i + r - l.length := by
      rw [Nat.mod_eq_sub_mod (by omega), Nat.mod_eq_of_lt (by omega)]
    omega
theorem lessL_lt {l : List Spn} {k i : Nat} (h : i < (lessL l k).length) (hik : i < k) (hil : i < l.length) : (lessL l k)[i] = l[i] := by
  apply Option.some.inj
  rw [← List.getElem?_eq_getElem, ← List.getElem?_eq_getElem]
  unfold lessL
  rw [List.getElem?_append_left (by rw [List.length_take]; omega), List.getElem?_take_of_lt hik]
theorem lessL_ge {l : List Spn} {k i : Nat} (h : i < (lessL l k).length) (hik : ¬ i < k) (hk : k < l.length) (hil : i + 1 < l.length) : (lessL l k)[i] = l[i + 1] := by
  apply Option.some.inj
  rw [← List.getElem?_eq_getElem, ← List.getElem?_eq_getElem]
  unfold lessL
  rw [List.getElem?_append_right (by rw [List.length_take]; omega), List.getElem?_drop]
  congr 1
  rw [List.length_take]
  omega
theorem turnL_mem {l : List Spn} {r : Nat} {s : Spn} (h : s ∈ turnL l r) : s ∈ l := by
  unfold turnL at h
  rcases List.mem_append.1 h with h | h
  · exact List.mem_of_mem_drop h
  · exact List.mem_of_mem_take h
theorem lessL_mem {l : List Spn} {k : Nat} {s : Spn} (h : s ∈ lessL l k) : s ∈ l := by
  unfold lessL at h
  rcases List.mem_append.1 h with h | h
  · exact List.mem_of_mem_take h
  · exact List.mem_of_mem_drop h
theorem flat_split (l : List Spn) (r : Nat) : ((l.map spB).flatten).length = (((l.take r).map spB).flatten).length + (((l.drop r).map spB).flatten).length := by
  conv => lhs; rw [← List.take_append_drop r l]
  rw [List.map_append, List.flatten_append, List.length_append]
theorem flat_turn (l : List Spn) (r : Nat) : (((turnL l r).map spB).flatten).length = ((l.map spB).flatten).length := by
  rw [flat_split l r]
  unfold turnL
  rw [List.map_append, List.flatten_append, List.length_append]
  omega
theorem flat_less (l : List Spn) (k : Nat) : (((lessL l k).map spB).flatten).length ≤ ((l.map spB).flatten).length := by
  have h1 := flat_split l k
  have h2 := flat_split (l.drop k) 1
  rw [List.drop_drop] at h2
  unfold lessL
  rw [List.map_append, List.flatten_append, List.length_append]
  omega
theorem uN3_len (a s : Int) (n : Nat) (hn : n ≤ 16) : (uN [a, s, (n : Int)]).length = (uN [a, s, 0]).length := by
  unfold uN
  simp only [List.map_cons, List.map_nil, List.flatten_cons, List.flatten_nil, List.length_append, List.length_nil]
  have h : ∀ m : Nat, m ≤ 16 → (uP (m : Int)).1.length = 1 := fun m hm => by
    unfold uP
    rw [if_pos (by omega)]
    simp only [Int.toNat_natCast]
    rw [Dig.length_enc]
    unfold Dig.sz
    rw [if_pos (by omega)]
  have h0 := h n hn
  have h1 := h 0 (by omega)
  rw [h0, show (0 : Int) = ((0 : Nat) : Int) from rfl, h1]
theorem ok_turn {b : Bat} (h : OkB b) (r : Nat) : OkB { b with sp := turnL b.sp r } := by
  refine ⟨⟨h.1.ag, h.1.sq, ?_, fun s hs => h.1.sp s (turnL_mem hs)⟩, ?_⟩
  · show 1 ≤ (turnL b.sp r).length ∧ (turnL b.sp r).length ≤ 16
    rw [turnL_len]
    exact h.1.n
  · have h2 := h.2
    unfold btB at h2 ⊢
    rw [List.length_append] at h2 ⊢
    show (uN [b.ag, b.sq, ((turnL b.sp r).length : Int)]).length + (((turnL b.sp r).map spB).flatten).length ≤ 8192
    rw [turnL_len, flat_turn]
    exact h2
theorem ok_less {b : Bat} (h : OkB b) {k : Nat} (hk : k < b.sp.length) : OkB { b with sp := lessL b.sp k } ↔ 1 < b.sp.length := by
  have hl := lessL_len b.sp hk
  have hn := h.1.n
  constructor
  · intro h2
    have := h2.1.n.1
    have e : (lessL b.sp k).length ≥ 1 := this
    omega
  · intro h1
    refine ⟨⟨h.1.ag, h.1.sq, ?_, fun s hs => h.1.sp s (lessL_mem hs)⟩, ?_⟩
    · show 1 ≤ (lessL b.sp k).length ∧ (lessL b.sp k).length ≤ 16
      omega
    · have h2 := h.2
      unfold btB at h2 ⊢
      rw [List.length_append] at h2 ⊢
      show (uN [b.ag, b.sq, ((lessL b.sp k).length : Int)]).length + (((lessL b.sp k).map spB).flatten).length ≤ 8192
      rw [uN3_len _ _ _ (by omega)] at h2 ⊢
      have := flat_less b.sp k
      omega

/-! ### Memory -/
def rowSetB (cs : Array Value) : Nat → List Value → Array Value
  | _, [] => cs
  | o, v :: r => rowSetB (cs.setIfInBounds o v) (o + 1) r
theorem rowSetB_size : ∀ (vs : List Value) (cs : Array Value) (o : Nat), (rowSetB cs o vs).size = cs.size
  | [], _, _ => rfl
  | v :: r, cs, o => (rowSetB_size r _ _).trans Array.size_setIfInBounds
theorem heap_rowB {q : Nat} {t : TypeId} {mk : Nat × Nat} : ∀ (vs : List Value) (o : Nat) (w : World) (cs : Array Value), w.heap[q]? = some (.cells cs t mk) → (w.setCells q o vs).heap[q]? = some (.cells (rowSetB cs o vs) t mk)
  | [], _, _, _, h => h
  | v :: r, o, w, cs, h => heap_rowB r (o + 1) _ _ (heap_set h o v)
theorem row_otherB (q k : Nat) (hk : k ≠ q) : ∀ (vs : List Value) (o : Nat) (w : World), (w.setCells q o vs).heap[k]? = w.heap[k]?
  | [], _, _ => rfl
  | v :: r, o, w => (row_otherB q k hk r (o + 1) _).trans (Below.heap_setCell w ⟨q, o, none⟩ v k hk)
theorem bel_rowB {w0 : World} {q : Nat} (hq : w0.heap.size ≤ q) : ∀ (vs : List Value) (o : Nat) {w : World}, Below w0.heap.size w0 w → Below w0.heap.size w0 (w.setCells q o vs)
  | [], _, _, h => h
  | v :: r, o, _, h => bel_rowB hq r (o + 1) (h.setCell (p := ⟨q, o, none⟩) hq _)
theorem SpOwn.setC1 {w : World} {base : Nat} {v : Value} {l : List Spn} (h : SpOwn w base v l) {g : Nat} {c : Array Value} {mk : Nat × Nat} (hq : w.heap[g]? = some (.cells c 32 mk)) (hne : v.ownBlock ≠ some g) (j : Nat) (x : Value) : SpOwn (w.setCell ⟨g, j, none⟩ x) base v l := by
  obtain ⟨vs, hv, h1, h2⟩ := h
  exact ⟨vs, hv, ownsRow_setCell_other h1 (a := ⟨g, j, none⟩) hne _, fun i hi => ownsRow_setCell_other (h2 i hi) (a := ⟨g, j, none⟩) (own_ne2 (h2 i hi) hq (by decide)) _⟩
theorem SpOwn.setCs {base : Nat} {v : Value} {l : List Spn} {g : Nat} {mk : Nat × Nat} (hne : v.ownBlock ≠ some g) : ∀ (us : List Value) (o : Nat) (w : World) (c : Array Value), SpOwn w base v l → w.heap[g]? = some (.cells c 32 mk) → SpOwn (w.setCells g o us) base v l
  | [], _, _, _, h, _ => h
  | u :: r, o, w, c, h, hq => SpOwn.setCs hne r (o + 1) _ _ (h.setC1 hq hne o u) (heap_set hq o u)
/-- The row of spans at g, cap long, of which the first i are T's, with lists of attributes that lay there in w0. -/
structure TurnAt (w0 W : World) (g cap : Nat) (T : List Spn) (i : Nat) : Prop where
  blk : ∃ cur : Array Value, W.heap[g]? = some (.cells cur 32 (0, 0)) ∧ cur.size = cap * 9
  done : ∀ j (h : j < T.length), j < i → ∃ P m d, AS w0 P m d T[j].ats ∧ ∀ y v, (T[j].cells (.slice P m d))[y]? = some v → W.cell? ⟨g, j * 9 + y, none⟩ = some v
theorem TurnAt.below {w0 W W' : World} {g cap : Nat} {T : List Spn} {i : Nat} (h : TurnAt w0 W g cap T i) (hb : Below W.heap.size W W') : TurnAt w0 W' g cap T i := by
  obtain ⟨cur, h1, h2⟩ := h.blk
  refine ⟨⟨cur, blk_below' h1 hb, h2⟩, fun j hj hi => ?_⟩
  obtain ⟨P, m, d, hA, hc⟩ := h.done j hj hi
  refine ⟨P, m, d, hA, fun y v hy => ?_⟩
  have := hc y v hy
  exact (hb.cell (p := ⟨g, j * 9 + y, none⟩) (World.block_lt_of_cell? W _ this)).trans this
where blk_below' {w w' : World} {q : Nat} {o : Obj} (h : w.heap[q]? = some o) (hb : Below w.heap.size w w') : w'.heap[q]? = some o := (hb.block _ (Array.getElem?_eq_some_iff.1 h).1).trans h
theorem TurnAt.there {w0 W : World} {g cap : Nat} {T : List Spn} {i : Nat} (h : TurnAt w0 W g cap T i) (hi : i < cap) : W.there g (i * 9) 9 := by
  obtain ⟨cur, h1, h2⟩ := h.blk
  intro j hj
  refine ⟨?_, frozen_of h1 _⟩
  rw [cell_of h1]
  simp
  omega
theorem TurnAt.store {w0 W : World} {g cap : Nat} {T : List Spn} {i : Nat} (h : TurnAt w0 W g cap T i) (hi : i < T.length) (hc : T.length ≤ cap) {P : Option Addr} {m d : Nat} (hA : AS w0 P m d T[i].ats) :
    TurnAt w0 (W.setCells g (i * 9) (T[i].cells (.slice P m d))) g cap T (i + 1) := by
  have hth := h.there (show i < cap by omega)
  obtain ⟨cur, h1, h2⟩ := h.blk
  refine ⟨⟨_, heap_rowB _ _ _ _ h1, (rowSetB_size _ _ _).trans h2⟩, fun j hj hji => ?_⟩
  by_cases e : j = i
  · subst e
    refine ⟨P, m, d, hA, fun y v hy => ?_⟩
    have hy9 : y < (T[j].cells (.slice P m d)).length := (List.getElem?_eq_some_iff.1 hy).1
    have := World.cell?_setCells_in g (T[j].cells (.slice P m d)) (j * 9) W (fun k hk => (hth k hk).1) y hy9
    rw [this, ← hy]
    exact (List.getElem?_eq_getElem _).symm
  · obtain ⟨P2, m2, d2, hA2, hc2⟩ := h.done j hj (by omega)
    refine ⟨P2, m2, d2, hA2, fun y v hy => ?_⟩
    have hy9 : y < 9 := (List.getElem?_eq_some_iff.1 hy).1
    rw [World.cell?_setCells_out g _ _ W ⟨g, j * 9 + y, none⟩ (fun _ _ => .inl (by show j * 9 + y < i * 9; omega))]
    exact hc2 y v hy
theorem TurnAt.ls {w0 W : World} {g cap : Nat} {T : List Spn} {n : Nat} (h : TurnAt w0 W g cap T n) (hb : Below w0.heap.size w0 W) (hn : n = T.length) (hc : T.length ≤ cap) (hl : T.length ≤ 1256584717421) : LS W (some ⟨g, 0, none⟩) n cap T := by
  refine ⟨hn, hc, (by intro e; cases e), fun i hi => ?_, hl⟩
  obtain ⟨P, m, d, hA, hcc⟩ := h.done i hi (by omega)
  refine ⟨g, 0, P, m, d, rfl, fun j v hj => ?_, hA.below hb⟩
  have := hcc j v hj
  rw [show 0 + i * 9 + j = i * 9 + j by omega]
  exact this
/-- A row of at least one span: its block. -/
theorem SpOwn.turn {w0 w : World} {base : Nat} {v : Value} {l : List Spn} (h : SpOwn w base v l) (hn : 0 < l.length) (T : List Spn) : ∃ g c, v = .slice (some ⟨g, 0, none⟩) l.length c ∧ l.length ≤ c ∧ c ≤ maxLen ∧ base ≤ g ∧ g < w.heap.size ∧ TurnAt w0 w g c T 0 := by
  obtain ⟨vs, hv, h1, h2⟩ := h
  obtain ⟨A, c0, e0, hle, hcm, _, _, hA⟩ := ownsRow_lies h1
  rcases h1.2 with ⟨_, h0⟩ | ⟨g, cap, cur, e, hb, hg, h3, h4, h5, h6⟩
  · omega
  · rw [e] at e0
    injection e0 with e1 e2 e3
    subst e3
    exact ⟨g, _, e, hle, hcm, hb, (Array.getElem?_eq_some_iff.1 hg).1, ⟨⟨cur, hg, h5⟩, fun j hj hi => absurd hi (by omega)⟩⟩
theorem spc_append : ∀ (l : List Spn) (vs : List Value) (l2 : List Spn) (vs2 : List Value), vs.length = l.length → spc (l ++ l2) (vs ++ vs2) = spc l vs ++ spc l2 vs2
  | [], [], _, _, _ => rfl
  | a :: l, b :: vs, l2, vs2, h => by
    show a.cells b ++ spc (l ++ l2) (vs ++ vs2) = _
    rw [spc_append l vs l2 vs2 (by simpa using h)]
    exact (List.append_assoc _ _ _).symm
  | [], b :: vs, _, _, h => by simp at h
  | a :: l, [], _, _, h => by simp at h
theorem spc_take : ∀ (l : List Spn) (vs : List Value) (k : Nat), vs.length = l.length → (spc l vs).take (9 * k) = spc (l.take k) (vs.take k)
  | _, _, 0, _ => by cases ‹List Spn› <;> cases ‹List Value› <;> rfl
  | [], [], k + 1, _ => rfl
  | a :: l, b :: vs, k + 1, h => by
    show (a.cells b ++ spc l vs).take (9 * (k + 1)) = a.cells b ++ spc (l.take k) (vs.take k)
    rw [show 9 * (k + 1) = (a.cells b).length + 9 * k by show _ = 9 + 9 * k; omega, List.take_length_add_append, spc_take l vs k (by simpa using h)]
  | [], b :: vs, _ + 1, h => by simp at h
  | a :: l, [], _ + 1, h => by simp at h
theorem spc_drop (l : List Spn) (vs : List Value) (k : Nat) (h : vs.length = l.length) : (spc l vs).drop (9 * k) = spc (l.drop k) (vs.drop k) := by
  have h1 := spc_append (l.take k) (vs.take k) (l.drop k) (vs.drop k) (by simp [h])
  rw [List.take_append_drop, List.take_append_drop, ← spc_take l vs k h] at h1
  have h2 := List.take_append_drop (9 * k) (spc l vs)
  exact List.append_cancel_left (h2.trans h1)
/-- The row's first k. -/
theorem ownsRow_take {w : World} {base : Nat} {t : TypeId} {g n c : Nat} {xs : List Value} (h : w.ownsRow base t 9 (.slice (some ⟨g, 0, none⟩) n c) n xs) {k : Nat} (hk : k ≤ n) : w.ownsRow base t 9 (.slice (some ⟨g, 0, none⟩) k c) k (xs.take (9 * k)) := by
  obtain ⟨hl, h⟩ := h
  refine ⟨by rw [List.length_take]; omega, ?_⟩
  rcases h with ⟨e, _⟩ | ⟨g2, cap, cur, e, hb, hg, h3, h4, h5, h6⟩
  · cases e
  · refine .inr ⟨g2, cap, cur, ?_, hb, hg, by omega, h4, h5, ?_⟩
    · injection e with e1 e2 e3
      rw [e1, e3]
    · rw [← h6]
      simp only [List.take_take]
      congr 1
      omega
def dropS (g c k : Nat) : Option Addr := some (if c = k then ⟨g, 0, none⟩ else ⟨g, 9 * k, none⟩)
/-- append(d[:k], d[k+1:]...) of an owned row of spans. -/
theorem wp_append_less {w : World} {o : Oper} {a : Act} {K : Act → World → Prop} {Q : Exit → Act → World → Prop} (s x : Operand)
    (ho : o.op = .call { callee := .builtin .append, args := #[s, x], argTypes := #[22, 22] })
    (base g c k : Nat) (l : List Spn) (hk : k < l.length) (hs : a.eval s = .slice (some ⟨g, 0, none⟩) k c) (hown : SpOwn w base (.slice (some ⟨g, 0, none⟩) l.length c) l)
    (hx : a.eval x = .slice (dropS g c (k + 1)) (l.length - (k + 1)) (c - (k + 1))) (hl : l.length ≤ 1256584717421) (hbase : base ≤ w.heap.size)
    (h : ∀ v' w', SpOwn w' base v' (lessL l k) → w.grownBy w' (some g) → base ≤ g → g < w.heap.size → K (a.put o.dst v') w') :
    o.wp Try.prog a w K Q := by
  obtain ⟨vs, hv, h1, h2⟩ := hown
  obtain ⟨A, c0, e0, hle, hcm, _, hlies, hA⟩ := ownsRow_lies h1
  injection e0 with e1 _ e3
  subst e1 e3
  have hg := hA _ rfl
  have hlen := spc_length l vs hv
  have h1k := ownsRow_take h1 (k := k) (by omega)
  refine wp_append_any s x _ ho base 32 _ 9 112 Try.underlying22 infoSpn rfl (by decide) _ k ((spc l vs).take (9 * k)) hs h1k (dropS g c (k + 1)) (l.length - (k + 1)) (c - (k + 1)) ((spc l vs).drop (9 * (k + 1))) hx (by intro e; cases e) (by omega) (by rw [List.length_drop, hlen]; omega) ?_ ?_ (by unfold maxLen at *; omega) (by omega) hbase ?_
  · intro i hi
    rw [List.length_drop, hlen] at hi
    refine ⟨_, rfl, ?_⟩
    obtain ⟨ad, e, hc⟩ := hlies (9 * (k + 1) + i) (by rw [hlen]; omega)
    cases e
    rw [addr_add] at hc
    rw [if_neg (by omega), addr_add, List.getElem_drop, ← hc]
    congr 2
    omega
  · intro u hu
    have hu' := List.mem_of_mem_drop hu
    obtain ⟨i, hi, rfl⟩ := List.getElem_of_mem hu'
    rw [hlen] at hi
    have h9 := spc_at l vs hv (i / 9) (by omega) (by omega) (i % 9) (Nat.mod_lt _ (by omega))
    rw [Nat.div_add_mod, List.getElem?_eq_getElem (by rw [hlen]; omega)] at h9
    have hvi : (vs[i / 9]'(by omega)).oneCell' = true := by rcases (h2 (i / 9) (by omega)).2 with ⟨e, _⟩ | ⟨_, _, _, e, _⟩ <;> rw [e] <;> rfl
    exact spn_oneCell _ hvi _ (List.mem_of_getElem? h9.symm)
  · intro v' w' h3 h4 h5
    refine h v' w' ⟨vs.take k ++ vs.drop (k + 1), ?_, ?_, fun i hi => ?_⟩ h4 hg.1 hg.2
    · unfold lessL
      simp only [List.length_append, List.length_take, List.length_drop, hv]
    · unfold lessL
      rw [spc_append _ _ _ _ (by simp [hv]), ← spc_take l vs k hv, ← spc_drop l vs (k + 1) hv]
      have e : k + (l.length - (k + 1)) = (l.take k ++ l.drop (k + 1)).length := by rw [List.length_append, List.length_take, List.length_drop]; omega
      rw [← e]
      exact h3
    · have hfar : ∀ (y : Value) (n : Nat) (xs : List Value), w.ownsRow base 46 6 y n xs → w'.ownsRow base 46 6 y n xs := fun y n xs hy => own_far hy h4 (fun j hj => own_types hy h1 (by decide) hj)
      have hi' : i < l.length - 1 := by rw [lessL_len l hk] at hi; exact hi
      by_cases hik : i < k
      · have e1 : (vs.take k ++ vs.drop (k + 1))[i]'(by simp [hv]; omega) = vs[i]'(by omega) := by rw [List.getElem_append_left (by simp [hv]; omega), List.getElem_take]
        have e2 := lessL_lt hi hik (by omega)
        rw [e1, e2]
        exact hfar _ _ _ (h2 i (by omega))
      · have e1 : (vs.take k ++ vs.drop (k + 1))[i]'(by simp [hv]; omega) = vs[i + 1]'(by omega) := by
          rw [List.getElem_append_right (by simp [hv]; omega), List.getElem_drop]
          congr 1
          simp [hv]
          omega
        have e2 := lessL_ge hi hik hk (by omega)
        rw [e1, e2]
        exact hfar _ _ _ (h2 (i + 1) (by omega))
theorem size_spn (w : World) : (sizeOf (Try.prog.elem 22)).run Try.prog w = .ok 9 w := by
  obtain ⟨i5, hi5, hz5, hs5, hb5⟩ := info_parts infoSpn
  rw [show Try.prog.elem 22 = 32 by kernel_rfl]
  simp [sizeOf, typeInfo, hi5, hs5]
set_option maxRecDepth 100000 in
theorem slice_dropSp {w : World} {g n c : Nat} {k : Nat} (hk : k ≤ n) (hc : n ≤ c) :
    (Instr.slice 22 (.slice (some ⟨g, 0, none⟩) n c) (some (.int .i64 (k : Int))) none none).run Try.prog w = .ok (.slice (dropS g c k) (n - k) (c - k)) w := by
  have h1 : (k : Int) ≤ (n : Int) := by omega
  rw [run_slice_l w 22 (some ⟨g, 0, none⟩) n c Try.underlying22 .i64 k (by omega) h1]
  rw [size_spn]
  simp only [sliced, Result.andThen, Int.toNat_natCast, dropS]
  by_cases e : c = k
  · simp [e]
  · simp [e, addr_add, Nat.mul_comm]
set_option maxRecDepth 100000 in
theorem slice_takeSp {w : World} {A : Option Addr} {n c : Nat} {k : Nat} (hk : k ≤ c) :
    (Instr.slice 22 (.slice A n c) none (some (.int .i64 (k : Int))) none).run Try.prog w = .ok (.slice A k c) w := by
  have h1 : (k : Int) ≤ (c : Int) := by omega
  rw [run_slice_h w 22 A n c Try.underlying22 .i64 k (by omega) h1]
  rw [size_spn]
  simp only [sliced, Result.andThen, Int.toNat_natCast, Nat.zero_mul, Nat.sub_zero]
  split
  · rfl
  · cases A <;> simp [Addr.add]
theorem LS.at2 {w wr : World} {g o n c : Nat} {ls : List Spn} (h : LS w (some ⟨g, o, none⟩) n c ls) (hb : Below w.heap.size w wr) {k : Nat} (hk : k < ls.length) :
    ∃ B m d, AS w B m d ls[k].ats ∧ wr.cell? ⟨g, o + k * 9, none⟩ = some (.int .i64 ls[k].tr) ∧ wr.cell? ⟨g, o + k * 9 + 1, none⟩ = some (.int .i64 ls[k].id) ∧ wr.cell? ⟨g, o + k * 9 + 2, none⟩ = some (.int .i64 ls[k].pa) ∧ wr.cell? ⟨g, o + k * 9 + 3, none⟩ = some (.string ls[k].sv) ∧ wr.cell? ⟨g, o + k * 9 + 4, none⟩ = some (.string ls[k].op) ∧ wr.cell? ⟨g, o + k * 9 + 5, none⟩ = some (.int .i64 ls[k].st) ∧ wr.cell? ⟨g, o + k * 9 + 6, none⟩ = some (.int .i64 ls[k].ln) ∧ wr.cell? ⟨g, o + k * 9 + 7, none⟩ = some (.string ls[k].sj) ∧ wr.cell? ⟨g, o + k * 9 + 8, none⟩ = some (.slice B m d) := by
  obtain ⟨g2, o2, B, m, d, e, hI, h0⟩ := h.cellsAt hb hk
  injection e with e
  injection e with e1 e2 _
  subst e1 e2
  exact ⟨B, m, d, hI, h0⟩
/-! ### Where BatchLess stands -/
theorem blk_bel {w w' : World} {q : Nat} {o : Obj} (h : w.heap[q]? = some o) (hb : Below w.heap.size w w') : w'.heap[q]? = some o := (hb.block _ (Array.getElem?_eq_some_iff.1 h).1).trans h
theorem blk_ne {W : World} {q g : Nat} {c1 c2 : Array Value} {t1 t2 : TypeId} {m1 m2 : Nat × Nat} (h1 : W.heap[q]? = some (.cells c1 t1 m1)) (h2 : W.heap[g]? = some (.cells c2 t2 m2)) (ht : t1 ≠ t2) : q ≠ g := by
  intro e
  subst e
  rw [h1] at h2
  injection h2 with h2
  injection h2 with _ h3 _
  exact ht h3
theorem SpOwn.setBat {w : World} {base : Nat} {v : Value} {l : List Spn} (h : SpOwn w base v l) {q : Nat} {c : Array Value} {mk : Nat × Nat} (hq : w.heap[q]? = some (.cells c 24 mk)) (j : Nat) (x : Value) : SpOwn (w.setCell ⟨q, j, none⟩ x) base v l := by
  obtain ⟨vs, hv, h1, h2⟩ := h
  exact ⟨vs, hv, ownsRow_setCell_other h1 (a := ⟨q, j, none⟩) (own_ne2 h1 hq (by decide)) _, fun i hi => ownsRow_setCell_other (h2 i hi) (a := ⟨q, j, none⟩) (own_ne2 (h2 i hi) hq (by decide)) _⟩
theorem TurnAt.setBat {w0 W : World} {g cap : Nat} {T : List Spn} {i : Nat} (h : TurnAt w0 W g cap T i) {q : Nat} {c : Array Value} {mk : Nat × Nat} (hq : W.heap[q]? = some (.cells c 24 mk)) (j : Nat) (x : Value) : TurnAt w0 (W.setCell ⟨q, j, none⟩ x) g cap T i := by
  obtain ⟨cur, h1, h2⟩ := h.blk
  have hne : g ≠ q := blk_ne h1 hq (by decide)
  have hk : (W.setCell ⟨q, j, none⟩ x).heap[g]? = W.heap[g]? := Below.heap_setCell W ⟨q, j, none⟩ x g hne
  refine ⟨⟨cur, hk.trans h1, h2⟩, fun y hy hi => ?_⟩
  obtain ⟨P, m, d, hA, hc⟩ := h.done y hy hi
  refine ⟨P, m, d, hA, fun z v hz => ?_⟩
  exact (World.cell?_of_block (a := ⟨g, y * 9 + z, none⟩) hk).trans (hc z v hz)
structure LsW (b : Bat) (w W : World) (q3 q7 q8 : Nat) (A : Option Addr) (n c g7 c7 : Nat) (v8 : Value) (l8 : List Spn) (T : List Spn) (i : Nat) : Prop where
  bw : Below w.heap.size w W
  b3 : W.heap[q3]? = some (.cells #[.int .i64 b.ag, .int .i64 b.sq, .slice A n c] 24 (0, 0))
  b7 : W.heap[q7]? = some (.cells #[.int .i64 b.ag, .int .i64 b.sq, .slice (some ⟨g7, 0, none⟩) n c7] 24 (0, 0))
  b8 : W.heap[q8]? = some (.cells #[.int .i64 b.ag, .int .i64 b.sq, v8] 24 (0, 0))
  tn : TurnAt w W g7 c7 T i
  o8 : SpOwn W w.heap.size v8 l8
theorem LsW.below {b : Bat} {w W W' : World} {q3 q7 q8 : Nat} {A : Option Addr} {n c g7 c7 : Nat} {v8 : Value} {l8 T : List Spn} {i : Nat} (h : LsW b w W q3 q7 q8 A n c g7 c7 v8 l8 T i) (hb : Below W.heap.size W W') : LsW b w W' q3 q7 q8 A n c g7 c7 v8 l8 T i :=
  ⟨nx h.bw hb, blk_bel h.b3 hb, blk_bel h.b7 hb, blk_bel h.b8 hb, h.tn.below hb, h.o8.below hb⟩
theorem LsW.store {b : Bat} {w W : World} {q3 q7 q8 : Nat} {A : Option Addr} {n c g7 c7 : Nat} {v8 : Value} {l8 T : List Spn} {i : Nat} (h : LsW b w W q3 q7 q8 A n c g7 c7 v8 l8 T i) (hg : w.heap.size ≤ g7) (hi : i < T.length) (hc : T.length ≤ c7) {P : Option Addr} {m d : Nat} (hA : AS w P m d T[i].ats) (hne : v8.ownBlock ≠ some g7) :
    LsW b w (W.setCells g7 (i * 9) (T[i].cells (.slice P m d))) q3 q7 q8 A n c g7 c7 v8 l8 T (i + 1) := by
  obtain ⟨cur, h1, h2⟩ := h.tn.blk
  exact ⟨bel_rowB hg _ _ h.bw, (row_otherB _ _ (blk_ne h.b3 h1 (by decide)) _ _ _).trans h.b3, (row_otherB _ _ (blk_ne h.b7 h1 (by decide)) _ _ _).trans h.b7, (row_otherB _ _ (blk_ne h.b8 h1 (by decide)) _ _ _).trans h.b8, h.tn.store hi hc hA, SpOwn.setCs hne _ _ _ _ h.o8 h1⟩
/-- c, d := Copy(b), Copy(b): both stores. -/
theorem LsW.start {b : Bat} {w W : World} {q3 q7 q8 : Nat} {A : Option Addr} {n c g7 c7 : Nat} {v8 : Value} {l8 T : List Spn} (hb : Below w.heap.size w W)
    (h3 : W.heap[q3]? = some (.cells #[.int .i64 b.ag, .int .i64 b.sq, .slice A n c] 24 (0, 0)))
    (h7 : W.heap[q7]? = some (.cells #[.int .i64 0, .int .i64 0, .slice none 0 0] 24 (0, 0)))
    (h8 : W.heap[q8]? = some (.cells #[.int .i64 0, .int .i64 0, .slice none 0 0] 24 (0, 0)))
    (ht : TurnAt w W g7 c7 T 0) (ho : SpOwn W w.heap.size v8 l8) (l37 : q3 ≠ q7) (l38 : q3 ≠ q8) (l78 : q7 ≠ q8) (l7 : w.heap.size ≤ q7) (l8' : w.heap.size ≤ q8) :
    LsW b w ((((((W.setCell ⟨q7, 0, none⟩ (.int .i64 b.ag)).setCell ⟨q7, 1, none⟩ (.int .i64 b.sq)).setCell ⟨q7, 2, none⟩ (.slice (some ⟨g7, 0, none⟩) n c7)).setCell ⟨q8, 0, none⟩ (.int .i64 b.ag)).setCell ⟨q8, 1, none⟩ (.int .i64 b.sq)).setCell ⟨q8, 2, none⟩ v8) q3 q7 q8 A n c g7 c7 v8 l8 T 0 := by
  have s7 : ∀ (W : World) (j : Nat) (x : Value) (q : Nat), q ≠ q7 → (W.setCell ⟨q7, j, none⟩ x).heap[q]? = W.heap[q]? := fun W j x q hq => Below.heap_setCell W ⟨q7, j, none⟩ x q hq
  have s8 : ∀ (W : World) (j : Nat) (x : Value) (q : Nat), q ≠ q8 → (W.setCell ⟨q8, j, none⟩ x).heap[q]? = W.heap[q]? := fun W j x q hq => Below.heap_setCell W ⟨q8, j, none⟩ x q hq
  have a1 := heap_set h7 0 (.int .i64 b.ag)
  have a2 := heap_set a1 1 (.int .i64 b.sq)
  have a3 := heap_set a2 2 (.slice (some ⟨g7, 0, none⟩) n c7)
  have e8 := (s7 _ 2 (.slice (some ⟨g7, 0, none⟩) n c7) q8 (fun e => l78 e.symm)).trans ((s7 _ 1 (.int .i64 b.sq) q8 (fun e => l78 e.symm)).trans ((s7 _ 0 (.int .i64 b.ag) q8 (fun e => l78 e.symm)).trans h8))
  have d1 := heap_set e8 0 (.int .i64 b.ag)
  have d2 := heap_set d1 1 (.int .i64 b.sq)
  have d3 := heap_set d2 2 v8
  refine ⟨?_, ?_, ?_, d3, ?_, ?_⟩
  · exact (((((hb.setCell (p := ⟨q7, 0, none⟩) l7 _).setCell (p := ⟨q7, 1, none⟩) l7 _).setCell (p := ⟨q7, 2, none⟩) l7 _).setCell (p := ⟨q8, 0, none⟩) l8' _).setCell (p := ⟨q8, 1, none⟩) l8' _).setCell (p := ⟨q8, 2, none⟩) l8' _
  · exact (s8 _ 2 _ q3 l38).trans ((s8 _ 1 _ q3 l38).trans ((s8 _ 0 _ q3 l38).trans ((s7 _ 2 _ q3 l37).trans ((s7 _ 1 _ q3 l37).trans ((s7 _ 0 _ q3 l37).trans h3)))))
  · exact (s8 _ 2 _ q7 l78).trans ((s8 _ 1 _ q7 l78).trans ((s8 _ 0 _ q7 l78).trans a3))
  · exact (((((ht.setBat h7 0 _).setBat a1 1 _).setBat a2 2 _).setBat e8 0 _).setBat d1 1 _).setBat d2 2 _
  · exact (((((ho.setBat h7 0 _).setBat a1 1 _).setBat a2 2 _).setBat e8 0 _).setBat d1 1 _).setBat d2 2 _
/-- d.Spans = append(..): the row, then the store. -/
theorem LsW.less {b : Bat} {w W W' : World} {q3 q7 q8 : Nat} {A : Option Addr} {n c g7 c7 g8 : Nat} {v8 v' : Value} {l8 l9 T : List Spn} {i : Nat} (h : LsW b w W q3 q7 q8 A n c g7 c7 v8 l8 T i) (hg : W.grownBy W' (some g8)) (hw : w.heap.size ≤ g8) (ho : SpOwn W' w.heap.size v' l9) {cur : Array Value} {mk : Nat × Nat} (h8 : W.heap[g8]? = some (.cells cur 32 mk)) (hne : g7 ≠ g8) :
    W'.heap[q8]? = some (.cells #[.int .i64 b.ag, .int .i64 b.sq, v8] 24 (0, 0)) ∧ (q7 ≠ q8 → q3 ≠ q8 → w.heap.size ≤ q8 → LsW b w (W'.setCell ⟨q8, 2, none⟩ v') q3 q7 q8 A n c g7 c7 v' l9 T i) := by
  have far : ∀ (q : Nat) (c : Array Value) (t : TypeId) (mk : Nat × Nat), W.heap[q]? = some (.cells c t mk) → q ≠ g8 → W'.heap[q]? = some (.cells c t mk) := fun q c t mk hq hn => (hg.block q (Array.getElem?_eq_some_iff.1 hq).1 (fun e => hn (by injection e))).trans hq
  have k3 := far _ _ _ _ h.b3 (blk_ne h.b3 h8 (by decide))
  have k7 := far _ _ _ _ h.b7 (blk_ne h.b7 h8 (by decide))
  have k8 := far _ _ _ _ h.b8 (blk_ne h.b8 h8 (by decide))
  refine ⟨k8, fun n78 n38 l8' => ?_⟩
  have s8 : ∀ (j : Nat) (x : Value) (q : Nat), q ≠ q8 → (W'.setCell ⟨q8, j, none⟩ x).heap[q]? = W'.heap[q]? := fun j x q hq => Below.heap_setCell W' ⟨q8, j, none⟩ x q hq
  have htn : TurnAt w W' g7 c7 T i := by
    obtain ⟨cu, h1, h2⟩ := h.tn.blk
    have hk := far _ _ _ _ h1 hne
    refine ⟨⟨cu, hk, h2⟩, fun y hy hi => ?_⟩
    obtain ⟨P, m, d, hA, hc⟩ := h.tn.done y hy hi
    exact ⟨P, m, d, hA, fun z v hz => (World.cell?_of_block (a := ⟨g7, y * 9 + z, none⟩) (hk.trans h1.symm)).trans (hc z v hz)⟩
  refine ⟨?_, (s8 2 _ q3 n38).trans k3, (s8 2 _ q7 n78).trans k7, heap_set k8 2 v', htn.setBat k8 2 _, ho.setBat k8 2 _⟩
  exact (grown_below h.bw hg (fun k hk => by injection hk with hk; omega)).setCell (p := ⟨q8, 2, none⟩) l8' _
end Go.Proofs.Ytbhfbpaaghpadaa
