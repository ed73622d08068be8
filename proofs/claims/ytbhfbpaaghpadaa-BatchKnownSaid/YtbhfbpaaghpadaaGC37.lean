/- Lemmas for the law BatchKnown: chapter in a block of its own, batches that may not be. No conditions. -/
import Derived.Test.YtbhfbpaaghpadaaGC32
import Derived.Test.YtbhfbpaaghpadaaGC36
import Derived.Lib.AppendZerosOnto
import Derived.Shelf.Strings.Repeat
set_option linter.unusedSimpArgs false
set_option linter.unusedVariables false
namespace Go.Proofs.Ytbhfbpaaghpadaa
open Go.RowKit

set_option maxHeartbeats 4000000 in
set_option maxRecDepth 100000 in
theorem chapter2_any (w : World) : Calls Try.prog 13 #[] w fun e w' => ∃ g, e = .returned (.agg #[.int .i64 1, .int .i64 2, .slice (some ⟨g, 0, none⟩) 1 1]) ∧ BSp w' g chS (.slice none 0 0) ∧ w.heap.size ≤ g ∧ Below w.heap.size w w' := by
  go_enter Try.func13, Try.ntmps13
  go_wp2_with fail
  obtain ⟨W, hW⟩ : ∃ W, W = ((w.alloc (.cells #[.int .i64 1, .int .i64 2, .slice (some ⟨w.heap.size + 1, 0, none⟩) 1 1] 24)).alloc (.cells #[.int .i64 3, .int .i64 4, .int .i64 0, .string ⟨#[97]⟩, .string ⟨#[98]⟩, .int .i64 5, .int .i64 6, .string ⟨#[]⟩, .slice none 0 0] 32)) := ⟨_, rfl⟩
  have B4 : W.heap[w.heap.size]? = some (.cells #[.int .i64 1, .int .i64 2, .slice (some ⟨w.heap.size + 1, 0, none⟩) 1 1] 24 (0, 0)) := by
    rw [hW]; exact alloc_block (heap_alloc_new w _)
  have B5 : BSp W (w.heap.size + 1) chS (.slice none 0 0) := by
    rw [hW]
    have := BSp.new (w.alloc (.cells #[.int .i64 1, .int .i64 2, .slice (some ⟨w.heap.size + 1, 0, none⟩) 1 1] 24)) chS (.slice none 0 0)
    rw [World.size_alloc] at this
    exact this
  have HB : Below w.heap.size w W := by rw [hW]; exact nx (bel1 _ _) (bel1 _ _)
  first | rw [← hW] | skip
  clear hW
  have d0 := cell_of B4 0
  have d1 := cell_of B4 1
  have d2 := cell_of B4 2
  simp at d0 d1 d2
  refine bodyPost_ret (by simp [results, Try.results13, go_sem, d0, d1, d2]; try rfl) rfl ?_
  exact ⟨_, rfl, B5, Nat.le_succ _, HB⟩

theorem rep_snoc (k : Nat) (s : Spn) : List.replicate (k + 1) s = List.replicate k s ++ [s] := by rw [List.replicate_succ']
theorem exec_build {P : Program} {f : Operand → Value} {o : Oper} {t : TypeId} {parts : Array (Nat × Operand)} {vals : Array (Nat × Value)} {v : Value} {w : World} (ho : o.op = .build t parts) (hv : parts.map (fun (i, x) => (i, f x)) = vals) (h : (Instr.build t vals).run P w = .ok v w) : (execOp f o).run P w = .ok (.value v) w := by
  unfold execOp
  simp only [ho, hv, Sem.run_bind, h, Result.andThen_ok, Sem.run_pure]
theorem build_attr (nn rv : ByteArray) (w : World) : (Instr.build 46 #[(0, .string nn), (1, .agg #[.int .i64 7, .int .u32 0]), (2, .agg #[.int .i64 2, .int .i64 0, .string rv])]).run Try.prog w = .ok (.agg #[.string nn, .int .i64 7, .int .u32 0, .int .i64 2, .int .i64 0, .string rv]) w := by kernel_rfl
theorem exec_buildSlice {P : Program} {f : Operand → Value} {o : Oper} {t : TypeId} {n : Nat} {parts : Array (Nat × Operand)} {vals : Array (Nat × Value)} {v : Value} {w w' : World} (ho : o.op = .buildSlice t n parts) (hv : parts.map (fun (i, x) => (i, f x)) = vals) (h : (Instr.buildSlice t n vals).run P w = .ok v w') : (execOp f o).run P w = .ok (.value v) w' := by
  unfold execOp
  simp only [ho, hv, Sem.run_bind, h, Result.andThen_ok, Sem.run_pure]
theorem wp_run {P : Program} {o : Oper} {a : Act} {w w' : World} {K : Act → World → Prop} {Q : Exit → Act → World → Prop} {v : Value} (h : (execOp a.eval o).run P w = .ok (.value v) w') (hk : K (a.put o.dst v) w') : o.wp P a w K Q := by
  unfold Oper.wp
  rw [h]
  exact hk
theorem bslice_attr (nn rv : ByteArray) (w : World) : (Instr.buildSlice 30 1 #[(0, .agg #[.string nn, .int .i64 7, .int .u32 0, .int .i64 2, .int .i64 0, .string rv])]).run Try.prog w = .ok (.slice (some ⟨w.heap.size, 0, none⟩) 1 1) (w.alloc (.cells #[.string nn, .int .i64 7, .int .u32 0, .int .i64 2, .int .i64 0, .string rv] 46)) := by kernel_rfl
theorem wpList_bs {P : Program} {ops : Array Oper} {rest : List Oper} {o : Oper} {a : Act} {w w' : World} {Q : Exit → Act → World → Prop} (hgd : o.guard = none) (t : TypeId) (n : Nat) (parts : Array (Nat × Operand)) (ho : o.op = .buildSlice t n parts) (vals : Array (Nat × Value)) (v : Value) (hv : parts.map (fun (i, x) => (i, a.eval x)) = vals) (h : (Instr.buildSlice t n vals).run P w = .ok v w') (k : wpList P ops Q rest (a.put o.dst v) w') : wpList P ops Q (o :: rest) a w :=
  wpList_plain hgd fun _ hK => wp_run (exec_buildSlice ho hv h) (hK _ _ k)
theorem wpList_bd {P : Program} {ops : Array Oper} {rest : List Oper} {o : Oper} {a : Act} {w : World} {Q : Exit → Act → World → Prop} (hgd : o.guard = none) (t : TypeId) (parts : Array (Nat × Operand)) (ho : o.op = .build t parts) (vals : Array (Nat × Value)) (v : Value) (hv : parts.map (fun (i, x) => (i, a.eval x)) = vals) (h : (Instr.build t vals).run P w = .ok v w) (k : wpList P ops Q rest (a.put o.dst v) w) : wpList P ops Q (o :: rest) a w :=
  wpList_plain hgd fun _ hK => wp_run (exec_build ho hv h) (hK _ _ k)
theorem build_attrA (x : ByteArray) (w : World) : (Instr.build 46 #[(0, .string x)]).run Try.prog w = .ok (.agg #[.string x, .int .i64 0, .int .u32 0, .int .i64 0, .int .i64 0, .string ⟨#[]⟩]) w := by kernel_rfl
theorem bslice_attrA (x : ByteArray) (w : World) : (Instr.buildSlice 30 1 #[(0, .agg #[.string x, .int .i64 0, .int .u32 0, .int .i64 0, .int .i64 0, .string ⟨#[]⟩])]).run Try.prog w = .ok (.slice (some ⟨w.heap.size, 0, none⟩) 1 1) (w.alloc (.cells #[.string x, .int .i64 0, .int .u32 0, .int .i64 0, .int .i64 0, .string ⟨#[]⟩] 46)) := by kernel_rfl
theorem bslice_spn (a b c d e : Int) (x y z : ByteArray) (u : Value) (w : World) : (Instr.buildSlice 22 1 #[(0, .agg #[.int .i64 a, .int .i64 b, .int .i64 c, .string x, .string y, .int .i64 d, .int .i64 e, .string z, u])]).run Try.prog w = .ok (.slice (some ⟨w.heap.size, 0, none⟩) 1 1) (w.alloc (.cells #[.int .i64 a, .int .i64 b, .int .i64 c, .string x, .string y, .int .i64 d, .int .i64 e, .string z, u] 32)) := by kernel_rfl
theorem no_ok {a q : Int} {s : Spn} (h : ¬ OkS s) : ¬ OkB ⟨a, q, [s]⟩ := fun h' => h (h'.1.sp s (List.mem_singleton.2 rfl))
theorem LS.zero (w : World) : LS w none 0 0 [] := ⟨rfl, Nat.le_refl _, fun _ => rfl, fun i h => absurd h (by simp), by simp⟩
def zeroS : Spn := ⟨0, 0, 0, ⟨#[]⟩, ⟨#[]⟩, 0, 0, ⟨#[]⟩, []⟩
def sp17 : List Spn := chS :: List.replicate 16 zeroS
theorem no_17 : ¬ OkB ⟨1, 2, sp17⟩ := fun h => by
  have := h.1.n.2
  simp [sp17] at this
def atA : Att := ⟨⟨#[97]⟩, ⟨0, 0⟩, ⟨0, 0, ⟨#[]⟩⟩⟩
theorem AS.one {w : World} {q : Nat} {a : Att} {m : Nat × Nat} (h : w.heap[q]? = some (.cells a.cells.toArray 46 m)) (hp : a.lab.p < 4294967296) : AS w (some ⟨q, 0, none⟩) 1 1 [a] := by
  refine ⟨rfl, Nat.le_refl _, (by intro h; cases h), fun i hi => ⟨_, rfl, ?_⟩, ?_, by simp⟩
  · have hi6 : i < 6 := by simpa [acs_length] using hi
    rw [addr_add, Nat.zero_add, cell_of h i, List.getElem?_toArray]
    have e : acs [a] = a.cells := by simp [acs]
    rw [← e]
    exact List.getElem?_eq_getElem hi
  · intro x hx
    simp only [List.mem_singleton] at hx
    subst hx
    exact hp
theorem ls17 {w : World} {g c : Nat} {R : Array Value} (hn : w.heap[g]? = some (.cells ((spc sp17 (List.replicate 17 (Value.slice none 0 0))).toArray ++ R) 32 (0, 0))) (hc : 17 ≤ c) : LS w (some ⟨g, 0, none⟩) 17 c sp17 := by
  have hvs : (List.replicate 17 (Value.slice none 0 0)).length = sp17.length := rfl
  refine ⟨rfl, hc, (by intro h; cases h), fun i hi => ?_, by simp [sp17]⟩
  have hi17 : i < 17 := by simpa [sp17] using hi
  refine ⟨g, 0, none, 0, 0, rfl, fun j v hj => ?_, ?_⟩
  · have hj9 : j < 9 := (List.getElem?_eq_some_iff.1 hj).1
    refine (cell_of hn _).trans ?_
    have hl : (spc sp17 (List.replicate 17 (Value.slice none 0 0))).length = 153 := spc_length _ _ hvs
    rw [Array.getElem?_append_left (by rw [List.size_toArray, hl]; omega), List.getElem?_toArray, Nat.zero_add, show i * 9 + j = 9 * i + j by omega, spc_at _ _ hvs i hi (by simpa using hi17) j hj9, ← hj, List.getElem_replicate]
  · have ha : sp17[i].ats = [] := by
      cases i with
      | zero => rfl
      | succ k =>
        have : sp17[k + 1] = zeroS := List.getElem_replicate (n := 16) (a := zeroS) (by show k < _; rw [List.length_replicate]; omega)
        rw [this]; rfl
    exact Eq.mpr (congrArg (AS w none 0 0) ha) (AS.none0 w)
theorem z17 : (chS.cells (.slice none 0 0)).toArray ++ Builtin.zeroCells (Value.agg #[.int .i64 0, .int .i64 0, .int .i64 0, .string ⟨#[]⟩, .string ⟨#[]⟩, .int .i64 0, .int .i64 0, .string ⟨#[]⟩, .slice none 0 0]).cells 16 = (spc sp17 (List.replicate 17 (Value.slice none 0 0))).toArray := by kernel_rfl
theorem grow17 {W : World} {g : Nat} (h : BSp W g chS (.slice none 0 0)) : ∃ c w' R, (∀ ty, (Builtin.append_ #[22, 3] ty #[.slice (some ⟨g, 0, none⟩) 1 1, .int .i64 16]).run Try.prog W = .ok (.slice (some ⟨W.heap.size, 0, none⟩) 17 c) w') ∧ 17 ≤ c ∧ w'.heap[W.heap.size]? = some (.cells ((spc sp17 (List.replicate 17 (Value.slice none 0 0))).toArray ++ R) 32 (0, 0)) ∧ Below W.heap.size W w' := by
  obtain ⟨i5, hi5, hz5, hs5, hb5⟩ := info_parts infoSpn
  refine ⟨grownCap W 17 1 32, _, Builtin.zeroCells (Value.agg #[.int .i64 0, .int .i64 0, .int .i64 0, .string ⟨#[]⟩, .string ⟨#[]⟩, .int .i64 0, .int .i64 0, .string ⟨#[]⟩, .slice none 0 0]).cells (grownCap W (1 + 16) 1 32 - (1 + 16)), fun ty => Lib.run_append_grow_zeros (P := Try.prog) W 22 3 ty 32 i5 _ .i64 .i64 Try.underlying22 Try.underlying3 hi5 hz5 (some ⟨g, 0, none⟩) 1 1 (chS.cells (.slice none 0 0)) ?_ 16 (by omega) (by rw [hs5]; omega) (by omega) (by omega) (by rw [hb5]; omega) (by rw [hb5]; exact growslice_fits (need := 17) (old := 1) (bytes := 112) (by omega) (by omega)), grownCap_ge W _ _ _, ?_, (bel0 W).drew.alloc (Nat.le_refl _) _⟩
  · rw [hs5]
    refine run_firstCells_some _ 9 1 _ 1 1 _ rfl (fun j v hj => ?_)
    rw [addr_add, Nat.zero_add]
    have hd : BSp W.drew g chS (.slice none 0 0) := h
    rw [cell_of hd j, ← hj]
    exact List.getElem?_toArray ..
  · rw [z17]
    exact heap_alloc_new W.drew _
abbrev nmM (m : Nat) : ByteArray := ⟨#[97, 116, 116, 114, 105, 98, 117, 116, 101, 45, 110, 117, 109, 98, 101, 114, 45]⟩ ++ bs [m]
abbrev nmA (i : Nat) : ByteArray := nmM (97 + i)
def atF (i : Nat) : Att := ⟨nmA i, ⟨7, 0⟩, ⟨2, 0, repB 118 64⟩⟩
def atsF (k : Nat) : List Att := (List.range k).map atF
def fulS (k : Nat) : Spn := ⟨3, 4, 0, repB 115 24, ⟨#[98]⟩, 5, 9007199254740986, repB 115 64, atsF k⟩
theorem fulS_ok : OkS (fulS 8) := by decide +kernel
theorem fulS_pt (k : Nat) : ∀ a ∈ (fulS k).ats, a.lab.p < 4294967296 := fun a ha => by
  obtain ⟨i, _, rfl⟩ := List.mem_map.1 ha
  show 0 < _
  omega
theorem ful_yes : OkB ⟨16, 9007199254740991, List.replicate 9 (fulS 8)⟩ := ⟨⟨by decide, by decide, by decide, fun s hs => by rw [List.eq_of_mem_replicate hs]; exact fulS_ok⟩, by decide +kernel⟩
theorem ful_no : ¬ OkB ⟨16, 9007199254740991, List.replicate 12 (fulS 8)⟩ := fun h => absurd h.2 (by decide +kernel)
theorem many_yes : OkB ⟨1, 2, List.replicate 16 chS⟩ := ⟨⟨by decide, by decide, by decide, fun s hs => by rw [List.eq_of_mem_replicate hs]; exact chS_ok⟩, by decide +kernel⟩
theorem acs_snoc : ∀ (l : List Att) (a : Att), acs (l ++ [a]) = acs l ++ a.cells
  | [], a => by simp [acs]
  | b :: l, a => by
    show b.cells ++ acs (l ++ [a]) = (b.cells ++ acs l) ++ a.cells
    rw [acs_snoc l a, List.append_assoc]
theorem atsF_snoc (k : Nat) : atsF (k + 1) = atsF k ++ [atF k] := by simp [atsF, List.range_succ]
theorem blk_cell {w W : World} {p : Addr} {v : Value} (hb : Below w.heap.size w W) (h : w.cell? p = some v) : W.cell? p = some v := (hb.cell (World.block_lt_of_cell? w _ h)).trans h
structure FulA (w0 wr : World) (q q7 g k : Nat) (u : Value) : Prop where
  bw : Below w0.heap.size w0 wr
  b6 : wr.heap[q]? = some (.cells #[.int .i64 16, .int .i64 9007199254740991, .slice (some ⟨g, 0, none⟩) 1 1] 24 (0, 0))
  s7 : BSp wr q7 (fulS k) u
  o : wr.ownsRow (q7 + 1) 46 6 u k (acs (atsF k))
theorem FulA.below {w0 wr w' : World} {q q7 g k : Nat} {u : Value} (h : FulA w0 wr q q7 g k u) (hb : Below wr.heap.size wr w') : FulA w0 w' q q7 g k u := ⟨nx h.bw hb, blk_bel h.b6 hb, h.s7.below hb, ownsRow_below h.o hb⟩
theorem FulA.put {w0 wr w' : World} {q q7 g k : Nat} {u v : Value} (h : FulA w0 wr q q7 g k u) (hg : wr.grownBy w' u.ownBlock) (ho : w'.ownsRow (q7 + 1) 46 6 v (k + 1) (acs (atsF k) ++ (atF k).cells)) (hqq : q ≠ q7) (hq7 : w0.heap.size ≤ q7) :
    w'.cell? ⟨q7, 8, none⟩ = some u ∧ w'.frozen? ⟨q7, 8, none⟩ = false ∧ FulA w0 (w'.setCell ⟨q7, 8, none⟩ v) q q7 g (k + 1) v := by
  have h7 : w'.heap[q7]? = _ := (hg.block _ (Array.getElem?_eq_some_iff.1 h.s7).1 (fun e => own_ne2 h.o h.s7 (by decide) e.symm)).trans h.s7
  have h6 : w'.heap[q]? = _ := (hg.block _ (Array.getElem?_eq_some_iff.1 h.b6).1 (fun e => own_ne2 h.o h.b6 (by decide) e.symm)).trans h.b6
  have hb := h.bw.grown hg h.bw.size (fun j hj => by have := own_block h.o j hj; omega)
  refine ⟨cell_of h7 8, frozen_of h7 8, hb.setCell (p := ⟨q7, 8, none⟩) hq7 v, (Below.heap_setCell _ _ _ q hqq).trans h6, heap_set h7 8 v, ?_⟩
  rw [atsF_snoc, acs_snoc]
  exact ownsRow_setCell_other ho (a := ⟨q7, 8, none⟩) (own_ne2 ho h7 (by decide)) v
def FulS (w0 wr : World) (q q7 g k : Nat) : Prop := ∃ u, FulA w0 wr q q7 g k u
theorem byte_conv {m : Nat} (hk : m < 256) : Byt [m] := by
  intro x hx
  simp only [List.mem_singleton] at hx
  omega
/-- A batch whose spans are a row of one's own, beside a span. -/
structure FulC (w0 wr : World) (x0 x1 : Int) (q q7 : Nat) (s : Spn) (L : List Spn) (u v : Value) : Prop where
  bw : Below w0.heap.size w0 wr
  s7 : BSp wr q7 s u
  o : wr.ownsRow (q7 + 1) 46 6 u s.ats.length (acs s.ats)
  b6 : wr.heap[q]? = some (.cells #[.int .i64 x0, .int .i64 x1, v] 24 (0, 0))
  sp : SpOwn wr (q7 + 1) v L
theorem FulC.below {w0 wr w' : World} {x0 x1 : Int} {q q7 : Nat} {s : Spn} {L : List Spn} {u v : Value} (h : FulC w0 wr x0 x1 q q7 s L u v) (hb : Below wr.heap.size wr w') : FulC w0 w' x0 x1 q q7 s L u v := ⟨nx h.bw hb, h.s7.below hb, ownsRow_below h.o hb, blk_bel h.b6 hb, h.sp.below hb⟩
theorem SpOwn.setB {w : World} {base : Nat} {v : Value} {L : List Spn} (h : SpOwn w base v L) {q : Nat} {c : Array Value} {mk : Nat × Nat} (hq : w.heap[q]? = some (.cells c 24 mk)) (j : Nat) (x : Value) : SpOwn (w.setCell ⟨q, j, none⟩ x) base v L := by
  obtain ⟨vs, hv, h1, h2⟩ := h
  exact ⟨vs, hv, ownsRow_setCell_other h1 (a := ⟨q, j, none⟩) (own_ne2 h1 hq (by decide)) x, fun i hi => ownsRow_setCell_other (h2 i hi) (a := ⟨q, j, none⟩) (own_ne2 (h2 i hi) hq (by decide)) x⟩
theorem FulC.put {w0 wr w' : World} {x0 x1 : Int} {q q7 : Nat} {s : Spn} {L M : List Spn} {u v v' : Value} (h : FulC w0 wr x0 x1 q q7 s L u v) (ho : SpOwn w' (q7 + 1) v' M) (hg : wr.grownBy w' v.ownBlock) (hqq : q ≠ q7) (hq : w0.heap.size ≤ q) (hq7 : w0.heap.size ≤ q7) :
    w'.cell? ⟨q, 2, none⟩ = some v ∧ w'.frozen? ⟨q, 2, none⟩ = false ∧ FulC w0 (w'.setCell ⟨q, 2, none⟩ v') x0 x1 q q7 s M u v' := by
  obtain ⟨vs, hv, h1, h2⟩ := h.sp
  have h7 : w'.heap[q7]? = _ := (hg.block _ (Array.getElem?_eq_some_iff.1 h.s7).1 (fun e => by have := own_block h1 q7 e.symm; omega)).trans h.s7
  have h6 : w'.heap[q]? = _ := (hg.block _ (Array.getElem?_eq_some_iff.1 h.b6).1 (fun e => own_ne2 h1 h.b6 (by decide) e.symm)).trans h.b6
  have hb := h.bw.grown hg h.bw.size (fun j hj => by have := own_block h1 j hj; omega)
  have hu : w'.ownsRow (q7 + 1) 46 6 u s.ats.length (acs s.ats) := own_far h.o hg (fun k hk e => own_types h.o h1 (by decide) hk e)
  exact ⟨cell_of h6 2, frozen_of h6 2, hb.setCell (p := ⟨q, 2, none⟩) hq v', (Below.heap_setCell _ _ _ q7 (Ne.symm hqq)).trans h7, ownsRow_setCell_other hu (a := ⟨q, 2, none⟩) (own_ne2 hu h6 (by decide)) v', heap_set h6 2 v', ho.setB h6 2 v'⟩
theorem FulC.lsOf {w0 wr : World} {x0 x1 : Int} {q q7 k : Nat} {s : Spn} {u v : Value} (h : FulC w0 wr x0 x1 q q7 s (List.replicate k s) u v) (hp : ∀ a ∈ s.ats, a.lab.p < 4294967296) (hk : k ≤ 100) (hs : s.ats.length ≤ 8) : ∃ A c, v = .slice A k c ∧ LS wr A k c (List.replicate k s) := by
  obtain ⟨A, n, c, e, hL⟩ := h.sp.ls (fun x hx => by rw [List.eq_of_mem_replicate hx]; exact hp) (fun x hx => by rw [List.eq_of_mem_replicate hx]; omega) (by rw [List.length_replicate]; omega)
  have := hL.len
  rw [List.length_replicate] at this
  subst this
  exact ⟨A, c, e, hL⟩
theorem own_one {w : World} {base g : Nat} {s : Spn} {v : Value} (h : BSp w g s v) (hb : base ≤ g) : w.ownsRow base 32 9 (.slice (some ⟨g, 0, none⟩) 1 1) 1 (s.cells v) := by
  refine ⟨rfl, .inr ⟨g, 1, _, rfl, hb, h, by decide, by decide, rfl, rfl⟩⟩
theorem SpOwn.snoc {w w' : World} {base : Nat} {v v' u : Value} {k : Nat} {s : Spn} {vs : List Value} (h : SpOwn w base v (List.replicate (k + 1) s)) (hv : vs.length = (List.replicate (k + 1) s).length) (h1 : w.ownsRow base 32 9 v (k + 1) (spc (List.replicate (k + 1) s) vs)) (h2 : ∀ i (hi : i < (List.replicate (k + 1) s).length), w.ownsRow base 46 6 (vs[i]'(by omega)) (List.replicate (k + 1) s)[i].ats.length (acs (List.replicate (k + 1) s)[i].ats))
    (hu : w.ownsRow base 46 6 u s.ats.length (acs s.ats)) (hg : w.grownBy w' v.ownBlock) (ho : w'.ownsRow base 32 9 v' (k + 1 + 1) (spc (List.replicate (k + 1) s) vs ++ s.cells u)) : SpOwn w' base v' (List.replicate (k + 1 + 1) s) := by
  have hvl : vs.length = k + 1 := by rw [hv, List.length_replicate]
  have far : ∀ (y : Value) (n : Nat) (xs : List Value), w.ownsRow base 46 6 y n xs → w'.ownsRow base 46 6 y n xs := fun y n xs hy => own_far hy hg (fun k hk => own_types hy h1 (by decide) hk)
  refine ⟨vs ++ [u], by simp [hvl], ?_, fun i hi => ?_⟩
  · rw [List.length_replicate, rep_snoc (k + 1), spc_snoc _ _ _ _ hv]
    exact ho
  · rw [List.getElem_replicate]
    by_cases hi1 : i < k + 1
    · rw [List.getElem_append_left (by omega)]
      have := h2 i (by rw [List.length_replicate]; exact hi1)
      rw [List.getElem_replicate] at this
      exact far _ _ _ this
    · have hi2 : i = k + 1 := by rw [List.length_replicate] at hi; omega
      subst hi2
      have e : (vs ++ [u])[k + 1]'(by simp [hvl]) = u := by simp [← hvl]
      rw [e]
      exact far _ _ _ hu
structure Many (w0 wr : World) (q k : Nat) (v : Value) : Prop where
  bw : Below w0.heap.size w0 wr
  b6 : wr.heap[q]? = some (.cells #[.int .i64 1, .int .i64 2, v] 24 (0, 0))
  sp : SpOwn wr w0.heap.size v (List.replicate k chS)
theorem Many.below {w0 wr w' : World} {q k : Nat} {v : Value} (h : Many w0 wr q k v) (hb : Below wr.heap.size wr w') : Many w0 w' q k v := ⟨nx h.bw hb, blk_bel h.b6 hb, h.sp.below hb⟩
theorem SpOwn.one {w : World} {base g : Nat} {s : Spn} (h : BSp w g s (.slice none 0 0)) (hb : base ≤ g) (hs : s.ats = [] := by rfl) : SpOwn w base (.slice (some ⟨g, 0, none⟩) 1 1) (List.replicate (0 + 1) s) := by
  refine ⟨[.slice none 0 0], rfl, ?_, fun i hi => ?_⟩
  · have := own_one h hb
    simpa [spc] using this
  · have hi1 : i < 1 := by simpa using hi
    obtain rfl : i = 0 := by omega
    show w.ownsRow base 46 6 (.slice none 0 0) s.ats.length (acs s.ats)
    rw [hs]
    exact World.ownsRow_nil _ _ _ _
theorem Many.put {w0 wr w' : World} {q k : Nat} {v v' : Value} (h : Many w0 wr q k v) (ho : SpOwn w' w0.heap.size v' (List.replicate (k + 1) chS)) (hg : wr.grownBy w' v.ownBlock) (hq : w0.heap.size ≤ q) :
    w'.cell? ⟨q, 2, none⟩ = some v ∧ w'.frozen? ⟨q, 2, none⟩ = false ∧ Many w0 (w'.setCell ⟨q, 2, none⟩ v') q (k + 1) v' := by
  obtain ⟨vs, hv, h1, h2⟩ := h.sp
  have h6 : w'.heap[q]? = _ := (hg.block _ (Array.getElem?_eq_some_iff.1 h.b6).1 (fun e => own_ne2 h1 h.b6 (by decide) e.symm)).trans h.b6
  have hb := h.bw.grown hg h.bw.size (fun j hj => own_block h1 j hj)
  exact ⟨cell_of h6 2, frozen_of h6 2, hb.setCell (p := ⟨q, 2, none⟩) hq v', heap_set h6 2 v', ho.setB h6 2 v'⟩
theorem Many.lsOf {w0 wr : World} {q k : Nat} {v : Value} (h : Many w0 wr q k v) (hk : k ≤ 100) : ∃ A c, v = .slice A k c ∧ LS wr A k c (List.replicate k chS) := by
  obtain ⟨A, n, c, e, hL⟩ := h.sp.ls (fun x hx => by rw [List.eq_of_mem_replicate hx]; intro a ha; cases ha) (fun x hx => by rw [List.eq_of_mem_replicate hx]; decide) (by rw [List.length_replicate]; omega)
  have := hL.len
  rw [List.length_replicate] at this
  subst this
  exact ⟨A, c, e, hL⟩
theorem SpOwn.elem0 {w : World} {base k : Nat} {s : Spn} {v : Value} (h : SpOwn w base v (List.replicate (k + 1) s)) : ∃ g c u, v = .slice (some ⟨g, 0, none⟩) (k + 1) c ∧ (∀ j x, (s.cells u)[j]? = some x → w.cell? ⟨g, j, none⟩ = some x) ∧ w.ownsRow base 46 6 u s.ats.length (acs s.ats) := by
  obtain ⟨vs, hv, h1, h2⟩ := h
  obtain ⟨A, c, e, hle, _, hn, hlies, hA⟩ := ownsRow_lies h1
  have h20 := h2 0 (by rw [List.length_replicate]; omega)
  rw [List.getElem_replicate] at h20
  rcases h1.2 with ⟨e2, h0⟩ | ⟨g, cap, cur, e2, hb, hg, _⟩
  · rw [List.length_replicate] at h0; omega
  · rw [e2] at e
    injection e with e3 e4 e5
    refine ⟨g, cap, _, by rw [e2, List.length_replicate], fun j x hj => ?_, h20⟩
    have hj9 : j < 9 := (List.getElem?_eq_some_iff.1 hj).1
    have hln := spc_length _ _ hv
    rw [List.length_replicate] at hln
    obtain ⟨ad, hA2, hc⟩ := hlies j (by rw [hln]; omega)
    rw [← e3] at hA2
    cases hA2
    rw [addr_add, Nat.zero_add] at hc
    have hs := spc_at _ _ hv 0 (by rw [List.length_replicate]; omega) (by rw [hv, List.length_replicate]; omega) j hj9
    rw [List.getElem_replicate, hj, Nat.mul_zero, Nat.zero_add] at hs
    rw [hc, ← hs]
    exact (List.getElem?_eq_getElem _).symm
end Go.Proofs.Ytbhfbpaaghpadaa
