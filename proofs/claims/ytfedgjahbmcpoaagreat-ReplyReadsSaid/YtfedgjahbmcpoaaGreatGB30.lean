/- reply's reader: one span off it. No conditions. -/
import Derived.Test.YtfedgjahbmcpoaaGreatGB29
import Derived.Deep.DeepCutAuto
import Derived.Deep.MidRow
set_option linter.unusedSimpArgs false
set_option linter.unusedVariables false
namespace Go.Proofs.YtfedgjahbmcpoaaGreat
open Go.RowKit

/-- Where the reading of a span stands: the reader, the span's block, the block of 'loose'. -/
structure SeP (w0 w : World) (lo g q1 q2 q3 : Nat) (e : Int) (l : List Nat) (cs : Array Value) (m : Int) : Prop where
  gr : w0.grownBy w (some g)
  rd : Rdr w lo g e l
  b1 : w.heap[q1]? = some (.cells #[.pointer (some ⟨g, 0, none⟩)] 43 (0, 0))
  b2 : w.heap[q2]? = some (.cells cs 50 (0, 0))
  b3 : w.heap[q3]? = some (.cells #[.int .i64 m] 3 (0, 0))
  g1 : g < q1
  n12 : q1 < q2
  n23 : q2 < q3
  o1 : w0.heap.size ≤ q1
theorem SeP.read {w0 w w' : World} {lo g q1 q2 q3 : Nat} {e e' : Int} {l l' : List Nat} {cs : Array Value} {m : Int} (h : SeP w0 w lo g q1 q2 q3 e l cs m) (hr : Rdr w' lo g e' l') (hg : w.grownBy w' (some g)) : SeP w0 w' lo g q1 q2 q3 e' l' cs m := by
  have h1 := h.g1; have h2 := h.n12; have h3 := h.n23
  exact ⟨h.gr.trans hg, hr, gblk h.b1 hg (by omega), gblk h.b2 hg (by omega), gblk h.b3 hg (by omega), h1, h2, h3, h.o1⟩
theorem SeP.below {w0 w w' : World} {lo g q1 q2 q3 : Nat} {e : Int} {l : List Nat} {cs : Array Value} {m : Int} (h : SeP w0 w lo g q1 q2 q3 e l cs m) (hb : Below w.heap.size w w') : SeP w0 w' lo g q1 q2 q3 e l cs m :=
  h.read (h.rd.below hb) (grown_of_below hb _)
theorem SeP.set2 {w0 w : World} {lo g q1 q2 q3 : Nat} {e : Int} {l : List Nat} {cs : Array Value} {m : Int} (h : SeP w0 w lo g q1 q2 q3 e l cs m) (j : Nat) (v : Value) : SeP w0 (w.setCell ⟨q2, j, none⟩ v) lo g q1 q2 q3 e l (cs.setIfInBounds j v) m := by
  have h1 := h.g1; have h2 := h.n12; have h3 := h.n23; have h4 := h.o1
  exact ⟨gset h.gr (by omega), rset h.rd (by omega) j v, (Below.heap_setCell w ⟨q2, j, none⟩ v q1 (by show q1 ≠ q2; omega)).trans h.b1, heap_set h.b2 j v, (Below.heap_setCell w ⟨q2, j, none⟩ v q3 (by show q3 ≠ q2; omega)).trans h.b3, h1, h2, h3, h4⟩
theorem SeP.set3 {w0 w : World} {lo g q1 q2 q3 : Nat} {e : Int} {l : List Nat} {cs : Array Value} {m : Int} (h : SeP w0 w lo g q1 q2 q3 e l cs m) (n : Int) : SeP w0 (w.setCell ⟨q3, 0, none⟩ (.int .i64 n)) lo g q1 q2 q3 e l cs n := by
  have h1 := h.g1; have h2 := h.n12; have h3 := h.n23; have h4 := h.o1
  exact ⟨gset h.gr (by omega), rset h.rd (by omega) 0 _, (Below.heap_setCell w ⟨q3, 0, none⟩ _ q1 (by show q1 ≠ q3; omega)).trans h.b1, (Below.heap_setCell w ⟨q3, 0, none⟩ _ q2 (by show q2 ≠ q3; omega)).trans h.b2, heap_set h.b3 0 _, h1, h2, h3, h4⟩
/-- A row of stores into one block. -/
def setsC (w : World) (q : Nat) (l : List (Nat × Value)) : World := l.foldl (fun w p => w.setCell ⟨q, p.1, none⟩ p.2) w
theorem SeP.sets {w0 : World} {lo g q1 q2 q3 : Nat} {e : Int} {l : List Nat} {m : Int} : ∀ (ps : List (Nat × Value)) {w : World} {cs : Array Value}, SeP w0 w lo g q1 q2 q3 e l cs m → SeP w0 (setsC w q2 ps) lo g q1 q2 q3 e l (ps.foldl (fun c p => c.setIfInBounds p.1 p.2) cs) m
  | [], _, _, h => h
  | p :: ps, _, _, h => SeP.sets ps (h.set2 p.1 p.2)
theorem sets_other (q k : Nat) (hk : k ≠ q) : ∀ (ps : List (Nat × Value)) (w : World), (setsC w q ps).heap[k]? = w.heap[k]?
  | [], _ => rfl
  | p :: ps, w => (sets_other q k hk ps _).trans (Below.heap_setCell w ⟨q, p.1, none⟩ p.2 k hk)
theorem own_sets {w : World} {base : Nat} {t0 : TypeId} {sz : Nat} {v : Value} {n : Nat} {xs : List Value} {q : Nat} {c : Array Value} {t : TypeId} {mk : Nat × Nat} (h : w.ownsRow base t0 sz v n xs) (hq : w.heap[q]? = some (.cells c t mk)) (ht : t ≠ t0) (ps : List (Nat × Value)) : (setsC w q ps).ownsRow base t0 sz v n xs :=
  own_keep h (fun k c' mk' _ hk hc => (sets_other q k (fun e => own_ne2 h hq ht (by rw [← e]; exact hk)) ps w).trans hc)
def rowSet (cs : Array Value) : Nat → List Value → Array Value
  | _, [] => cs
  | o, v :: r => rowSet (cs.setIfInBounds o v) (o + 1) r
theorem SeP.row {w0 : World} {lo g q1 q2 q3 : Nat} {e : Int} {l : List Nat} {m : Int} : ∀ (vs : List Value) (o : Nat) {w : World} {cs : Array Value}, SeP w0 w lo g q1 q2 q3 e l cs m → SeP w0 (w.setCells q2 o vs) lo g q1 q2 q3 e l (rowSet cs o vs) m
  | [], _, _, _, h => h
  | v :: r, o, _, _, h => SeP.row r (o + 1) (h.set2 o v)
theorem row_other (q k : Nat) (hk : k ≠ q) : ∀ (vs : List Value) (o : Nat) (w : World), (w.setCells q o vs).heap[k]? = w.heap[k]?
  | [], _, _ => rfl
  | v :: r, o, w => (row_other q k hk r (o + 1) _).trans (Below.heap_setCell w ⟨q, o, none⟩ v k hk)
theorem own_row {w : World} {base : Nat} {t0 : TypeId} {sz : Nat} {v : Value} {n : Nat} {xs : List Value} {q : Nat} {c : Array Value} {t : TypeId} {mk : Nat × Nat} (h : w.ownsRow base t0 sz v n xs) (hq : w.heap[q]? = some (.cells c t mk)) (ht : t ≠ t0) (vs : List Value) (o : Nat) : (w.setCells q o vs).ownsRow base t0 sz v n xs :=
  own_keep h (fun k c' mk' _ hk hc => (row_other q k (fun e => own_ne2 h hq ht (by rw [← e]; exact hk)) vs o w).trans hc)
theorem there_of {w : World} {q n : Nat} {c : Array Value} {t : TypeId} (h : w.heap[q]? = some (.cells c t (0, 0))) (hn : c.size = n) : w.there q 0 n := by
  intro j hj
  refine ⟨?_, frozen_of h _⟩
  rw [cell_of h]
  simp
  omega
theorem range_of {w : World} {q : Nat} {cs : List Value} {t : TypeId} {mk : Nat × Nat} (h : w.heap[q]? = some (.cells cs.toArray t mk)) : w.rangeAt q 0 cs := fun j v hv => by
  rw [Nat.zero_add, cell_of h j, List.getElem?_toArray]
  exact hv
theorem self_copy {ops : Array Oper} {rest : List Oper} {o1 o2 : Oper} {a : Act} {w : World} {Q : Exit → Act → World → Prop} (g1 : o1.guard = none) (g2 : o2.guard = none) (ty : TypeId) (x y : Operand) (ho1 : o1.op = .load ty x) (ho2 : o2.op = .store ty x y)
    (b : Nat) (hx : a.eval x = .pointer (some ⟨b, 0, none⟩)) (cs : List Value) (d : TypeDesc) (hc : w.rangeAt b 0 cs) (hu : Tryz.prog.underlying ty = some d) (hd : d.isRow = true) (hi : (Tryz.prog.info? ty).map (·.size) = some cs.length) (ht : w.there b 0 cs.length) (h1 : ∀ v ∈ cs, v.oneCell' = true)
    (hx2 : (a.put o1.dst (.agg cs.toArray)).eval x = .pointer (some ⟨b, 0, none⟩)) (hy : (a.put o1.dst (.agg cs.toArray)).eval y = .agg cs.toArray)
    (h : wpList Tryz.prog ops Q rest ((a.put o1.dst (.agg cs.toArray)).put o2.dst undef) (w.setCells b 0 cs)) : wpList Tryz.prog ops Q (o1 :: o2 :: rest) a w :=
  wpList_load_mid g1 ty x ho1 b 0 hx cs d hc hu hd hi (wpList_store_mid g2 ty x y ho2 b 0 cs.toArray hx2 hy (by simpa using ht) (by simpa using hi) (all_oneCell_toArray h1) (by simpa using h))
theorem infoSnS : (Tryz.prog.info? 50).map (·.size) = some 11 := by kernel_rfl
/-- A span that was read: its attributes lie in memory of one's own. -/
def SnRd (w w' : World) (r : Ending) (lo g : Nat) (x : Sen × Int × List Nat) : Prop :=
  ∃ va, r = .returned (x.1.v va) ∧ w'.ownsRow w.heap.size 101 6 va x.1.sp.ats.length (acs x.1.sp.ats) ∧ Rdr w' lo g x.2.1 x.2.2 ∧ w.grownBy w' (some g)
set_option maxHeartbeats 32000000 in
set_option maxRecDepth 100000 in
theorem rdseen_any {lo g : Nat} {e : Int} {l : List Nat} {w : World} (h : Rdr w lo g e l) :
    Calls Tryz.prog 21 #[.agg #[.pointer (some ⟨g, 0, none⟩)]] w fun r w' => SnRd w w' r lo g (tkSn e l) := by
  obtain ⟨u1, hu1⟩ : ∃ x, x = nb 9007199254740991 e l := ⟨_, rfl⟩
  obtain ⟨u2, hu2⟩ : ∃ x, x = nb 9007199254740991 u1.2.1 u1.2.2 := ⟨_, rfl⟩
  obtain ⟨u3, hu3⟩ : ∃ x, x = nb 9007199254740991 u2.2.1 u2.2.2 := ⟨_, rfl⟩
  obtain ⟨u4, hu4⟩ : ∃ x, x = nb 9007199254740991 u3.2.1 u3.2.2 := ⟨_, rfl⟩
  obtain ⟨u5, hu5⟩ : ∃ x, x = nb 9007199254740991 u4.2.1 u4.2.2 := ⟨_, rfl⟩
  obtain ⟨u6, hu6⟩ : ∃ x, x = nb 9007199254740991 u5.2.1 u5.2.2 := ⟨_, rfl⟩
  obtain ⟨u7, hu7⟩ : ∃ x, x = nb 9007199254740991 u6.2.1 u6.2.2 := ⟨_, rfl⟩
  obtain ⟨e1, he1⟩ : ∃ x, x = (if 1 < u2.1 then failE u7.2.1 270 else u7.2.1) := ⟨_, rfl⟩
  obtain ⟨v, hv⟩ : ∃ x, x = txt 24 e1 u7.2.2 := ⟨_, rfl⟩
  obtain ⟨o, ho⟩ : ∃ x, x = txt 24 v.2.1 v.2.2 := ⟨_, rfl⟩
  obtain ⟨a, ha⟩ : ∃ x, x = tkAs o.2.1 o.2.2 := ⟨_, rfl⟩
  have HX := Lib.hid (show tkSn e l = (⟨⟨(u3.1 : Int), (u4.1 : Int), (u5.1 : Int), bs v.1, bs o.1, (u6.1 : Int), (u7.1 : Int), ⟨#[]⟩, a.1⟩, (u1.1 : Int), decide ((u2.1 : Int) = 1)⟩, a.2) by
    have hu : tkU 7 e l = ([u1.1, u2.1, u3.1, u4.1, u5.1, u6.1, u7.1], u7.2) := by simp only [tkU, ← hu1, ← hu2, ← hu3, ← hu4, ← hu5, ← hu6, ← hu7]
    unfold tkSn
    simp only [hu]
    rw [show [u1.1, u2.1, u3.1, u4.1, u5.1, u6.1, u7.1].getD 1 0 = u2.1 from rfl, ← he1]
    simp only [← hv, ← ho, ← ha]
    rfl)
  have c1 : u1.1 ≤ 9007199254740991 := by rw [hu1]; exact nb_le _ _ _
  have c2 : u2.1 ≤ 9007199254740991 := by rw [hu2]; exact nb_le _ _ _
  have c3 : u3.1 ≤ 9007199254740991 := by rw [hu3]; exact nb_le _ _ _
  have c4 : u4.1 ≤ 9007199254740991 := by rw [hu4]; exact nb_le _ _ _
  have c5 : u5.1 ≤ 9007199254740991 := by rw [hu5]; exact nb_le _ _ _
  have c6 : u6.1 ≤ 9007199254740991 := by rw [hu6]; exact nb_le _ _ _
  have c7 : u7.1 ≤ 9007199254740991 := by rw [hu7]; exact nb_le _ _ _
  have Hu1 := Lib.hid hu1
  have Hu2 := Lib.hid hu2
  have Hu3 := Lib.hid hu3
  have Hu4 := Lib.hid hu4
  have Hu5 := Lib.hid hu5
  have Hu6 := Lib.hid hu6
  have Hu7 := Lib.hid hu7
  have He1 := Lib.hid he1
  have Hv := Lib.hid hv
  have Ho := Lib.hid ho
  have Ha := Lib.hid ha
  clear hu1 hu2 hu3 hu4 hu5 hu6 hu7 he1 hv ho ha
  have hgw := h.lt.2
  have hz1 : (w.alloc (.cells #[.pointer (some ⟨g, 0, none⟩)] 43)).heap.size = w.heap.size + 1 := World.size_alloc ..
  have hz2 : ((w.alloc (.cells #[.pointer (some ⟨g, 0, none⟩)] 43)).alloc (.cells #[.int .i64 0, .int .i64 0, .int .i64 0, .string ⟨#[]⟩, .string ⟨#[]⟩, .int .i64 0, .int .i64 0, .string ⟨#[]⟩, .slice none 0 0, .int .i64 0, .bool false] 50)).heap.size = w.heap.size + 2 := by rw [World.size_alloc, hz1]
  have hb1 := nx (nx (bel1 w (.cells #[.pointer (some ⟨g, 0, none⟩)] 43)) (bel1 (w.alloc (.cells #[.pointer (some ⟨g, 0, none⟩)] 43)) (.cells #[.int .i64 0, .int .i64 0, .int .i64 0, .string ⟨#[]⟩, .string ⟨#[]⟩, .int .i64 0, .int .i64 0, .string ⟨#[]⟩, .slice none 0 0, .int .i64 0, .bool false] 50))) (bel1 ((w.alloc (.cells #[.pointer (some ⟨g, 0, none⟩)] 43)).alloc (.cells #[.int .i64 0, .int .i64 0, .int .i64 0, .string ⟨#[]⟩, .string ⟨#[]⟩, .int .i64 0, .int .i64 0, .string ⟨#[]⟩, .slice none 0 0, .int .i64 0, .bool false] 50)) (.cells #[.int .i64 0] 3))
  have hB1 := blkB (blkB (heap_alloc_new w (.cells #[.pointer (some ⟨g, 0, none⟩)] 43)) (bel1 _ (.cells #[.int .i64 0, .int .i64 0, .int .i64 0, .string ⟨#[]⟩, .string ⟨#[]⟩, .int .i64 0, .int .i64 0, .string ⟨#[]⟩, .slice none 0 0, .int .i64 0, .bool false] 50))) (bel1 _ (.cells #[.int .i64 0] 3))
  have hB2 := blkB (heap_alloc_new (w.alloc (.cells #[.pointer (some ⟨g, 0, none⟩)] 43)) (.cells #[.int .i64 0, .int .i64 0, .int .i64 0, .string ⟨#[]⟩, .string ⟨#[]⟩, .int .i64 0, .int .i64 0, .string ⟨#[]⟩, .slice none 0 0, .int .i64 0, .bool false] 50)) (bel1 _ (.cells #[.int .i64 0] 3))
  rw [hz1] at hB2
  have hB3 := heap_alloc_new ((w.alloc (.cells #[.pointer (some ⟨g, 0, none⟩)] 43)).alloc (.cells #[.int .i64 0, .int .i64 0, .int .i64 0, .string ⟨#[]⟩, .string ⟨#[]⟩, .int .i64 0, .int .i64 0, .string ⟨#[]⟩, .slice none 0 0, .int .i64 0, .bool false] 50)) (.cells #[.int .i64 0] 3)
  rw [hz2] at hB3
  have HP0 := Lib.hid (show SeP w (((w.alloc (.cells #[.pointer (some ⟨g, 0, none⟩)] 43)).alloc (.cells #[.int .i64 0, .int .i64 0, .int .i64 0, .string ⟨#[]⟩, .string ⟨#[]⟩, .int .i64 0, .int .i64 0, .string ⟨#[]⟩, .slice none 0 0, .int .i64 0, .bool false] 50)).alloc (.cells #[.int .i64 0] 3)) lo g w.heap.size (w.heap.size + 1) (w.heap.size + 2) e l #[.int .i64 0, .int .i64 0, .int .i64 0, .string ⟨#[]⟩, .string ⟨#[]⟩, .int .i64 0, .int .i64 0, .string ⟨#[]⟩, .slice none 0 0, .int .i64 0, .bool false] 0 from
    ⟨grown_of_below hb1 _, h.below hb1, hB1, hB2, hB3, hgw, by omega, by omega, Nat.le_refl _⟩)
  clear h hz1 hz2 hb1 hB1 hB2 hB3 hgw
  go_enter Tryz.func21, Tryz.ntmps21
  go_wp2_with fail
  obtain ⟨W0, hW⟩ : ∃ W, W = ((w.alloc (.cells #[.pointer (some ⟨g, 0, none⟩)] 43)).alloc (.cells #[.int .i64 0, .int .i64 0, .int .i64 0, .string ⟨#[]⟩, .string ⟨#[]⟩, .int .i64 0, .int .i64 0, .string ⟨#[]⟩, .slice none 0 0, .int .i64 0, .bool false] 50)).alloc (.cells #[.int .i64 0] 3) := ⟨_, rfl⟩
  rw [← hW] at HP0 ⊢
  clear hW
  obtain ⟨q3, hqq⟩ : ∃ q, q = w.heap.size + 2 := ⟨_, rfl⟩
  rw [show w.heap.size + 1 + 1 = w.heap.size + 2 from rfl, ← hqq]
  rw [← hqq] at HP0
  clear hqq
  obtain ⟨q2, hqq⟩ : ∃ q, q = w.heap.size + 1 := ⟨_, rfl⟩
  rw [← hqq] at HP0 ⊢
  clear hqq
  obtain ⟨q1, hqq⟩ : ∃ q, q = w.heap.size := ⟨_, rfl⟩
  have HQ1 := Lib.hid hqq
  rw [← hqq] at HP0 ⊢
  clear hqq
  go_quiet (fail)
  try (go_wp2_with fail)
  have i0 : ∀ W, (Instr.index 112 (.agg #[.pointer (some ⟨q2, 9, none⟩), .pointer (some ⟨q3, 0, none⟩), .pointer (some ⟨q2, 0, none⟩), .pointer (some ⟨q2, 1, none⟩), .pointer (some ⟨q2, 2, none⟩), .pointer (some ⟨q2, 5, none⟩), .pointer (some ⟨q2, 6, none⟩)]) (.int .i64 0)).run Tryz.prog W = .ok (.pointer (some ⟨q2, 9, none⟩)) W := fun _ => by kernel_rfl
  have i1 : ∀ W, (Instr.index 112 (.agg #[.pointer (some ⟨q2, 9, none⟩), .pointer (some ⟨q3, 0, none⟩), .pointer (some ⟨q2, 0, none⟩), .pointer (some ⟨q2, 1, none⟩), .pointer (some ⟨q2, 2, none⟩), .pointer (some ⟨q2, 5, none⟩), .pointer (some ⟨q2, 6, none⟩)]) (.int .i64 1)).run Tryz.prog W = .ok (.pointer (some ⟨q3, 0, none⟩)) W := fun _ => by kernel_rfl
  have i2 : ∀ W, (Instr.index 112 (.agg #[.pointer (some ⟨q2, 9, none⟩), .pointer (some ⟨q3, 0, none⟩), .pointer (some ⟨q2, 0, none⟩), .pointer (some ⟨q2, 1, none⟩), .pointer (some ⟨q2, 2, none⟩), .pointer (some ⟨q2, 5, none⟩), .pointer (some ⟨q2, 6, none⟩)]) (.int .i64 2)).run Tryz.prog W = .ok (.pointer (some ⟨q2, 0, none⟩)) W := fun _ => by kernel_rfl
  have i3 : ∀ W, (Instr.index 112 (.agg #[.pointer (some ⟨q2, 9, none⟩), .pointer (some ⟨q3, 0, none⟩), .pointer (some ⟨q2, 0, none⟩), .pointer (some ⟨q2, 1, none⟩), .pointer (some ⟨q2, 2, none⟩), .pointer (some ⟨q2, 5, none⟩), .pointer (some ⟨q2, 6, none⟩)]) (.int .i64 3)).run Tryz.prog W = .ok (.pointer (some ⟨q2, 1, none⟩)) W := fun _ => by kernel_rfl
  have i4 : ∀ W, (Instr.index 112 (.agg #[.pointer (some ⟨q2, 9, none⟩), .pointer (some ⟨q3, 0, none⟩), .pointer (some ⟨q2, 0, none⟩), .pointer (some ⟨q2, 1, none⟩), .pointer (some ⟨q2, 2, none⟩), .pointer (some ⟨q2, 5, none⟩), .pointer (some ⟨q2, 6, none⟩)]) (.int .i64 4)).run Tryz.prog W = .ok (.pointer (some ⟨q2, 2, none⟩)) W := fun _ => by kernel_rfl
  have i5 : ∀ W, (Instr.index 112 (.agg #[.pointer (some ⟨q2, 9, none⟩), .pointer (some ⟨q3, 0, none⟩), .pointer (some ⟨q2, 0, none⟩), .pointer (some ⟨q2, 1, none⟩), .pointer (some ⟨q2, 2, none⟩), .pointer (some ⟨q2, 5, none⟩), .pointer (some ⟨q2, 6, none⟩)]) (.int .i64 5)).run Tryz.prog W = .ok (.pointer (some ⟨q2, 5, none⟩)) W := fun _ => by kernel_rfl
  have i6 : ∀ W, (Instr.index 112 (.agg #[.pointer (some ⟨q2, 9, none⟩), .pointer (some ⟨q3, 0, none⟩), .pointer (some ⟨q2, 0, none⟩), .pointer (some ⟨q2, 1, none⟩), .pointer (some ⟨q2, 2, none⟩), .pointer (some ⟨q2, 5, none⟩), .pointer (some ⟨q2, 6, none⟩)]) (.int .i64 6)).run Tryz.prog W = .ok (.pointer (some ⟨q2, 6, none⟩)) W := fun _ => by kernel_rfl
  refine wp_loop_rounds 8 ?_
  obtain ⟨W1, hW1⟩ : ∃ W, W = W0.drewN nq := ⟨_, rfl⟩
  have HQ0 := Lib.hid (show SeP w W1 lo g q1 q2 q3 e l #[.int .i64 0, .int .i64 0, .int .i64 0, .string ⟨#[]⟩, .string ⟨#[]⟩, .int .i64 0, .int .i64 0, .string ⟨#[]⟩, .slice none 0 0, .int .i64 0, .bool false] 0 by rw [hW1]; exact HP0.out.below (below_drewN (bel0 W0) nq))
  rw [← hW1]
  clear hW1 HP0
  rw [rounds_succ]
  have k1 := cell_of HQ0.out.b1 0
  simp at k1
  go_wp2_with fail
  refine (rdU_any HQ0.out.rd).mono ?_
  rw [← Hu1.out]
  rintro r s1 ⟨rfl, hr, hg⟩
  have HR1 := Lib.hid (HQ0.out.read hr hg)
  clear hr hg HQ0 k1
  have z := cell_of HR1.out.b2 9
  have f := frozen_of HR1.out.b2 9
  simp at z
  have HQ1 := Lib.hid (show SeP w (s1.setCell ⟨q2, 9, none⟩ (.int .i64 (u1.1 : Int))) lo g q1 q2 q3 u1.2.1 u1.2.2 #[.int .i64 0, .int .i64 0, .int .i64 0, .string ⟨#[]⟩, .string ⟨#[]⟩, .int .i64 0, .int .i64 0, .string ⟨#[]⟩, .slice none 0 0, .int .i64 (u1.1 : Int), .bool false] 0 from HR1.out.set2 9 (.int .i64 (u1.1 : Int)))
  go_wp2_with fail
  obtain ⟨t1, hu⟩ : ∃ W, W = s1.setCell ⟨q2, 9, none⟩ (.int .i64 (u1.1 : Int)) := ⟨_, rfl⟩
  rw [← hu] at HQ1 ⊢
  clear hu HR1 z f i0
  rw [rounds_succ]
  have k1 := cell_of HQ1.out.b1 0
  simp at k1
  go_wp2_with fail
  refine (rdU_any HQ1.out.rd).mono ?_
  rw [← Hu2.out]
  rintro r s2 ⟨rfl, hr, hg⟩
  have HR2 := Lib.hid (HQ1.out.read hr hg)
  clear hr hg HQ1 k1
  have z := cell_of HR2.out.b3 0
  have f := frozen_of HR2.out.b3 0
  simp at z
  have HQ2 := Lib.hid (show SeP w (s2.setCell ⟨q3, 0, none⟩ (.int .i64 (u2.1 : Int))) lo g q1 q2 q3 u2.2.1 u2.2.2 #[.int .i64 0, .int .i64 0, .int .i64 0, .string ⟨#[]⟩, .string ⟨#[]⟩, .int .i64 0, .int .i64 0, .string ⟨#[]⟩, .slice none 0 0, .int .i64 (u1.1 : Int), .bool false] (u2.1 : Int) from HR2.out.set3 (u2.1 : Int))
  go_wp2_with fail
  obtain ⟨t2, hu⟩ : ∃ W, W = s2.setCell ⟨q3, 0, none⟩ (.int .i64 (u2.1 : Int)) := ⟨_, rfl⟩
  rw [← hu] at HQ2 ⊢
  clear hu HR2 z f i1
  rw [rounds_succ]
  have k1 := cell_of HQ2.out.b1 0
  simp at k1
  go_wp2_with fail
  refine (rdU_any HQ2.out.rd).mono ?_
  rw [← Hu3.out]
  rintro r s3 ⟨rfl, hr, hg⟩
  have HR3 := Lib.hid (HQ2.out.read hr hg)
  clear hr hg HQ2 k1
  have z := cell_of HR3.out.b2 0
  have f := frozen_of HR3.out.b2 0
  simp at z
  have HQ3 := Lib.hid (show SeP w (s3.setCell ⟨q2, 0, none⟩ (.int .i64 (u3.1 : Int))) lo g q1 q2 q3 u3.2.1 u3.2.2 #[.int .i64 (u3.1 : Int), .int .i64 0, .int .i64 0, .string ⟨#[]⟩, .string ⟨#[]⟩, .int .i64 0, .int .i64 0, .string ⟨#[]⟩, .slice none 0 0, .int .i64 (u1.1 : Int), .bool false] (u2.1 : Int) from HR3.out.set2 0 (.int .i64 (u3.1 : Int)))
  go_wp2_with fail
  obtain ⟨t3, hu⟩ : ∃ W, W = s3.setCell ⟨q2, 0, none⟩ (.int .i64 (u3.1 : Int)) := ⟨_, rfl⟩
  rw [← hu] at HQ3 ⊢
  clear hu HR3 z f i2
  rw [rounds_succ]
  have k1 := cell_of HQ3.out.b1 0
  simp at k1
  go_wp2_with fail
  refine (rdU_any HQ3.out.rd).mono ?_
  rw [← Hu4.out]
  rintro r s4 ⟨rfl, hr, hg⟩
  have HR4 := Lib.hid (HQ3.out.read hr hg)
  clear hr hg HQ3 k1
  have z := cell_of HR4.out.b2 1
  have f := frozen_of HR4.out.b2 1
  simp at z
  have HQ4 := Lib.hid (show SeP w (s4.setCell ⟨q2, 1, none⟩ (.int .i64 (u4.1 : Int))) lo g q1 q2 q3 u4.2.1 u4.2.2 #[.int .i64 (u3.1 : Int), .int .i64 (u4.1 : Int), .int .i64 0, .string ⟨#[]⟩, .string ⟨#[]⟩, .int .i64 0, .int .i64 0, .string ⟨#[]⟩, .slice none 0 0, .int .i64 (u1.1 : Int), .bool false] (u2.1 : Int) from HR4.out.set2 1 (.int .i64 (u4.1 : Int)))
  go_wp2_with fail
  obtain ⟨t4, hu⟩ : ∃ W, W = s4.setCell ⟨q2, 1, none⟩ (.int .i64 (u4.1 : Int)) := ⟨_, rfl⟩
  rw [← hu] at HQ4 ⊢
  clear hu HR4 z f i3
  rw [rounds_succ]
  have k1 := cell_of HQ4.out.b1 0
  simp at k1
  go_wp2_with fail
  refine (rdU_any HQ4.out.rd).mono ?_
  rw [← Hu5.out]
  rintro r s5 ⟨rfl, hr, hg⟩
  have HR5 := Lib.hid (HQ4.out.read hr hg)
  clear hr hg HQ4 k1
  have z := cell_of HR5.out.b2 2
  have f := frozen_of HR5.out.b2 2
  simp at z
  have HQ5 := Lib.hid (show SeP w (s5.setCell ⟨q2, 2, none⟩ (.int .i64 (u5.1 : Int))) lo g q1 q2 q3 u5.2.1 u5.2.2 #[.int .i64 (u3.1 : Int), .int .i64 (u4.1 : Int), .int .i64 (u5.1 : Int), .string ⟨#[]⟩, .string ⟨#[]⟩, .int .i64 0, .int .i64 0, .string ⟨#[]⟩, .slice none 0 0, .int .i64 (u1.1 : Int), .bool false] (u2.1 : Int) from HR5.out.set2 2 (.int .i64 (u5.1 : Int)))
  go_wp2_with fail
  obtain ⟨t5, hu⟩ : ∃ W, W = s5.setCell ⟨q2, 2, none⟩ (.int .i64 (u5.1 : Int)) := ⟨_, rfl⟩
  rw [← hu] at HQ5 ⊢
  clear hu HR5 z f i4
  rw [rounds_succ]
  have k1 := cell_of HQ5.out.b1 0
  simp at k1
  go_wp2_with fail
  refine (rdU_any HQ5.out.rd).mono ?_
  rw [← Hu6.out]
  rintro r s6 ⟨rfl, hr, hg⟩
  have HR6 := Lib.hid (HQ5.out.read hr hg)
  clear hr hg HQ5 k1
  have z := cell_of HR6.out.b2 5
  have f := frozen_of HR6.out.b2 5
  simp at z
  have HQ6 := Lib.hid (show SeP w (s6.setCell ⟨q2, 5, none⟩ (.int .i64 (u6.1 : Int))) lo g q1 q2 q3 u6.2.1 u6.2.2 #[.int .i64 (u3.1 : Int), .int .i64 (u4.1 : Int), .int .i64 (u5.1 : Int), .string ⟨#[]⟩, .string ⟨#[]⟩, .int .i64 (u6.1 : Int), .int .i64 0, .string ⟨#[]⟩, .slice none 0 0, .int .i64 (u1.1 : Int), .bool false] (u2.1 : Int) from HR6.out.set2 5 (.int .i64 (u6.1 : Int)))
  go_wp2_with fail
  obtain ⟨t6, hu⟩ : ∃ W, W = s6.setCell ⟨q2, 5, none⟩ (.int .i64 (u6.1 : Int)) := ⟨_, rfl⟩
  rw [← hu] at HQ6 ⊢
  clear hu HR6 z f i5
  rw [rounds_succ]
  have k1 := cell_of HQ6.out.b1 0
  simp at k1
  go_wp2_with fail
  refine (rdU_any HQ6.out.rd).mono ?_
  rw [← Hu7.out]
  rintro r s7 ⟨rfl, hr, hg⟩
  have HR7 := Lib.hid (HQ6.out.read hr hg)
  clear hr hg HQ6 k1
  have z := cell_of HR7.out.b2 6
  have f := frozen_of HR7.out.b2 6
  simp at z
  have HQ7 := Lib.hid (show SeP w (s7.setCell ⟨q2, 6, none⟩ (.int .i64 (u7.1 : Int))) lo g q1 q2 q3 u7.2.1 u7.2.2 #[.int .i64 (u3.1 : Int), .int .i64 (u4.1 : Int), .int .i64 (u5.1 : Int), .string ⟨#[]⟩, .string ⟨#[]⟩, .int .i64 (u6.1 : Int), .int .i64 (u7.1 : Int), .string ⟨#[]⟩, .slice none 0 0, .int .i64 (u1.1 : Int), .bool false] (u2.1 : Int) from HR7.out.set2 6 (.int .i64 (u7.1 : Int)))
  go_wp2_with fail
  obtain ⟨t7, hu⟩ : ∃ W, W = s7.setCell ⟨q2, 6, none⟩ (.int .i64 (u7.1 : Int)) := ⟨_, rfl⟩
  rw [← hu] at HQ7 ⊢
  clear hu HR7 z f i6
  rw [rounds_succ]
  have k3 := cell_of HQ7.out.b3 0
  have z := cell_of HQ7.out.b2 10
  have f := frozen_of HQ7.out.b2 10
  have k1 := cell_of HQ7.out.b1 0
  have hne23 : q3 ≠ q2 := by have := HQ7.out.n23; omega
  simp at k3 z k1
  have HQ8 := Lib.hid (show SeP w (t7.setCell ⟨q2, 10, none⟩ (.bool ((u2.1 : Int) == 1))) lo g q1 q2 q3 u7.2.1 u7.2.2 #[.int .i64 (u3.1 : Int), .int .i64 (u4.1 : Int), .int .i64 (u5.1 : Int), .string ⟨#[]⟩, .string ⟨#[]⟩, .int .i64 (u6.1 : Int), .int .i64 (u7.1 : Int), .string ⟨#[]⟩, .slice none 0 0, .int .i64 (u1.1 : Int), .bool ((u2.1 : Int) == 1)] (u2.1 : Int) from HQ7.out.set2 10 (.bool ((u2.1 : Int) == 1)))
  by_cases hbig : 1 < u2.1
  · have hb1 : (1 : Int) < (u2.1 : Int) := by omega
    have HBIG := Lib.hid hbig
    go_wp2_with fail
    obtain ⟨t8, hu⟩ : ∃ W, W = t7.setCell ⟨q2, 10, none⟩ (.bool ((u2.1 : Int) == 1)) := ⟨_, rfl⟩
    rw [← hu] at HQ8 ⊢
    clear hu k3 z f k1 HQ7
    refine (Fail_any 270 HQ8.out.rd).mono ?_
    rintro r t9 ⟨rfl, hr, hg⟩
    rw [show (if u7.2.1 = 0 then (270 : Int) else u7.2.1) = e1 by rw [He1.out, if_pos HBIG.out]; rfl] at hr
    have HS7 := Lib.hid (HQ8.out.read hr hg)
    clear hr hg HQ8 hb1 hbig
    as_aux_lemma =>
      go_wp2_with fail
      have k1 := cell_of HS7.out.b1 0
      simp at k1
      have hn12 : q1 ≠ q2 := by have := HS7.out.n12; omega
      refine wp_region_held_drew (S := (fun w' => w'.cell? ⟨q1, 0, none⟩ = some (.pointer (some ⟨g, 0, none⟩)))) (by kernel_rfl) (by simpa using k1) (fun hHeld => ?_)
      refine' take_val (i := 0) (d := 42) (v := _) rfl rfl (by kernel_rfl) (by kernel_rfl) (by kernel_rfl) (fun _ _ _ h => h) (by rfl) ?_ (by assumption) ?_
      rotate_left
      · (intro w hSw; (try dsimp only at hSw); go_simp; (try with_reducible rfl))
      (try simp only [Act.put, List.setIfInBounds_toArray, List.set_cons_zero, List.set_cons_succ])
      refine' take_val (i := 1) (d := 43) (v := _) rfl rfl (by kernel_rfl) (by kernel_rfl) (by kernel_rfl) (fun _ _ _ h => h) (by rfl) ?_ (by assumption) ?_
      rotate_left
      · (intro w hSw; (try dsimp only at hSw); go_simp; (try with_reducible rfl))
      (try simp only [Act.put, List.setIfInBounds_toArray, List.set_cons_zero, List.set_cons_succ])
      refine' take_val (i := 2) (d := 44) (v := _) rfl rfl (by kernel_rfl) (by kernel_rfl) (by kernel_rfl) (fun _ _ _ h => h) (by rfl) ?_ (by assumption) ?_
      rotate_left
      · (intro w hSw; (try dsimp only at hSw); go_simp; (try with_reducible rfl))
      (try simp only [Act.put, List.setIfInBounds_toArray, List.set_cons_zero, List.set_cons_succ])
      refine' take_val (i := 3) (d := 45) (v := _) rfl rfl (by kernel_rfl) (by kernel_rfl) (by kernel_rfl) (fun _ _ _ h => h) (by rfl) ?_ (by assumption) ?_
      rotate_left
      · (intro w hSw; (try dsimp only at hSw); go_simp; (try with_reducible rfl))
      (try simp only [Act.put, List.setIfInBounds_toArray, List.set_cons_zero, List.set_cons_succ])
      refine' take_val (i := 5) (d := 47) (v := _) rfl rfl (by kernel_rfl) (by kernel_rfl) (by kernel_rfl) (fun _ _ _ h => h) (by rfl) ?_ (by assumption) ?_
      rotate_left
      · (intro w hSw; (try dsimp only at hSw); go_simp; (try with_reducible rfl))
      (try simp only [Act.put, List.setIfInBounds_toArray, List.set_cons_zero, List.set_cons_succ])
      refine' take_val (i := 6) (d := 48) (v := _) rfl rfl (by kernel_rfl) (by kernel_rfl) (by kernel_rfl) (fun _ _ _ h => h) (by rfl) ?_ (by assumption) ?_
      rotate_left
      · (intro w hSw; (try dsimp only at hSw); go_simp; (try with_reducible rfl))
      (try simp only [Act.put, List.setIfInBounds_toArray, List.set_cons_zero, List.set_cons_succ])
      refine wpAnyH_ready (rs := [4]) (by kernel_rfl) (by simp) ?_
      refine AllReadyH.cons rfl (fun K hK => ?_) AllReadyH.nil
      go_simp
      go_at_call 69
      refine (rdText_any 24 (HS7.out.rd.below (bel0 _).drew)).mono ?_
      rw [← Hv.out]
      rintro r s8 ⟨rfl, _, _, hr, hg⟩
      have HS8 := Lib.hid ((HS7.out.below (bel0 _).drew).read hr hg)
      clear hr hg
      go_wp2_with fail
      refine hK.out _ _ (by simpa using cell_of HS8.out.b1 0) (fun hHeld => ?_)
      clear hK K
      (try simp only [Act.put, List.setIfInBounds_toArray, List.set_cons_zero, List.set_cons_succ])
      refine wpAnyH_ready (rs := [7]) (by kernel_rfl) (by simp) ?_
      refine AllReadyH.cons rfl (fun K hK => ?_) AllReadyH.nil
      go_simp
      go_at_call 69
      refine (rdText_any 24 HS8.out.rd).mono ?_
      rw [← Ho.out]
      rintro r s9 ⟨rfl, _, _, hr, hg⟩
      have HS9 := Lib.hid (HS8.out.read hr hg)
      have z3 := cell_of HS9.out.b2 3
      have z4 := cell_of HS9.out.b2 4
      have f3 := frozen_of HS9.out.b2 3
      have f4 := frozen_of HS9.out.b2 4
      simp at z3 z4
      clear hr hg
      go_wp2_with fail
      refine hK.out _ _ (by simpa using cell_of HS9.out.b1 0) (fun hHeld => ?_)
      clear hK K
      (try simp only [Act.put, List.setIfInBounds_toArray, List.set_cons_zero, List.set_cons_succ])
      refine' take_val (i := 8) (d := 50) (v := _) rfl rfl (by kernel_rfl) (by kernel_rfl) (by kernel_rfl) (fun _ _ _ h => h) (by rfl) ?_ (by assumption) ?_
      rotate_left
      · (intro w hSw; (try dsimp only at hSw); go_simp; (try with_reducible rfl))
      (try simp only [Act.put, List.setIfInBounds_toArray, List.set_cons_zero, List.set_cons_succ])
      refine' take_val (i := 9) (d := 51) (v := _) rfl rfl (by kernel_rfl) (by kernel_rfl) (by kernel_rfl) (fun _ _ _ h => h) (by rfl) ?_ (by assumption) ?_
      rotate_left
      · (intro w hSw; (try dsimp only at hSw); go_simp; (try with_reducible rfl))
      (try simp only [Act.put, List.setIfInBounds_toArray, List.set_cons_zero, List.set_cons_succ])
      refine wpAnyH_ready (rs := [10]) (by kernel_rfl) (by simp) ?_
      refine AllReadyH.cons rfl (fun K hK => ?_) AllReadyH.nil
      go_simp
      go_wp2_with fail
      refine hK.out _ _ (cellS hHeld hn12) (fun hHeld => ?_)
      clear hK K
      (try simp only [Act.put, List.setIfInBounds_toArray, List.set_cons_zero, List.set_cons_succ])
      refine' take_val (i := 11) (d := 52) (v := _) rfl rfl (by kernel_rfl) (by kernel_rfl) (by kernel_rfl) (fun _ _ _ h => h) (by rfl) ?_ (by assumption) ?_
      rotate_left
      · (intro w hSw; (try dsimp only at hSw); go_simp; (try with_reducible rfl))
      (try simp only [Act.put, List.setIfInBounds_toArray, List.set_cons_zero, List.set_cons_succ])
      refine' take_val (i := 12) (d := 53) (v := _) rfl rfl (by kernel_rfl) (by kernel_rfl) (by kernel_rfl) (fun _ _ _ h => h) (by rfl) ?_ (by assumption) ?_
      rotate_left
      · (intro w hSw; (try dsimp only at hSw); go_simp; (try with_reducible rfl))
      (try simp only [Act.put, List.setIfInBounds_toArray, List.set_cons_zero, List.set_cons_succ])
      refine wpAnyH_ready (rs := [13]) (by kernel_rfl) (by simp) ?_
      refine AllReadyH.cons rfl (fun K hK => ?_) AllReadyH.nil
      go_simp
      go_wp2_with fail
      refine hK.out _ _ (cellS hHeld hn12) (fun hHeld => ?_)
      clear hK K
      (try simp only [Act.put, List.setIfInBounds_toArray, List.set_cons_zero, List.set_cons_succ])
      refine wpAnyH_done (by kernel_rfl) ?_ _
      have HS10 := Lib.hid (show SeP w ((s9.setCell ⟨q2, 3, none⟩ (.string (bs v.1))).setCell ⟨q2, 4, none⟩ (.string (bs o.1))) lo g q1 q2 q3 o.2.1 o.2.2 #[.int .i64 (u3.1 : Int), .int .i64 (u4.1 : Int), .int .i64 (u5.1 : Int), .string (bs v.1), .string (bs o.1), .int .i64 (u6.1 : Int), .int .i64 (u7.1 : Int), .string ⟨#[]⟩, .slice none 0 0, .int .i64 (u1.1 : Int), .bool ((u2.1 : Int) == 1)] (u2.1 : Int) from (HS9.out.set2 3 (.string (bs v.1))).set2 4 (.string (bs o.1)))
      obtain ⟨sa, hu⟩ : ∃ W, W = (s9.setCell ⟨q2, 3, none⟩ (.string (bs v.1))).setCell ⟨q2, 4, none⟩ (.string (bs o.1)) := ⟨_, rfl⟩
      rw [← hu] at HS10 hHeld ⊢
      clear hu z3 z4 f3 f4 HS7 HS8 HS9 k1
      go_wp2_with fail
      refine (takeAs_any HS10.out.rd).mono ?_
      rw [← Ha.out]
      rintro r sb ⟨va, rfl, hoa, hr, hg⟩
      have HS11 := Lib.hid (HS10.out.read hr hg)
      have hoa2 := ownsRow_base hoa (show w.heap.size ≤ sa.heap.size from HS10.out.gr.size)
      obtain ⟨A4, n4, c4, rfl, _⟩ : ∃ A4 n4 c4, va = .slice A4 n4 c4 ∧ True := (by rcases hoa.2 with ⟨h, _⟩ | ⟨g2, cap, cur, h, _⟩ <;> exact ⟨_, _, _, h, trivial⟩)
      have HOA := Lib.hid hoa2
      clear hr hg hoa hoa2 HS10 hHeld
      have z8 := cell_of HS11.out.b2 8
      have f8 := frozen_of HS11.out.b2 8
      simp at z8
      go_upto_region 13 with (fail)
      have h12 := HS11.out.set2 8 (.slice A4 n4 c4)
      simp only [List.setIfInBounds_toArray, List.set_cons_zero, List.set_cons_succ] at h12
      have HS12 := Lib.hid h12
      have HO12 := Lib.hid (show (sb.setCell ⟨q2, 8, none⟩ (.slice A4 n4 c4)).ownsRow w.heap.size 101 6 (.slice A4 n4 c4) a.1.length (acs a.1) from own_sets HOA.out HS11.out.b2 (by decide) [(8, .slice A4 n4 c4)])
      obtain ⟨sc, hu⟩ : ∃ W, W = sb.setCell ⟨q2, 8, none⟩ (.slice A4 n4 c4) := ⟨_, rfl⟩
      rw [← hu] at HS12 HO12 ⊢
      clear hu h12 z8 f8 HS11 HOA
      obtain ⟨cl, hcl⟩ : ∃ cl : List Value, cl = [.int .i64 (u3.1 : Int), .int .i64 (u4.1 : Int), .int .i64 (u5.1 : Int), .string (bs v.1), .string (bs o.1), .int .i64 (u6.1 : Int), .int .i64 (u7.1 : Int), .string ⟨#[]⟩, .slice A4 n4 c4, .int .i64 (u1.1 : Int), .bool ((u2.1 : Int) == 1)] := ⟨_, rfl⟩
      have HCL := Lib.hid hcl
      have HTH := Lib.hid (show sc.there q2 0 cl.length by rw [hcl]; exact there_of HS12.out.b2 (n := 11) rfl)
      have HIL := Lib.hid (show (Tryz.prog.info? 50).map (·.size) = some cl.length by rw [hcl]; exact infoSnS)
      have HRG := Lib.hid (show sc.rangeAt q2 0 cl by rw [hcl]; exact range_of HS12.out.b2)
      have H1C := Lib.hid (show ∀ v ∈ cl, v.oneCell' = true by
        rw [hcl]
        intro x hx
        simp only [List.mem_cons, List.not_mem_nil, or_false] at hx
        rcases hx with rfl | rfl | rfl | rfl | rfl | rfl | rfl | rfl | rfl | rfl | rfl <;> rfl)
      clear hcl
      go_wp2_with (refine self_copy rfl rfl 50 (.tmp 2) (.tmp 60) rfl rfl q2 rfl cl _ HRG.out Tryz.underlying50 rfl HIL.out HTH.out H1C.out rfl rfl ?_)
      obtain ⟨W, hW⟩ : ∃ W, W = sc.setCells q2 0 cl := ⟨_, rfl⟩
      have HF := Lib.hid (show SeP w W lo g q1 q2 q3 a.2.1 a.2.2 #[.int .i64 (u3.1 : Int), .int .i64 (u4.1 : Int), .int .i64 (u5.1 : Int), .string (bs v.1), .string (bs o.1), .int .i64 (u6.1 : Int), .int .i64 (u7.1 : Int), .string ⟨#[]⟩, .slice A4 n4 c4, .int .i64 (u1.1 : Int), .bool ((u2.1 : Int) == 1)] (u2.1 : Int) by
        have h := SeP.row cl 0 HS12.out
        rw [← hW, HCL.out] at h
        simp only [rowSet, List.setIfInBounds_toArray, List.set_cons_zero, List.set_cons_succ] at h
        exact h)
      have HOF := Lib.hid (show W.ownsRow w.heap.size 101 6 (.slice A4 n4 c4) a.1.length (acs a.1) by rw [hW]; exact own_row HO12.out HS12.out.b2 (by decide) _ _)
      rw [← hW]
      clear hW
      have d0 := cell_of HF.out.b2 0
      have d1 := cell_of HF.out.b2 1
      have d2 := cell_of HF.out.b2 2
      have d3 := cell_of HF.out.b2 3
      have d4 := cell_of HF.out.b2 4
      have d5 := cell_of HF.out.b2 5
      have d6 := cell_of HF.out.b2 6
      have d7 := cell_of HF.out.b2 7
      have d8 := cell_of HF.out.b2 8
      have d9 := cell_of HF.out.b2 9
      have d10 := cell_of HF.out.b2 10
      simp at d0 d1 d2 d3 d4 d5 d6 d7 d8 d9 d10
      refine bodyPost_ret (by simp [results, Tryz.results21, go_sem, d0, d1, d2, d3, d4, d5, d6, d7, d8, d9, d10]; try rfl) rfl ?_
      rw [HX.out]
      have hlo : decide ((u2.1 : Int) = 1) = ((u2.1 : Int) == 1) := by
        rw [Bool.eq_iff_iff]
        simp
      simp only [hlo]
      exact ⟨_, rfl, HOF.out, HF.out.rd, HF.out.gr⟩
  · have hb1 : ¬ (1 : Int) < (u2.1 : Int) := by omega
    have HBIG := Lib.hid hbig
    go_wp2_with fail
    obtain ⟨t8, hu⟩ : ∃ W, W = t7.setCell ⟨q2, 10, none⟩ (.bool ((u2.1 : Int) == 1)) := ⟨_, rfl⟩
    rw [← hu] at HQ8 ⊢
    clear hu k3 z f k1 HQ7 hb1 hbig
    have HS7 := Lib.hid (show SeP w t8 lo g q1 q2 q3 e1 u7.2.2 #[.int .i64 (u3.1 : Int), .int .i64 (u4.1 : Int), .int .i64 (u5.1 : Int), .string ⟨#[]⟩, .string ⟨#[]⟩, .int .i64 (u6.1 : Int), .int .i64 (u7.1 : Int), .string ⟨#[]⟩, .slice none 0 0, .int .i64 (u1.1 : Int), .bool ((u2.1 : Int) == 1)] (u2.1 : Int) by rw [He1.out, if_neg HBIG.out]; exact HQ8.out)
    clear HQ8
    as_aux_lemma =>
      have k1 := cell_of HS7.out.b1 0
      simp at k1
      have hn12 : q1 ≠ q2 := by have := HS7.out.n12; omega
      refine wp_region_held_drew (S := (fun w' => w'.cell? ⟨q1, 0, none⟩ = some (.pointer (some ⟨g, 0, none⟩)))) (by kernel_rfl) (by simpa using k1) (fun hHeld => ?_)
      refine' take_val (i := 0) (d := 42) (v := _) rfl rfl (by kernel_rfl) (by kernel_rfl) (by kernel_rfl) (fun _ _ _ h => h) (by rfl) ?_ (by assumption) ?_
      rotate_left
      · (intro w hSw; (try dsimp only at hSw); go_simp; (try with_reducible rfl))
      (try simp only [Act.put, List.setIfInBounds_toArray, List.set_cons_zero, List.set_cons_succ])
      refine' take_val (i := 1) (d := 43) (v := _) rfl rfl (by kernel_rfl) (by kernel_rfl) (by kernel_rfl) (fun _ _ _ h => h) (by rfl) ?_ (by assumption) ?_
      rotate_left
      · (intro w hSw; (try dsimp only at hSw); go_simp; (try with_reducible rfl))
      (try simp only [Act.put, List.setIfInBounds_toArray, List.set_cons_zero, List.set_cons_succ])
      refine' take_val (i := 2) (d := 44) (v := _) rfl rfl (by kernel_rfl) (by kernel_rfl) (by kernel_rfl) (fun _ _ _ h => h) (by rfl) ?_ (by assumption) ?_
      rotate_left
      · (intro w hSw; (try dsimp only at hSw); go_simp; (try with_reducible rfl))
      (try simp only [Act.put, List.setIfInBounds_toArray, List.set_cons_zero, List.set_cons_succ])
      refine' take_val (i := 3) (d := 45) (v := _) rfl rfl (by kernel_rfl) (by kernel_rfl) (by kernel_rfl) (fun _ _ _ h => h) (by rfl) ?_ (by assumption) ?_
      rotate_left
      · (intro w hSw; (try dsimp only at hSw); go_simp; (try with_reducible rfl))
      (try simp only [Act.put, List.setIfInBounds_toArray, List.set_cons_zero, List.set_cons_succ])
      refine' take_val (i := 5) (d := 47) (v := _) rfl rfl (by kernel_rfl) (by kernel_rfl) (by kernel_rfl) (fun _ _ _ h => h) (by rfl) ?_ (by assumption) ?_
      rotate_left
      · (intro w hSw; (try dsimp only at hSw); go_simp; (try with_reducible rfl))
      (try simp only [Act.put, List.setIfInBounds_toArray, List.set_cons_zero, List.set_cons_succ])
      refine' take_val (i := 6) (d := 48) (v := _) rfl rfl (by kernel_rfl) (by kernel_rfl) (by kernel_rfl) (fun _ _ _ h => h) (by rfl) ?_ (by assumption) ?_
      rotate_left
      · (intro w hSw; (try dsimp only at hSw); go_simp; (try with_reducible rfl))
      (try simp only [Act.put, List.setIfInBounds_toArray, List.set_cons_zero, List.set_cons_succ])
      refine wpAnyH_ready (rs := [4]) (by kernel_rfl) (by simp) ?_
      refine AllReadyH.cons rfl (fun K hK => ?_) AllReadyH.nil
      go_simp
      go_at_call 69
      refine (rdText_any 24 (HS7.out.rd.below (bel0 _).drew)).mono ?_
      rw [← Hv.out]
      rintro r s8 ⟨rfl, _, _, hr, hg⟩
      have HS8 := Lib.hid ((HS7.out.below (bel0 _).drew).read hr hg)
      clear hr hg
      go_wp2_with fail
      refine hK.out _ _ (by simpa using cell_of HS8.out.b1 0) (fun hHeld => ?_)
      clear hK K
      (try simp only [Act.put, List.setIfInBounds_toArray, List.set_cons_zero, List.set_cons_succ])
      refine wpAnyH_ready (rs := [7]) (by kernel_rfl) (by simp) ?_
      refine AllReadyH.cons rfl (fun K hK => ?_) AllReadyH.nil
      go_simp
      go_at_call 69
      refine (rdText_any 24 HS8.out.rd).mono ?_
      rw [← Ho.out]
      rintro r s9 ⟨rfl, _, _, hr, hg⟩
      have HS9 := Lib.hid (HS8.out.read hr hg)
      have z3 := cell_of HS9.out.b2 3
      have z4 := cell_of HS9.out.b2 4
      have f3 := frozen_of HS9.out.b2 3
      have f4 := frozen_of HS9.out.b2 4
      simp at z3 z4
      clear hr hg
      go_wp2_with fail
      refine hK.out _ _ (by simpa using cell_of HS9.out.b1 0) (fun hHeld => ?_)
      clear hK K
      (try simp only [Act.put, List.setIfInBounds_toArray, List.set_cons_zero, List.set_cons_succ])
      refine' take_val (i := 8) (d := 50) (v := _) rfl rfl (by kernel_rfl) (by kernel_rfl) (by kernel_rfl) (fun _ _ _ h => h) (by rfl) ?_ (by assumption) ?_
      rotate_left
      · (intro w hSw; (try dsimp only at hSw); go_simp; (try with_reducible rfl))
      (try simp only [Act.put, List.setIfInBounds_toArray, List.set_cons_zero, List.set_cons_succ])
      refine' take_val (i := 9) (d := 51) (v := _) rfl rfl (by kernel_rfl) (by kernel_rfl) (by kernel_rfl) (fun _ _ _ h => h) (by rfl) ?_ (by assumption) ?_
      rotate_left
      · (intro w hSw; (try dsimp only at hSw); go_simp; (try with_reducible rfl))
      (try simp only [Act.put, List.setIfInBounds_toArray, List.set_cons_zero, List.set_cons_succ])
      refine wpAnyH_ready (rs := [10]) (by kernel_rfl) (by simp) ?_
      refine AllReadyH.cons rfl (fun K hK => ?_) AllReadyH.nil
      go_simp
      go_wp2_with fail
      refine hK.out _ _ (cellS hHeld hn12) (fun hHeld => ?_)
      clear hK K
      (try simp only [Act.put, List.setIfInBounds_toArray, List.set_cons_zero, List.set_cons_succ])
      refine' take_val (i := 11) (d := 52) (v := _) rfl rfl (by kernel_rfl) (by kernel_rfl) (by kernel_rfl) (fun _ _ _ h => h) (by rfl) ?_ (by assumption) ?_
      rotate_left
      · (intro w hSw; (try dsimp only at hSw); go_simp; (try with_reducible rfl))
      (try simp only [Act.put, List.setIfInBounds_toArray, List.set_cons_zero, List.set_cons_succ])
      refine' take_val (i := 12) (d := 53) (v := _) rfl rfl (by kernel_rfl) (by kernel_rfl) (by kernel_rfl) (fun _ _ _ h => h) (by rfl) ?_ (by assumption) ?_
      rotate_left
      · (intro w hSw; (try dsimp only at hSw); go_simp; (try with_reducible rfl))
      (try simp only [Act.put, List.setIfInBounds_toArray, List.set_cons_zero, List.set_cons_succ])
      refine wpAnyH_ready (rs := [13]) (by kernel_rfl) (by simp) ?_
      refine AllReadyH.cons rfl (fun K hK => ?_) AllReadyH.nil
      go_simp
      go_wp2_with fail
      refine hK.out _ _ (cellS hHeld hn12) (fun hHeld => ?_)
      clear hK K
      (try simp only [Act.put, List.setIfInBounds_toArray, List.set_cons_zero, List.set_cons_succ])
      refine wpAnyH_done (by kernel_rfl) ?_ _
      have HS10 := Lib.hid (show SeP w ((s9.setCell ⟨q2, 3, none⟩ (.string (bs v.1))).setCell ⟨q2, 4, none⟩ (.string (bs o.1))) lo g q1 q2 q3 o.2.1 o.2.2 #[.int .i64 (u3.1 : Int), .int .i64 (u4.1 : Int), .int .i64 (u5.1 : Int), .string (bs v.1), .string (bs o.1), .int .i64 (u6.1 : Int), .int .i64 (u7.1 : Int), .string ⟨#[]⟩, .slice none 0 0, .int .i64 (u1.1 : Int), .bool ((u2.1 : Int) == 1)] (u2.1 : Int) from (HS9.out.set2 3 (.string (bs v.1))).set2 4 (.string (bs o.1)))
      obtain ⟨sa, hu⟩ : ∃ W, W = (s9.setCell ⟨q2, 3, none⟩ (.string (bs v.1))).setCell ⟨q2, 4, none⟩ (.string (bs o.1)) := ⟨_, rfl⟩
      rw [← hu] at HS10 hHeld ⊢
      clear hu z3 z4 f3 f4 HS7 HS8 HS9 k1
      go_wp2_with fail
      refine (takeAs_any HS10.out.rd).mono ?_
      rw [← Ha.out]
      rintro r sb ⟨va, rfl, hoa, hr, hg⟩
      have HS11 := Lib.hid (HS10.out.read hr hg)
      have hoa2 := ownsRow_base hoa (show w.heap.size ≤ sa.heap.size from HS10.out.gr.size)
      obtain ⟨A4, n4, c4, rfl, _⟩ : ∃ A4 n4 c4, va = .slice A4 n4 c4 ∧ True := (by rcases hoa.2 with ⟨h, _⟩ | ⟨g2, cap, cur, h, _⟩ <;> exact ⟨_, _, _, h, trivial⟩)
      have HOA := Lib.hid hoa2
      clear hr hg hoa hoa2 HS10 hHeld
      have z8 := cell_of HS11.out.b2 8
      have f8 := frozen_of HS11.out.b2 8
      simp at z8
      go_upto_region 13 with (fail)
      have h12 := HS11.out.set2 8 (.slice A4 n4 c4)
      simp only [List.setIfInBounds_toArray, List.set_cons_zero, List.set_cons_succ] at h12
      have HS12 := Lib.hid h12
      have HO12 := Lib.hid (show (sb.setCell ⟨q2, 8, none⟩ (.slice A4 n4 c4)).ownsRow w.heap.size 101 6 (.slice A4 n4 c4) a.1.length (acs a.1) from own_sets HOA.out HS11.out.b2 (by decide) [(8, .slice A4 n4 c4)])
      obtain ⟨sc, hu⟩ : ∃ W, W = sb.setCell ⟨q2, 8, none⟩ (.slice A4 n4 c4) := ⟨_, rfl⟩
      rw [← hu] at HS12 HO12 ⊢
      clear hu h12 z8 f8 HS11 HOA
      obtain ⟨cl, hcl⟩ : ∃ cl : List Value, cl = [.int .i64 (u3.1 : Int), .int .i64 (u4.1 : Int), .int .i64 (u5.1 : Int), .string (bs v.1), .string (bs o.1), .int .i64 (u6.1 : Int), .int .i64 (u7.1 : Int), .string ⟨#[]⟩, .slice A4 n4 c4, .int .i64 (u1.1 : Int), .bool ((u2.1 : Int) == 1)] := ⟨_, rfl⟩
      have HCL := Lib.hid hcl
      have HTH := Lib.hid (show sc.there q2 0 cl.length by rw [hcl]; exact there_of HS12.out.b2 (n := 11) rfl)
      have HIL := Lib.hid (show (Tryz.prog.info? 50).map (·.size) = some cl.length by rw [hcl]; exact infoSnS)
      have HRG := Lib.hid (show sc.rangeAt q2 0 cl by rw [hcl]; exact range_of HS12.out.b2)
      have H1C := Lib.hid (show ∀ v ∈ cl, v.oneCell' = true by
        rw [hcl]
        intro x hx
        simp only [List.mem_cons, List.not_mem_nil, or_false] at hx
        rcases hx with rfl | rfl | rfl | rfl | rfl | rfl | rfl | rfl | rfl | rfl | rfl <;> rfl)
      clear hcl
      go_wp2_with (refine self_copy rfl rfl 50 (.tmp 2) (.tmp 60) rfl rfl q2 rfl cl _ HRG.out Tryz.underlying50 rfl HIL.out HTH.out H1C.out rfl rfl ?_)
      obtain ⟨W, hW⟩ : ∃ W, W = sc.setCells q2 0 cl := ⟨_, rfl⟩
      have HF := Lib.hid (show SeP w W lo g q1 q2 q3 a.2.1 a.2.2 #[.int .i64 (u3.1 : Int), .int .i64 (u4.1 : Int), .int .i64 (u5.1 : Int), .string (bs v.1), .string (bs o.1), .int .i64 (u6.1 : Int), .int .i64 (u7.1 : Int), .string ⟨#[]⟩, .slice A4 n4 c4, .int .i64 (u1.1 : Int), .bool ((u2.1 : Int) == 1)] (u2.1 : Int) by
        have h := SeP.row cl 0 HS12.out
        rw [← hW, HCL.out] at h
        simp only [rowSet, List.setIfInBounds_toArray, List.set_cons_zero, List.set_cons_succ] at h
        exact h)
      have HOF := Lib.hid (show W.ownsRow w.heap.size 101 6 (.slice A4 n4 c4) a.1.length (acs a.1) by rw [hW]; exact own_row HO12.out HS12.out.b2 (by decide) _ _)
      rw [← hW]
      clear hW
      have d0 := cell_of HF.out.b2 0
      have d1 := cell_of HF.out.b2 1
      have d2 := cell_of HF.out.b2 2
      have d3 := cell_of HF.out.b2 3
      have d4 := cell_of HF.out.b2 4
      have d5 := cell_of HF.out.b2 5
      have d6 := cell_of HF.out.b2 6
      have d7 := cell_of HF.out.b2 7
      have d8 := cell_of HF.out.b2 8
      have d9 := cell_of HF.out.b2 9
      have d10 := cell_of HF.out.b2 10
      simp at d0 d1 d2 d3 d4 d5 d6 d7 d8 d9 d10
      refine bodyPost_ret (by simp [results, Tryz.results21, go_sem, d0, d1, d2, d3, d4, d5, d6, d7, d8, d9, d10]; try rfl) rfl ?_
      rw [HX.out]
      have hlo : decide ((u2.1 : Int) = 1) = ((u2.1 : Int) == 1) := by
        rw [Bool.eq_iff_iff]
        simp
      simp only [hlo]
      exact ⟨_, rfl, HOF.out, HF.out.rd, HF.out.gr⟩
end Go.Proofs.YtfedgjahbmcpoaaGreat
