/- A batch's row of bytes: put, numbers, texts: contracts. No conditions. -/
import Derived.Test.YtbhfbpaaghpadaaGC13
import Derived.Test.YtbhfbpaaghpadaaGC07
set_option linter.unusedSimpArgs false
set_option linter.unusedVariables false
namespace Go.Proofs.Ytbhfbpaaghpadaa
open Go.RowKit

/-- The row that a batch's bytes are written to. -/
structure RS (w0 w : World) (q : Nat) (L : List Nat) (b : Bool) : Prop where
  bel : Below w0.heap.size w0 w
  out : ∃ v, w.heap[q]? = some (.cells #[v, .bool b] 58 (0, 0)) ∧ w.ownsRow w0.heap.size 5 1 v L.length (bv L)
  lo : w0.heap.size ≤ q
theorem RS.below {w0 w w' : World} {q : Nat} {L : List Nat} {b : Bool} (h : RS w0 w q L b) (hb : Below w.heap.size w w') : RS w0 w' q L b := by
  obtain ⟨h1, ⟨v, h2, h3⟩, h4⟩ := h
  exact ⟨nx h1 hb, ⟨v, (hb.block _ (Array.getElem?_eq_some_iff.1 h2).1).trans h2, ownsRow_below h3 hb⟩, h4⟩
/-- What else lies there stays. -/
def KeepQ (w w' : World) (q : Nat) : Prop := w.heap.size ≤ w'.heap.size ∧ ∀ p c t mk, p ≠ q → t ≠ 5 → w.heap[p]? = some (.cells c t mk) → w'.heap[p]? = some (.cells c t mk)
theorem KeepQ.refl (w : World) (q : Nat) : KeepQ w w q := ⟨Nat.le_refl _, fun _ _ _ _ _ _ h => h⟩
theorem KeepQ.trans {w w1 w2 : World} {q : Nat} (h : KeepQ w w1 q) (h2 : KeepQ w1 w2 q) : KeepQ w w2 q := ⟨Nat.le_trans h.1 h2.1, fun p c t mk a b d => h2.2 p c t mk a b (h.2 p c t mk a b d)⟩
theorem KeepQ.ofBelow {w w' : World} (hb : Below w.heap.size w w') (q : Nat) : KeepQ w w' q := ⟨hb.size, fun p c t mk _ _ h => (hb.block p (Array.getElem?_eq_some_iff.1 h).1).trans h⟩

set_option maxHeartbeats 8000000 in
set_option maxRecDepth 100000 in
theorem rput_any {w0 w : World} {q : Nat} {L m : List Nat} {b : Bool} {f : Int} {A : Option Addr} {n c : Nat} (h : RS w0 w q L b) (hm : BS w A n c m) (hl : L.length + m.length ≤ 140737488355328) :
    Calls Try.prog 23 #[.pointer (some ⟨q, 0, none⟩), .slice A n c, .int .i64 f] w fun r w' => r = .returned (.tuple #[]) ∧ RS w0 w' q (L ++ m) (b || decide (f ≠ 0)) ∧ KeepQ w w' q := by
  obtain ⟨hb, ⟨v, h5, ho⟩, l5⟩ := h
  have c5 := cell_of h5 0
  have c6 := cell_of h5 1
  have f5 := frozen_of h5 0
  have f6 := frozen_of h5 1
  simp at c5 c6
  have n5 := own_ne ho h5 (by decide)
  have HO := Lib.hid ho
  have HM := Lib.hid hm
  have HBW := Lib.hid hb
  have H5 := Lib.hid h5
  have N5 := Lib.hid n5
  have hsz := (Array.getElem?_eq_some_iff.1 h5).1
  clear ho hm hb h5 n5
  have fin : ∀ (w1 : World) (v' : Value) (bb : Bool) (x : Value), x = .bool bb → w1.ownsRow w0.heap.size 5 1 v' (L ++ m).length (bv (L ++ m)) → w.grownBy w1 v.ownBlock →
      RS w0 ((w1.setCell ⟨q, 0, none⟩ v').setCell ⟨q, 1, none⟩ x) q (L ++ m) bb ∧ KeepQ w ((w1.setCell ⟨q, 0, none⟩ v').setCell ⟨q, 1, none⟩ x) q := by
    intro w1 v' bb x hx ho1 hg1
    subst hx
    have H51 := (hg1.block q (Array.getElem?_eq_some_iff.1 H5.out).1 (fun e => N5.out e.symm)).trans H5.out
    have m5 := own_ne ho1 H51 (by decide)
    have hbb := HBW.out.grown hg1 HBW.out.size (own_block HO.out)
    have g5 : (w1.setCell ⟨q, 0, none⟩ v').heap[q]? = some (.cells #[v', .bool b] 58 (0, 0)) := heap_set H51 0 _
    have hs1 : w.heap.size ≤ ((w1.setCell ⟨q, 0, none⟩ v').setCell ⟨q, 1, none⟩ (.bool bb)).heap.size := by rw [World.size_setCell, World.size_setCell]; exact hg1.size
    refine ⟨⟨(hbb.setCell (p := ⟨q, 0, none⟩) l5 _).setCell (p := ⟨q, 1, none⟩) l5 _, ⟨v', heap_set g5 1 _, ownsRow_setCell_other (ownsRow_setCell_other ho1 (a := ⟨q, 0, none⟩) m5 _) (a := ⟨q, 1, none⟩) m5 _⟩, l5⟩, hs1, ?_⟩
    intro p cc t mk h1 ht hp
    have h3 := (hg1.block p (Array.getElem?_eq_some_iff.1 hp).1 (fun e => own_ne HO.out hp ht e.symm)).trans hp
    exact (Below.heap_setCell _ ⟨q, 1, none⟩ _ p h1).trans ((Below.heap_setCell w1 ⟨q, 0, none⟩ _ p h1).trans h3)
  have FIN := Lib.hid fin
  clear fin
  go_enter Try.func23, Try.ntmps23
  cases b with
  | true =>
    go_wp2_with (at_builtin; refine append_bytes rfl (.tmp 10) (.tmp 11) rfl w0.heap.size v L m rfl HO.out A _ c rfl HM.out hl HBW.out.size ?_; intro v' w1 ho1 hg1 hv1; have H51 := (hg1.block q (Array.getElem?_eq_some_iff.1 H5.out).1 (fun e => N5.out e.symm)).trans H5.out; have d5 := cell_of H51 0; have d6 := cell_of H51 1; have e5 := frozen_of H51 0; have e6 := frozen_of H51 1; simp at d5 d6; obtain ⟨A4, n4, c4, rfl, _⟩ : ∃ A4 n4 c4, v' = .slice A4 n4 c4 ∧ True := (by rcases ho1.2 with ⟨h, _⟩ | ⟨g', cap, cur, h, _⟩ <;> exact ⟨_, _, _, h, trivial⟩); have HO1 := Lib.hid ho1; have HG1 := Lib.hid hg1; clear ho1 hg1 hv1 H51)
    go_end0
    exact ⟨rfl, FIN.out _ _ true _ rfl HO1.out HG1.out⟩
  | false =>
    by_cases hf : f = 0
    · subst hf
      go_wp2_with (at_builtin; refine append_bytes rfl (.tmp 10) (.tmp 11) rfl w0.heap.size v L m rfl HO.out A _ c rfl HM.out hl HBW.out.size ?_; intro v' w1 ho1 hg1 hv1; have H51 := (hg1.block q (Array.getElem?_eq_some_iff.1 H5.out).1 (fun e => N5.out e.symm)).trans H5.out; have d5 := cell_of H51 0; have d6 := cell_of H51 1; have e5 := frozen_of H51 0; have e6 := frozen_of H51 1; simp at d5 d6; obtain ⟨A4, n4, c4, rfl, _⟩ : ∃ A4 n4 c4, v' = .slice A4 n4 c4 ∧ True := (by rcases ho1.2 with ⟨h, _⟩ | ⟨g', cap, cur, h, _⟩ <;> exact ⟨_, _, _, h, trivial⟩); have HO1 := Lib.hid ho1; have HG1 := Lib.hid hg1; clear ho1 hg1 hv1 H51)
      go_end0
      exact ⟨rfl, FIN.out _ _ false _ rfl HO1.out HG1.out⟩
    · rw [show (false || decide (f ≠ 0)) = true from by simp [hf]]
      go_wp2_with (at_builtin; refine append_bytes rfl (.tmp 10) (.tmp 11) rfl w0.heap.size v L m rfl HO.out A _ c rfl HM.out hl HBW.out.size ?_; intro v' w1 ho1 hg1 hv1; have H51 := (hg1.block q (Array.getElem?_eq_some_iff.1 H5.out).1 (fun e => N5.out e.symm)).trans H5.out; have d5 := cell_of H51 0; have d6 := cell_of H51 1; have e5 := frozen_of H51 0; have e6 := frozen_of H51 1; simp at d5 d6; obtain ⟨A4, n4, c4, rfl, _⟩ : ∃ A4 n4 c4, v' = .slice A4 n4 c4 ∧ True := (by rcases ho1.2 with ⟨h, _⟩ | ⟨g', cap, cur, h, _⟩ <;> exact ⟨_, _, _, h, trivial⟩); have HO1 := Lib.hid ho1; have HG1 := Lib.hid hg1; clear ho1 hg1 hv1 H51)
      go_end0
      exact ⟨rfl, FIN.out _ _ true _ (by simp [hf]) HO1.out HG1.out⟩

/-- Numbers' bytes, and whether one has none. -/
def uN (l : List Int) : List Nat := (l.map fun n => (uP n).1).flatten
def uE (l : List Int) : Bool := l.any fun n => decide ((uP n).2 ≠ 0)
def tN (l : List ByteArray) : List Nat := (l.map fun s => (tP s).1).flatten
def tE (l : List ByteArray) : Bool := l.any fun s => decide ((tP s).2 ≠ 0)
theorem uN_take {l : List Int} {k : Nat} (hk : k < l.length) : uN (l.take (k + 1)) = uN (l.take k) ++ (uP l[k]).1 ∧ uE (l.take (k + 1)) = (uE (l.take k) || decide ((uP l[k]).2 ≠ 0)) := by
  rw [List.take_succ_eq_append_getElem hk]
  constructor
  · unfold uN
    rw [List.map_append, List.flatten_append]
    simp
  · unfold uE
    rw [List.any_append]
    simp
theorem uN_len (l : List Int) : (uN l).length ≤ 8 * l.length := by
  induction l with
  | nil => simp [uN]
  | cons a l ih =>
    have := (uP_ok a).2
    unfold uN at *
    simp only [List.map_cons, List.flatten_cons, List.length_append, List.length_cons]
    omega
theorem uN_byt (l : List Int) : Byt (uN l) := by
  intro x hx
  unfold uN at hx
  simp only [List.mem_flatten, List.mem_map] at hx
  obtain ⟨_, ⟨a, _, rfl⟩, hx⟩ := hx
  exact (uP_ok a).1 x hx
theorem tN_take {l : List ByteArray} {k : Nat} (hk : k < l.length) : tN (l.take (k + 1)) = tN (l.take k) ++ (tP l[k]).1 ∧ tE (l.take (k + 1)) = (tE (l.take k) || decide ((tP l[k]).2 ≠ 0)) := by
  rw [List.take_succ_eq_append_getElem hk]
  constructor
  · unfold tN
    rw [List.map_append, List.flatten_append]
    simp
  · unfold tE
    rw [List.any_append]
    simp
theorem tN_len (l : List ByteArray) : (tN l).length ≤ 65543 * l.length := by
  induction l with
  | nil => simp [tN]
  | cons a l ih =>
    have := (tP_ok a).2
    unfold tN at *
    simp only [List.map_cons, List.flatten_cons, List.length_append, List.length_cons]
    omega
theorem tN_byt (l : List ByteArray) : Byt (tN l) := by
  intro x hx
  unfold tN at hx
  simp only [List.mem_flatten, List.mem_map] at hx
  obtain ⟨_, ⟨a, _, rfl⟩, hx⟩ := hx
  exact (tP_ok a).1 x hx

set_option maxHeartbeats 8000000 in
set_option maxRecDepth 100000 in
theorem rnumbers_any {w0 w : World} {q g : Nat} {L : List Nat} {b : Bool} {l : List Int} (h : RS w0 w q L b) (hg : w.heap[g]? = some (.cells (l.map (Value.int .i64)).toArray 3 (0, 0))) (hne : g ≠ q) (hm : l.length ≤ 100) (hl : L.length ≤ 70368744177664) :
    Calls Try.prog 21 #[.pointer (some ⟨q, 0, none⟩), .slice (some ⟨g, 0, none⟩) l.length l.length] w fun r w' => r = .returned (.tuple #[]) ∧ RS w0 w' q (L ++ uN l) (b || uE l) ∧ KeepQ w w' q := by
  have HR := Lib.hid h
  have HG := Lib.hid hg
  obtain ⟨n, hn⟩ : ∃ n, n = l.length := ⟨_, rfl⟩
  have HN := Lib.hid hn
  have hn2 : n ≤ 100 := by omega
  rw [← hn]
  clear h hg hm hn
  have H0 := Lib.hid (show RS w0 w q (L ++ uN (l.take 0)) (b || uE (l.take 0)) by simpa [uN, uE] using HR.out)
  have K0 := Lib.hid (KeepQ.refl w q)
  clear HR
  go_enter Try.func21, Try.ntmps21
  go_wp2_with fail
  go_loopw [8] (fun i wr => ∃ k : Nat, k ≤ n ∧ i = .int .i64 k ∧ Hid (RS w0 wr q (L ++ uN (l.take k)) (b || uE (l.take k))) ∧ Hid (KeepQ w wr q)) (fun i _ => n - (intOf i).toNat)
  case atStart => exact ⟨0, Nat.zero_le _, rfl, H0, K0⟩
  case round =>
    clear H0 K0
    obtain ⟨k, hk, rfl, HS, HK⟩ := hrel
    by_cases hlt : k < n
    · have hlt' : k < l.length := by rw [← HN.out]; exact hlt
      have hg2 := HK.out.2 g _ _ _ hne (by decide) HG.out
      have hc := cell_of hg2 k
      simp only [List.getElem?_toArray, List.getElem?_map, List.getElem?_eq_getElem hlt', Option.map_some] at hc
      have haa : (⟨g, 0, none⟩ : Addr).add k = ⟨g, k, none⟩ := by rw [addr_add, Nat.zero_add]
      have HT := Lib.hid (show L ++ uN (l.take (k + 1)) = (L ++ uN (l.take k)) ++ (uP l[k]).1 ∧ (b || uE (l.take (k + 1))) = ((b || uE (l.take k)) || decide ((uP l[k]).2 ≠ 0)) by rw [(uN_take hlt').1, (uN_take hlt').2, List.append_assoc, Bool.or_assoc]; exact ⟨rfl, rfl⟩)
      have hlen : (L ++ uN (l.take k)).length + 8 ≤ 140737488355328 := by
        have h1 := uN_len (l.take k)
        have h2 := List.length_take_le k l
        rw [List.length_append]
        omega
      have HU := Lib.hid (fun w => U_all l[k] w)
      have HUO := Lib.hid (uP_ok l[k])
      generalize l[k] = y at *
      generalize L ++ uN (l.take k) = L1 at *
      clear hg2
      go_wp2_with fail
      refine (HU.out _).mono ?_
      intro r w2 hh
      obtain ⟨A2, n2, c2, rfl, hB, hb2⟩ := hh.open HUO.out.1 (by have := HUO.out.2; omega)
      have HS2 := Lib.hid (HS.out.below hb2)
      have HK2 := Lib.hid (HK.out.trans (KeepQ.ofBelow hb2 q))
      have HB := Lib.hid hB
      clear hh hB hb2 HS HK hc
      go_wp2_with fail
      refine (rput_any HS2.out HB.out (by have := HUO.out.2; omega)).mono ?_
      rintro r w3 ⟨rfl, hr3, hk3⟩
      have HS3 := Lib.hid hr3
      have HK3 := Lib.hid (HK2.out.trans hk3)
      clear hr3 hk3
      go_wp2_with fail
      exact ⟨⟨k + 1, by omega, by go_num, by rw [HT.out.1, HT.out.2]; exact HS3, HK3⟩, by simp [intOf]; omega⟩
    · obtain rfl : k = n := by omega
      go_wp2_with fail
      go_end0
      refine ⟨rfl, ?_, HK.out⟩
      have := HS.out
      rw [show l.take k = l from List.take_of_length_le (by rw [HN.out]; exact Nat.le_refl _)] at this
      exact this
set_option maxHeartbeats 8000000 in
set_option maxRecDepth 100000 in
theorem rtexts_any {w0 w : World} {q g : Nat} {L : List Nat} {b : Bool} {l : List ByteArray} (h : RS w0 w q L b) (hg : w.heap[g]? = some (.cells (l.map Value.string).toArray 9 (0, 0))) (hne : g ≠ q) (hm : l.length ≤ 100) (hl : L.length ≤ 70368744177664) :
    Calls Try.prog 22 #[.pointer (some ⟨q, 0, none⟩), .slice (some ⟨g, 0, none⟩) l.length l.length] w fun r w' => r = .returned (.tuple #[]) ∧ RS w0 w' q (L ++ tN l) (b || tE l) ∧ KeepQ w w' q := by
  have HR := Lib.hid h
  have HG := Lib.hid hg
  obtain ⟨n, hn⟩ : ∃ n, n = l.length := ⟨_, rfl⟩
  have HN := Lib.hid hn
  have hn2 : n ≤ 100 := by omega
  rw [← hn]
  clear h hg hm hn
  have H0 := Lib.hid (show RS w0 w q (L ++ tN (l.take 0)) (b || tE (l.take 0)) by simpa [tN, tE] using HR.out)
  have K0 := Lib.hid (KeepQ.refl w q)
  clear HR
  go_enter Try.func22, Try.ntmps22
  go_wp2_with fail
  go_loopw [8] (fun i wr => ∃ k : Nat, k ≤ n ∧ i = .int .i64 k ∧ Hid (RS w0 wr q (L ++ tN (l.take k)) (b || tE (l.take k))) ∧ Hid (KeepQ w wr q)) (fun i _ => n - (intOf i).toNat)
  case atStart => exact ⟨0, Nat.zero_le _, rfl, H0, K0⟩
  case round =>
    clear H0 K0
    obtain ⟨k, hk, rfl, HS, HK⟩ := hrel
    by_cases hlt : k < n
    · have hlt' : k < l.length := by rw [← HN.out]; exact hlt
      have hg2 := HK.out.2 g _ _ _ hne (by decide) HG.out
      have hc := cell_of hg2 k
      simp only [List.getElem?_toArray, List.getElem?_map, List.getElem?_eq_getElem hlt', Option.map_some] at hc
      have haa : (⟨g, 0, none⟩ : Addr).add k = ⟨g, k, none⟩ := by rw [addr_add, Nat.zero_add]
      have HT := Lib.hid (show L ++ tN (l.take (k + 1)) = (L ++ tN (l.take k)) ++ (tP l[k]).1 ∧ (b || tE (l.take (k + 1))) = ((b || tE (l.take k)) || decide ((tP l[k]).2 ≠ 0)) by rw [(tN_take hlt').1, (tN_take hlt').2, List.append_assoc, Bool.or_assoc]; exact ⟨rfl, rfl⟩)
      have hlen : (L ++ tN (l.take k)).length + 65543 ≤ 140737488355328 := by
        have h1 := tN_len (l.take k)
        have h2 := List.length_take_le k l
        rw [List.length_append]
        omega
      have HU := Lib.hid (fun w => Text_all l[k] w)
      have HUO := Lib.hid (tP_ok l[k])
      generalize l[k] = y at *
      generalize L ++ tN (l.take k) = L1 at *
      clear hg2
      go_wp2_with fail
      refine (HU.out _).mono ?_
      intro r w2 hh
      obtain ⟨A2, n2, c2, rfl, hB, hb2⟩ := hh.open HUO.out.1 (by have := HUO.out.2; omega)
      have HS2 := Lib.hid (HS.out.below hb2)
      have HK2 := Lib.hid (HK.out.trans (KeepQ.ofBelow hb2 q))
      have HB := Lib.hid hB
      clear hh hB hb2 HS HK hc
      go_wp2_with fail
      refine (rput_any HS2.out HB.out (by have := HUO.out.2; omega)).mono ?_
      rintro r w3 ⟨rfl, hr3, hk3⟩
      have HS3 := Lib.hid hr3
      have HK3 := Lib.hid (HK2.out.trans hk3)
      clear hr3 hk3
      go_wp2_with fail
      exact ⟨⟨k + 1, by omega, by go_num, by rw [HT.out.1, HT.out.2]; exact HS3, HK3⟩, by simp [intOf]; omega⟩
    · obtain rfl : k = n := by omega
      go_wp2_with fail
      go_end0
      refine ⟨rfl, ?_, HK.out⟩
      have := HS.out
      rw [show l.take k = l from List.take_of_length_le (by rw [HN.out]; exact Nat.le_refl _)] at this
      exact this

end Go.Proofs.Ytbhfbpaaghpadaa
