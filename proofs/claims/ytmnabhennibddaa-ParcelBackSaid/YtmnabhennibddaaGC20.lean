/- parcel.Next: its contract. No conditions. -/
import Derived.Test.YtmnabhennibddaaGC19
import Derived.Deep.RegionHeld3
import Derived.WalkMore
set_option linter.unusedSimpArgs false
set_option linter.unusedVariables false
namespace Go.Proofs.Ytmnabhennibddaa
open Go.RowKit

/-- What Next answers. -/
def nxP (l : List Nat) : Nat × List Nat × List Nat × Int :=
  if (fstP l).2 = 0 then ((fstP l).1.1, (fstP l).1.2.1, l.drop (fstP l).1.2.2, 0) else (0, [], [], (fstP l).2)
/-- .. in memory. -/
def NextR (w w' : World) (r : Ending) (x : Nat × List Nat × List Nat × Int) : Prop :=
  ∃ v u, r = .returned (.tuple #[.int .i64 (x.1 : Int), v, u, .int .i64 x.2.2.2]) ∧ w'.ownsRow w.heap.size 5 1 v x.2.1.length (bv x.2.1) ∧ w'.ownsRow w.heap.size 5 1 u x.2.2.1.length (bv x.2.2.1) ∧ Below w.heap.size w w'

theorem fr_keep {w0 a : World} {q : Nat} {k : Int} {v : Value} {s : Int} (h : FR w0 q k v s) (hb : Below w0.heap.size w0 a) :
    Below w0.heap.size w0 a ∧ a.cell? ⟨q, 0, none⟩ = some (.int .i64 k) ∧ a.cell? ⟨q, 1, none⟩ = some v ∧ a.cell? ⟨q, 2, none⟩ = some (.int .i64 s) := by
  have h2 := h.grown (grown_of_below hb none) (fun j hj => by cases hj)
  exact ⟨hb, h2.cells.1, h2.cells.2.1, h2.cells.2.2⟩

set_option maxHeartbeats 8000000 in
set_option maxRecDepth 100000 in
theorem next_any {A : Option Addr} {n c : Nat} {l : List Nat} {w : World} (h : BS w A n c l) :
    Calls Try.prog 8 #[.slice A n c] w fun r w' => NextR w w' r (nxP l) := by
  obtain ⟨X, hX⟩ : ∃ X, X = nxP l := ⟨_, rfl⟩
  rw [← hX]
  unfold nxP at hX
  have hok := fstP_ok h.byt
  have hno := fstP_no l
  obtain rfl := h.len
  have hcl := h.le
  have HF := Lib.hid (first_any h)
  have HL := Lib.hid h
  clear h
  have HF0 := HF.out
  clear HF
  generalize fstP l = x at *
  obtain ⟨⟨k, b, s⟩, e⟩ := x
  have HF := Lib.hid HF0
  simp only at hok hX hno
  have HOK := Lib.hid hok
  have HX := Lib.hid hX
  have HNO := Lib.hid hno
  clear HF0 hok hX hno
  go_enter Try.func8, Try.ntmps8
  go_wp2_with fail
  refine HF.out.mono ?_
  rintro r w1 ⟨v, rfl, ho, hb1⟩
  simp only at ho ⊢
  by_cases h1 : e = 0
  · subst h1
    obtain ⟨hl1, hk, hbl, hsl⟩ := HOK.out rfl
    have hx0 := HX.out.trans (if_pos rfl)
    have hsl2 : s ≤ l.length := by
      have := congrArg List.length hl1
      rw [List.length_append, ← hsl] at this
      omega
    have hby : Byt b := by
      have := HL.out.byt
      rw [hl1] at this
      intro x hx
      exact this x (List.mem_append_left _ (List.mem_append_left _ (List.mem_append_right _ (List.mem_append_right _ hx))))
    obtain ⟨A1, n1, c1, rfl, _, _⟩ := ownsRow_bs ho hby (by omega)
    have HX0 := Lib.hid hx0
    have HO1 := Lib.hid ho
    have hbd1 : (s : Int) ≤ (l.length : Int) := by omega
    have hs1 : ∀ w : World, (Instr.slice 22 (.slice A l.length c) (some (.int .i64 (s : Int))) none none).run Try.prog w = .ok (.slice (dropA A c s) (l.length - s) (c - s)) w := fun w => slice_drop hsl2 hcl
    have K1 := Lib.hid ((HL.out.below hb1).dropA (k := s) hsl2)
    have HB1 := Lib.hid hb1
    clear hl1 hk hbl hsl hx0 hby ho HX HOK HF
    generalize dropA A c s = D at *
    generalize l.length - s = ns at *
    have F2 : FR (w1.alloc (.cells #[.int .i64 k, .slice A1 n1 c1, .int .i64 s] 59)) w1.heap.size k (.slice A1 n1 c1) s := heap_alloc_new w1 _
    have HF2 := Lib.hid F2
    clear F2 hb1
    clear HNO
    go_wp2_with fail
    go_region_held3 (fun w' => Below (w1.alloc (.cells #[.int .i64 k, .slice A1 n1 c1, .int .i64 s] 59)).heap.size (w1.alloc (.cells #[.int .i64 k, .slice A1 n1 c1, .int .i64 s] 59)) w' ∧ w'.cell? ⟨w1.heap.size, 0, none⟩ = some (.int .i64 k) ∧ w'.cell? ⟨w1.heap.size, 1, none⟩ = some (.slice A1 n1 c1) ∧ w'.cell? ⟨w1.heap.size, 2, none⟩ = some (.int .i64 s))
      (first | exact fr_keep HF2.out (bel0 _).drew | exact fr_keep HF2.out (nx (And.left (b := _) (by assumption)) (by assumption)))
      (first | (go_at_call 28; (with_reducible refine (clone_any D ns (c - s) _ _ ((K1.out.newBlock _).below (And.left (by assumption)))).mono ?_); rintro e wb ⟨u, rfl, hou, hbb⟩))
    rename_i hK
    have hb2 := And.left (b := _) hK
    clear hK HF2 K1 hs1 HL
    go_wp2_with fail
    refine bodyPost_ret (by simp [results, Try.results8, go_sem]; try rfl) rfl ?_
    rw [HX0.out]
    have h5 : w.heap.size ≤ (w1.alloc (.cells #[.int .i64 k, .slice A1 n1 c1, .int .i64 s] 59)).drew.heap.size := by
      have := HB1.out.size
      show _ ≤ (w1.alloc _).heap.size
      simp
      omega
    exact ⟨_, _, rfl, ownsRow_below (HO1.out.alloc _) hb2, ownsRow_base hou h5, nxA HB1.out hb2⟩
  · have h1' : (e != 0) = true := by simp; exact h1
    have hx0 := HX.out.trans (if_neg h1)
    have HX0 := Lib.hid hx0
    have hb0 := (HNO.out h1).1
    injection hb0 with e1 e2
    injection e2 with e2 e3
    subst e1 e2 e3
    obtain ⟨A1, n1, c1, rfl, _, _⟩ := ownsRow_bs ho (by intro x hx; cases hx) (by simp)
    clear hx0 HX HOK HF HNO
    go_wp2_with fail
    refine bodyPost_ret (by simp [results, Try.results8, go_sem]; try rfl) rfl ?_
    rw [HX0.out]
    exact ⟨_, _, rfl, World.ownsRow_nil _ _ _ _, World.ownsRow_nil _ _ _ _, hb1.alloc hb1.size _⟩

theorem NextR.open {w w' : World} {r : Ending} {k : Nat} {b t : List Nat} {e : Int} (h : NextR w w' r (k, b, t, e)) (hb : Byt b) (hbl : b.length ≤ 140737488354304) (ht : Byt t) (htl : t.length ≤ 140737488354304) :
    ∃ A n c B m d, r = .returned (.tuple #[.int .i64 (k : Int), .slice A n c, .slice B m d, .int .i64 e]) ∧ BS w' A n c b ∧ BS w' B m d t ∧ w'.ownsRow w.heap.size 5 1 (.slice A n c) b.length (bv b) ∧ w'.ownsRow w.heap.size 5 1 (.slice B m d) t.length (bv t) ∧ Below w.heap.size w w' := by
  obtain ⟨v, u, rfl, h1, h2, h3⟩ := h
  obtain ⟨A, n, c, rfl, h4, _⟩ := ownsRow_bs h1 hb hbl
  obtain ⟨B, m, d, rfl, h5, _⟩ := ownsRow_bs h2 ht htl
  exact ⟨A, n, c, B, m, d, rfl, h4, h5, h1, h2, h3⟩
theorem nxP_byt {l : List Nat} (h : Byt l) : Byt (nxP l).2.1 ∧ Byt (nxP l).2.2.1 ∧ (nxP l).2.1.length ≤ 65536 ∧ (nxP l).2.2.1.length ≤ l.length := by
  unfold nxP
  split
  · rename_i h1
    obtain ⟨e, hk, hb, _⟩ := fstP_ok h h1
    refine ⟨?_, h.drop _, hb, by simp only; rw [List.length_drop]; omega⟩
    intro x hx
    rw [e] at h
    exact h x (List.mem_append_left _ (List.mem_append_left _ (List.mem_append_right _ (List.mem_append_right _ hx))))
  · exact ⟨(by intro x hx; cases hx), (by intro x hx; cases hx), by simp, by simp⟩
end Go.Proofs.Ytmnabhennibddaa
