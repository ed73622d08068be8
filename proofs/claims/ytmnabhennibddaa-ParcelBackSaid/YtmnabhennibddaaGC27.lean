/- Contracts of the document's own reader: New, Fail, Left, number. No conditions. -/
import Derived.Test.YtmnabhennibddaaGC16
import Derived.Test.YtmnabhennibddaaGC09
set_option linter.unusedSimpArgs false
set_option linter.unusedVariables false
namespace Go.Proofs.Ytmnabhennibddaa
open Go.RowKit

/-- The document's reader in memory: its block, the first of its blocks, the error, what is left. -/
def Rfr (w : World) (lo g : Nat) (e : Int) (l : List Nat) : Prop :=
  ∃ A n c m, w.heap[g]? = some (.cells #[.slice A n c, .int .i64 e] 66 (0, 0)) ∧ lo ≤ g ∧ BS w A n c m ∧ (e = 0 → m = l) ∧ (∀ ad, A = some ad → lo ≤ ad.block ∧ ad.block < g)
set_option maxHeartbeats 4000000 in
theorem refNew_any (A : Option Addr) (n c : Nat) (l : List Nat) (w : World) (h : BS w A n c l) :
    Calls Try.prog 29 #[.slice A n c] w fun e w' => ∃ g, e = .returned (.pointer (some ⟨g, 0, none⟩)) ∧ Rfr w' w.heap.size g 0 l ∧ Below w.heap.size w w' := by
  have hbyt := h.byt
  have hlim := h.lim
  go_enter Try.func29, Try.ntmps29
  go_wp2_with fail
  refine (copyBytes_any A n c l _ h).mono ?_
  rintro e w1 ⟨v, rfl, ho, hb⟩
  obtain ⟨A1, n1, c1, rfl, h1, h2⟩ := ownsRow_bs ho hbyt hlim
  go_wp2_with fail
  go_ret
  refine ⟨w1.heap.size, rfl, ⟨A1, n1, c1, l, heap_alloc_new w1 _, hb.size, h1.newBlock _, fun _ => rfl, h2⟩, hb.alloc hb.size _⟩
theorem Rfr.lt {w : World} {lo g : Nat} {e : Int} {l : List Nat} (h : Rfr w lo g e l) : lo ≤ g ∧ g < w.heap.size := by
  obtain ⟨A, n, c, m, h1, h2, _⟩ := h
  exact ⟨h2, (Array.getElem?_eq_some_iff.1 h1).1⟩
theorem Rfr.grown {w w' : World} {lo g : Nat} {e : Int} {l : List Nat} {row : Option Nat} (h : Rfr w lo g e l) (hg : w.grownBy w' row) (hr : ∀ k, row = some k → k < lo ∨ g < k) : Rfr w' lo g e l := by
  have hlt := h.lt.2
  obtain ⟨A, n, c, m, h1, h2, h3, h4, h5⟩ := h
  refine ⟨A, n, c, m, ?_, h2, ?_, h4, h5⟩
  · rw [hg.block g hlt (fun e => by have := hr g e.symm; omega)]; exact h1
  · exact h3.grown hg fun ad k e e2 => by have := h5 ad e; have := hr k e2; omega
theorem Rfr.below {w w' : World} {lo g : Nat} {e : Int} {l : List Nat} (h : Rfr w lo g e l) (hb : Below w.heap.size w w') : Rfr w' lo g e l :=
  h.grown (row := none) (grown_of_below hb _) (fun k h => by cases h)
theorem Rfr.set1 {w : World} {lo g : Nat} {e : Int} {l : List Nat} (h : Rfr w lo g e l) (k : Int) (l' : List Nat) (hl : k = 0 → e = 0 ∧ l' = l) : Rfr (w.setCell ⟨g, 1, none⟩ (.int .i64 k)) lo g k l' := by
  obtain ⟨A, n, c, m, h1, h2, h3, h4, h5⟩ := h
  refine ⟨A, n, c, m, ?_, h2, h3.grown (grown_set w g 1 _) (fun ad k e e2 => by cases e2; have := h5 ad e; omega), fun hk => (h4 (hl hk).1).trans (hl hk).2.symm, h5⟩
  rw [heap_set h1]; rfl
theorem Rfr.any {w : World} {lo g : Nat} {e : Int} {l : List Nat} (h : Rfr w lo g e l) (he : e ≠ 0) (l' : List Nat) : Rfr w lo g e l' := by
  obtain ⟨A, n, c, m, h1, h2, h3, h4, h5⟩ := h
  exact ⟨A, n, c, m, h1, h2, h3, fun h => absurd h he, h5⟩
/-- What stands in it, opened. -/
theorem Rfr.open {w : World} {lo g : Nat} {e : Int} {l : List Nat} (h : Rfr w lo g e l) :
    ∃ A n c m, w.cell? ⟨g, 0, none⟩ = some (.slice A n c) ∧ w.cell? ⟨g, 1, none⟩ = some (.int .i64 e) ∧ w.frozen? ⟨g, 0, none⟩ = false ∧ w.frozen? ⟨g, 1, none⟩ = false ∧ BS w A n c m ∧ (e = 0 → m = l) ∧
      (∀ ad, A = some ad → lo ≤ ad.block ∧ ad.block < g) := by
  obtain ⟨A, n, c, m, h1, h2, h3, h4, h5⟩ := h
  have c0 := cell_of h1 0
  have c1 := cell_of h1 1
  simp at c0 c1
  exact ⟨A, n, c, m, c0, c1, frozen_of h1 0, frozen_of h1 1, h3, h4, h5⟩
theorem Rfr.bs {w : World} {lo g : Nat} {l : List Nat} (h : Rfr w lo g 0 l) {A : Option Addr} {n c : Nat} (hc : w.cell? ⟨g, 0, none⟩ = some (.slice A n c)) : BS w A n c l ∧ (∀ ad, A = some ad → lo ≤ ad.block ∧ ad.block < g) := by
  obtain ⟨A', n', c', m, c0, _, _, _, h3, h4, h5⟩ := h.open
  rw [c0] at hc
  injection hc with hc
  injection hc with e1 e2 e3
  subst e1 e2 e3
  obtain rfl := h4 rfl
  exact ⟨h3, h5⟩
theorem Rfr.drop {w : World} {lo g : Nat} {l : List Nat} (h : Rfr w lo g 0 l) {A : Option Addr} {n c : Nat} (hc : w.cell? ⟨g, 0, none⟩ = some (.slice A n c)) {k : Nat} (hk : k ≤ l.length) : Rfr (w.setCell ⟨g, 0, none⟩ (.slice (dropA A c k) (n - k) (c - k))) lo g 0 (l.drop k) := by
  obtain ⟨h3, h5⟩ := h.bs hc
  obtain ⟨A', n', c', m, h1, h2, _⟩ := h
  refine ⟨dropA A c k, n - k, c - k, l.drop k, ?_, h2, (h3.grown (grown_set w g 0 _) (fun ad k e e2 => by cases e2; have := h5 ad e; omega)).dropA hk, fun _ => rfl, ?_⟩
  · rw [heap_set h1]; rfl
  · intro ad e
    unfold dropA at e
    split at e
    · exact h5 ad e
    · cases A with
      | none => cases e
      | some a => cases e; rw [block_add]; exact h5 a rfl
set_option maxHeartbeats 4000000 in
theorem refLeft_any {lo g : Nat} {e : Int} {l : List Nat} {w : World} (h : Rfr w lo g e l) :
    Calls Try.prog 31 #[.pointer (some ⟨g, 0, none⟩)] w fun r w' => r = .returned (.int .i64 ((if e = 0 then l.length else 0 : Nat) : Int)) ∧ w = w' := by
  obtain ⟨A, n, c, m, c0, c1, f0, f1, hb, hl, _⟩ := h.open
  have hn := hb.len
  clear h hb
  by_cases he : e = 0
  · subst he
    have := hl rfl
    subst this
    go_enter Try.func31, Try.ntmps31
    go_wp2_with fail
    go_ret
    exact ⟨rfl, rfl⟩
  · rw [if_neg he]
    clear hl
    go_enter Try.func31, Try.ntmps31
    go_wp2_with fail
    go_ret
    exact ⟨rfl, rfl⟩
end Go.Proofs.Ytmnabhennibddaa
