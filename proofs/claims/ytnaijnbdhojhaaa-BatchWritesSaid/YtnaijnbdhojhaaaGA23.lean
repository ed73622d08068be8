/- Contracts of a reader of numbers and texts: U, S, Text. No conditions. -/
import Derived.Test.YtnaijnbdhojhaaaGA22
import Derived.Laws.DeepNot64
import Derived.Test.YtnaijnbdhojhaaaGA15
set_option linter.unusedSimpArgs false
set_option linter.unusedVariables false
namespace Go.Proofs.Ytnaijnbdhojhaaa
open Go.RowKit

theorem nb_le (most : Nat) (e : Int) (l : List Nat) : (nb most e l).1 ≤ most := by
  unfold nb
  split
  · exact Nat.zero_le _
  · cases l with
    | nil => exact Nat.zero_le _
    | cons c t =>
      simp only [Dig.num1]
      split
      · exact Nat.zero_le _
      · split
        · exact Nat.zero_le _
        · split
          · exact Nat.zero_le _
          · rename_i h; simp only []; omega

/-- A number off a reader, as an int. -/
def IntR (w w' : World) (r : Ending) (lo g : Nat) (n : Int) (e : Int) (l : List Nat) : Prop :=
  r = .returned (.int .i64 n) ∧ Rdr w' lo g e l ∧ w.grownBy w' (some g)
set_option maxHeartbeats 4000000 in
theorem rdU_any {lo g : Nat} {e : Int} {l : List Nat} {w : World} (h : Rdr w lo g e l) :
    Calls Try.prog 29 #[.pointer (some ⟨g, 0, none⟩)] w fun r w' => IntR w w' r lo g ((nb 9007199254740991 e l).1 : Int) (nb 9007199254740991 e l).2.1 (nb 9007199254740991 e l).2.2 := by
  have HH := Lib.hid h
  have hle := nb_le 9007199254740991 e l
  generalize hx : nb 9007199254740991 e l = x at *
  have HX := Lib.hid hx
  clear h hx
  obtain ⟨z, e2, l2⟩ := x
  simp only at hle ⊢
  go_enter Try.func29, Try.ntmps29
  go_wp2_with fail
  refine (none_any HH.out).mono ?_
  rintro e1 w1 ⟨rfl, rfl⟩
  go_wp2_with fail
  refine (number_any 9007199254740991 (by omega) HH.out).mono ?_
  rw [HX.out]
  rintro e1 w1 ⟨rfl, hr, hg⟩
  have HR := Lib.hid hr
  have HG := Lib.hid hg
  clear hr hg HH
  go_wp2_with fail
  go_ret
  exact ⟨rfl, HR.out, HG.out⟩

/-- The number that a number stands for. -/
def zag (z : Nat) : Int := if z % 2 = 1 then -(((z : Int) + 1) / 2) else (z : Int) / 2
theorem zag_zig (n : Int) : zag (zig n) = n := by
  unfold zag zig
  by_cases h : 0 ≤ n
  · rw [if_pos h, if_neg (by omega)]; omega
  · rw [if_neg h, if_pos (by omega)]; omega
theorem zig_zag (z : Nat) : zig (zag z) = z := by
  unfold zag
  split
  · unfold zig; rw [if_neg (by omega)]; omega
  · unfold zig; rw [if_pos (by omega)]; omega
theorem i64_xor_comm (a b : Int) : bits .xor .i64 a b = bits .xor .i64 b a := by
  show IntKind.i64.wrap ((BitVec.ofInt 64 a ^^^ BitVec.ofInt 64 b).toNat : Int) = IntKind.i64.wrap ((BitVec.ofInt 64 b ^^^ BitVec.ofInt 64 a).toNat : Int)
  rw [BitVec.xor_comm]
theorem xor_zag (z : Nat) (h : z < 9223372036854775808) : bits .xor .i64 ((z : Int) / 2) (-((z % 2 : Nat) : Int)) = zag z := by
  unfold zag
  rcases Nat.mod_two_eq_zero_or_one z with h2 | h2
  · rw [h2, if_neg (by omega)]
    show IntKind.i64.wrap ((BitVec.ofInt 64 ((z : Int) / 2) ^^^ BitVec.ofInt 64 (0 : Int)).toNat : Int) = _
    rw [show BitVec.ofInt 64 (0 : Int) = 0#64 from rfl, BitVec.xor_zero]
    have : BitVec.ofInt 64 ((z : Int) / 2) = BitVec.ofNat 64 (z / 2) := by
      rw [show (z : Int) / 2 = ((z / 2 : Nat) : Int) by omega]
      exact BitVec.ofInt_natCast ..
    rw [this, BitVec.toNat_ofNat, Nat.mod_eq_of_lt (by omega)]
    simp [IntKind.wrap, IntKind.bits, IntKind.signed]
    omega
  · rw [h2, if_pos rfl, i64_xor_comm]
    rw [show (-((1 : Nat) : Int)) = -1 from rfl, show (z : Int) / 2 = ((z / 2 : Nat) : Int) by omega, i64_not _ (by omega)]
    omega
theorem and_one (z : Nat) (h : z < 9223372036854775808) : bits .and .u64 (z : Int) 1 = ((z % 2 : Nat) : Int) := by
  have := u64_and_nat z 1 (by omega) (by omega)
  rw [Nat.and_one_is_mod] at this
  exact this
set_option maxHeartbeats 4000000 in
theorem rdS_any {lo g : Nat} {e : Int} {l : List Nat} {w : World} (h : Rdr w lo g e l) :
    Calls Try.prog 94 #[.pointer (some ⟨g, 0, none⟩)] w fun r w' => IntR w w' r lo g (zag (nb 18014398509481982 e l).1) (nb 18014398509481982 e l).2.1 (nb 18014398509481982 e l).2.2 := by
  have HH := Lib.hid h
  have hle := nb_le 18014398509481982 e l
  generalize hx : nb 18014398509481982 e l = x at *
  have HX := Lib.hid hx
  clear h hx
  obtain ⟨z, e2, l2⟩ := x
  simp only at hle ⊢
  go_enter Try.func94, Try.ntmps94
  go_wp2_with fail
  refine (none_any HH.out).mono ?_
  rintro e1 w1 ⟨rfl, rfl⟩
  go_wp2_with fail
  refine (number_any 18014398509481982 (by omega) HH.out).mono ?_
  rw [HX.out]
  rintro e1 w1 ⟨rfl, hr, hg⟩
  have HR := Lib.hid hr
  have HG := Lib.hid hg
  clear hr hg HH
  have ha := and_one z (by omega)
  have hx := xor_zag z (by omega)
  have hm : z % 2 < 2 := Nat.mod_lt _ (by omega)
  generalize z % 2 = m at *
  go_wp2_with fail
  go_ret
  exact ⟨rfl, HR.out, HG.out⟩

/-- A text off a reader: the bytes, the error, what is left. -/
def txt (most : Int) (e : Int) (l : List Nat) : List Nat × Int × List Nat :=
  ((tk (if (nb 9007199254740991 e l).2.1 = 0 ∧ most < (nb 9007199254740991 e l).1 then 5 else (nb 9007199254740991 e l).2.1) (nb 9007199254740991 e l).1 (nb 9007199254740991 e l).2.2)).2
/-- .. in memory. -/
def TxtR (w w' : World) (r : Ending) (lo g : Nat) (x : List Nat × Int × List Nat) : Prop :=
  r = .returned (.string (bs x.1)) ∧ Byt x.1 ∧ x.1.length ≤ 140737488354304 ∧ Rdr w' lo g x.2.1 x.2.2 ∧ w.grownBy w' (some g)
set_option maxHeartbeats 4000000 in
theorem rdText_any {lo g : Nat} {e : Int} {l : List Nat} {w : World} (most : Int) (h : Rdr w lo g e l) :
    Calls Try.prog 31 #[.pointer (some ⟨g, 0, none⟩), .int .i64 most] w fun r w' => TxtR w w' r lo g (txt most e l) := by
  have HH := Lib.hid h
  unfold txt
  generalize hx : nb 9007199254740991 e l = x
  have HX := Lib.hid hx
  clear h hx
  obtain ⟨z, e2, l2⟩ := x
  simp only
  generalize hR : (tk (if e2 = 0 ∧ most < (z : Int) then (5 : Int) else e2) (z : Int) l2).2 = R
  have HR := Lib.hid hR
  clear hR
  go_enter Try.func31, Try.ntmps31
  go_wp2_with fail
  refine (rdU_any HH.out).mono ?_
  rw [HX.out]
  rintro e1 w1 ⟨rfl, hr, hg⟩
  have H1 := Lib.hid hr
  have G1 := Lib.hid hg
  clear hr hg HH
  go_wp2_with fail
  refine (none_any H1.out).mono ?_
  rintro e1 w1 ⟨rfl, rfl⟩
  by_cases hm : most < (z : Int)
  · go_wp2_with fail
    refine (Fail_any 5 H1.out).mono ?_
    rintro e1 w3 ⟨rfl, hr, hg⟩
    have H2 := Lib.hid hr
    have G2 := Lib.hid (G1.out.trans hg)
    clear hr hg H1 G1
    have hif : (if e2 = 0 ∧ most < (z : Int) then (5 : Int) else e2) = (if e2 = 0 then 5 else e2) := by
      by_cases h : e2 = 0 <;> simp [h, hm]
    have HI := Lib.hid hif
    clear hif
    generalize (if e2 = 0 then (5 : Int) else e2) = e3 at *
    go_wp2_with fail
    refine (take_any z H2.out).mono ?_
    rintro e1 w2 ⟨A1, n1, a1, rfl, hb1, hbl, hr, hgr⟩
    have H3 := Lib.hid hr
    have HB := Lib.hid hb1
    have HG := Lib.hid hgr
    have hcv := conv_back hb1
    clear hb1 hr hgr
    go_wp2_with fail
    go_ret
    rw [← HR.out, HI.out]
    exact ⟨rfl, HB.out.byt, HB.out.lim, H3.out, G2.out.trans HG.out⟩
  · have hif : (if e2 = 0 ∧ most < (z : Int) then (5 : Int) else e2) = e2 := if_neg (fun h => hm h.2)
    have HI := Lib.hid hif
    clear hif
    go_wp2_with fail
    refine (take_any z H1.out).mono ?_
    rintro e1 w2 ⟨A1, n1, a1, rfl, hb1, hbl, hr, hgr⟩
    have H3 := Lib.hid hr
    have HB := Lib.hid hb1
    have HG := Lib.hid hgr
    have hcv := conv_back hb1
    clear hb1 hr hgr
    go_wp2_with fail
    go_ret
    rw [← HR.out, HI.out]
    exact ⟨rfl, HB.out.byt, HB.out.lim, H3.out, G1.out.trans HG.out⟩
end Go.Proofs.Ytnaijnbdhojhaaa
/- Contracts of the document's own reader: New, Fail, Left, number. No conditions. -/
set_option linter.unusedSimpArgs false
set_option linter.unusedVariables false
namespace Go.Proofs.Ytnaijnbdhojhaaa
open Go.RowKit

/-- The document's reader in memory: its block, the first of its blocks, the error, what is left. -/
def Rfr (w : World) (lo g : Nat) (e : Int) (l : List Nat) : Prop :=
  ∃ A n c m, w.heap[g]? = some (.cells #[.slice A n c, .int .i64 e] 69 (0, 0)) ∧ lo ≤ g ∧ BS w A n c m ∧ (e = 0 → m = l) ∧ (∀ ad, A = some ad → lo ≤ ad.block ∧ ad.block < g)

set_option maxHeartbeats 4000000 in
theorem refNew_any (A : Option Addr) (n c : Nat) (l : List Nat) (w : World) (h : BS w A n c l) :
    Calls Try.prog 34 #[.slice A n c] w fun e w' => ∃ g, e = .returned (.pointer (some ⟨g, 0, none⟩)) ∧ Rfr w' w.heap.size g 0 l ∧ Below w.heap.size w w' := by
  have hbyt := h.byt
  have hlim := h.lim
  go_enter Try.func34, Try.ntmps34
  go_wp2_with fail
  refine (copyBytes_any A n c l _ h).mono ?_
  rintro e w1 ⟨v, rfl, ho, hb⟩
  obtain ⟨A1, n1, c1, rfl, h1, h2⟩ := ownsRow_bs ho hbyt hlim
  go_wp2_with fail
  go_ret
  refine ⟨w1.heap.size, rfl, ⟨A1, n1, c1, l, heap_alloc_new w1 _, hb.size, h1.newBlock _, fun _ => rfl, h2⟩, hb.alloc hb.size _⟩

theorem Rfr.lt {w : World} {lo g : Nat} {e : Int} {l : List Nat} (h : Rfr w lo g e l) : lo ≤ g ∧ g < w.heap.size := by
  obtain ⟨A, n, c, m, h1, h2, _⟩ := h
  exact ⟨h2, (Array.getElem?_eq_some_iff.1 h1).1⟩
theorem Rfr.grown {w w' : World} {lo g : Nat} {e : Int} {l : List Nat} {row : Option Nat} (h : Rfr w lo g e l) (hg : w.grownBy w' row) (hr : ∀ k, row = some k → k < lo ∨ g < k) : Rfr w' lo g e l := by
  have hlt := h.lt.2
  obtain ⟨A, n, c, m, h1, h2, h3, h4, h5⟩ := h
  refine ⟨A, n, c, m, ?_, h2, ?_, h4, h5⟩
  · rw [hg.block g hlt (fun e => by have := hr g e.symm; omega)]; exact h1
  · exact h3.grown hg fun ad k e e2 => by have := h5 ad e; have := hr k e2; omega
theorem Rfr.below {w w' : World} {lo g : Nat} {e : Int} {l : List Nat} (h : Rfr w lo g e l) (hb : Below w.heap.size w w') : Rfr w' lo g e l :=
  h.grown (row := none) (grown_of_below hb _) (fun k h => by cases h)
theorem Rfr.set1 {w : World} {lo g : Nat} {e : Int} {l : List Nat} (h : Rfr w lo g e l) (k : Int) (l' : List Nat) (hl : k = 0 → e = 0 ∧ l' = l) : Rfr (w.setCell ⟨g, 1, none⟩ (.int .i64 k)) lo g k l' := by
  obtain ⟨A, n, c, m, h1, h2, h3, h4, h5⟩ := h
  refine ⟨A, n, c, m, ?_, h2, h3.grown (grown_set w g 1 _) (fun ad k e e2 => by cases e2; have := h5 ad e; omega), fun hk => (h4 (hl hk).1).trans (hl hk).2.symm, h5⟩
  rw [heap_set h1]; rfl
theorem Rfr.any {w : World} {lo g : Nat} {e : Int} {l : List Nat} (h : Rfr w lo g e l) (he : e ≠ 0) (l' : List Nat) : Rfr w lo g e l' := by
  obtain ⟨A, n, c, m, h1, h2, h3, h4, h5⟩ := h
  exact ⟨A, n, c, m, h1, h2, h3, fun h => absurd h he, h5⟩
/-- What stands in it, opened. -/
theorem Rfr.open {w : World} {lo g : Nat} {e : Int} {l : List Nat} (h : Rfr w lo g e l) :
    ∃ A n c m, w.cell? ⟨g, 0, none⟩ = some (.slice A n c) ∧ w.cell? ⟨g, 1, none⟩ = some (.int .i64 e) ∧ w.frozen? ⟨g, 0, none⟩ = false ∧ w.frozen? ⟨g, 1, none⟩ = false ∧ BS w A n c m ∧ (e = 0 → m = l) ∧
      (∀ ad, A = some ad → lo ≤ ad.block ∧ ad.block < g) := by
  obtain ⟨A, n, c, m, h1, h2, h3, h4, h5⟩ := h
  have c0 := cell_of h1 0
  have c1 := cell_of h1 1
  simp at c0 c1
  exact ⟨A, n, c, m, c0, c1, frozen_of h1 0, frozen_of h1 1, h3, h4, h5⟩
theorem Rfr.bs {w : World} {lo g : Nat} {l : List Nat} (h : Rfr w lo g 0 l) {A : Option Addr} {n c : Nat} (hc : w.cell? ⟨g, 0, none⟩ = some (.slice A n c)) : BS w A n c l ∧ (∀ ad, A = some ad → lo ≤ ad.block ∧ ad.block < g) := by
  obtain ⟨A', n', c', m, c0, _, _, _, h3, h4, h5⟩ := h.open
  rw [c0] at hc
  injection hc with hc
  injection hc with e1 e2 e3
  subst e1 e2 e3
  obtain rfl := h4 rfl
  exact ⟨h3, h5⟩
theorem Rfr.drop {w : World} {lo g : Nat} {l : List Nat} (h : Rfr w lo g 0 l) {A : Option Addr} {n c : Nat} (hc : w.cell? ⟨g, 0, none⟩ = some (.slice A n c)) {k : Nat} (hk : k ≤ l.length) : Rfr (w.setCell ⟨g, 0, none⟩ (.slice (dropA A c k) (n - k) (c - k))) lo g 0 (l.drop k) := by
  obtain ⟨h3, h5⟩ := h.bs hc
  obtain ⟨A', n', c', m, h1, h2, _⟩ := h
  refine ⟨dropA A c k, n - k, c - k, l.drop k, ?_, h2, (h3.grown (grown_set w g 0 _) (fun ad k e e2 => by cases e2; have := h5 ad e; omega)).dropA hk, fun _ => rfl, ?_⟩
  · rw [heap_set h1]; rfl
  · intro ad e
    unfold dropA at e
    split at e
    · exact h5 ad e
    · cases A with
      | none => cases e
      | some a => cases e; rw [block_add]; exact h5 a rfl
set_option maxHeartbeats 4000000 in
theorem refFail_any {lo g : Nat} {e : Int} {l : List Nat} {w : World} (k : Int) (h : Rfr w lo g e l) :
    Calls Try.prog 73 #[.pointer (some ⟨g, 0, none⟩), .int .i64 k] w fun r w' => r = .returned (.tuple #[]) ∧ Rfr w' lo g (if e = 0 then k else e) l ∧ w.grownBy w' (some g) := by
  have HH := Lib.hid h
  obtain ⟨A, n, c, m, c0, c1, f0, f1, _⟩ := h.open
  clear h
  by_cases he : e = 0
  · subst he
    go_enter Try.func73, Try.ntmps73
    go_wp2_with fail
    go_end0
    exact ⟨rfl, HH.out.set1 k l (fun _ => ⟨rfl, rfl⟩), grown_set _ _ _ _⟩
  · go_enter Try.func73, Try.ntmps73
    go_wp2_with fail
    go_end0
    exact ⟨rfl, HH.out, grown_refl _ _⟩
set_option maxHeartbeats 4000000 in
theorem refLeft_any {lo g : Nat} {e : Int} {l : List Nat} {w : World} (h : Rfr w lo g e l) :
    Calls Try.prog 38 #[.pointer (some ⟨g, 0, none⟩)] w fun r w' => r = .returned (.int .i64 ((if e = 0 then l.length else 0 : Nat) : Int)) ∧ w = w' := by
  obtain ⟨A, n, c, m, c0, c1, f0, f1, hb, hl, _⟩ := h.open
  have hn := hb.len
  clear h hb
  by_cases he : e = 0
  · subst he
    have := hl rfl
    subst this
    go_enter Try.func38, Try.ntmps38
    go_wp2_with fail
    go_ret
    exact ⟨rfl, rfl⟩
  · rw [if_neg he]
    clear hl
    go_enter Try.func38, Try.ntmps38
    go_wp2_with fail
    go_ret
    exact ⟨rfl, rfl⟩
end Go.Proofs.Ytnaijnbdhojhaaa
/- A reader over written numbers; worlds that only one block grew. No conditions. -/
set_option linter.unusedSimpArgs false
set_option linter.unusedVariables false
namespace Go.Proofs.Ytnaijnbdhojhaaa
open Go.RowKit

theorem nb_enc (most n : Nat) (h : n < 72057594037927936) (hm : n ≤ most) (l : List Nat) : nb most 0 (Dig.enc n ++ l) = (n, 0, l) := by
  unfold nb
  rw [if_neg (by simp), Dig.num1_enc most n h hm]
  rfl
theorem grown_bel {w0 a b : World} {g : Nat} (h : Below w0.heap.size w0 a) (hg : a.grownBy b (some g)) (hw : w0.heap.size ≤ g) : Below w0.heap.size w0 b := h.grown hg h.size (fun k e => by cases e; exact hw)
end Go.Proofs.Ytnaijnbdhojhaaa
