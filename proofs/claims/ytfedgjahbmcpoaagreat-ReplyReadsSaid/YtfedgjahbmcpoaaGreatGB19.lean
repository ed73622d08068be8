/- Contracts of a reader of numbers and texts: U, S, Text. No conditions. -/
import Derived.Test.YtfedgjahbmcpoaaGreatGB15
import Derived.Laws.DeepNot64
import Derived.Test.YtfedgjahbmcpoaaGreatGB08
set_option linter.unusedSimpArgs false
set_option linter.unusedVariables false
namespace Go.Proofs.YtfedgjahbmcpoaaGreat
open Go.RowKit

theorem nb_le (most : Nat) (e : Int) (l : List Nat) : (nb most e l).1 ≤ most := by
  unfold nb
  split
  · exact Nat.zero_le _
  · cases l with
    | nil => exact Nat.zero_le _
    | cons c t =>
      simp only [Dig.num1]
      split
      · exact Nat.zero_le _
      · split
        · exact Nat.zero_le _
        · split
          · exact Nat.zero_le _
          · rename_i h; simp only []; omega

/-- A number off a reader, as an int. -/
def IntR (w w' : World) (r : Ending) (lo g : Nat) (n : Int) (e : Int) (l : List Nat) : Prop :=
  r = .returned (.int .i64 n) ∧ Rdr w' lo g e l ∧ w.grownBy w' (some g)
set_option maxHeartbeats 4000000 in
theorem rdU_any {lo g : Nat} {e : Int} {l : List Nat} {w : World} (h : Rdr w lo g e l) :
    Calls Tryz.prog 19 #[.pointer (some ⟨g, 0, none⟩)] w fun r w' => IntR w w' r lo g ((nb 9007199254740991 e l).1 : Int) (nb 9007199254740991 e l).2.1 (nb 9007199254740991 e l).2.2 := by
  have HH := Lib.hid h
  have hle := nb_le 9007199254740991 e l
  generalize hx : nb 9007199254740991 e l = x at *
  have HX := Lib.hid hx
  clear h hx
  obtain ⟨z, e2, l2⟩ := x
  simp only at hle ⊢
  go_enter Tryz.func19, Tryz.ntmps19
  go_wp2_with fail
  refine (none_any HH.out).mono ?_
  rintro e1 w1 ⟨rfl, rfl⟩
  go_wp2_with fail
  refine (number_any 9007199254740991 (by omega) HH.out).mono ?_
  rw [HX.out]
  rintro e1 w1 ⟨rfl, hr, hg⟩
  have HR := Lib.hid hr
  have HG := Lib.hid hg
  clear hr hg HH
  go_wp2_with fail
  go_ret
  exact ⟨rfl, HR.out, HG.out⟩

/-- The number that a number stands for. -/
def zag (z : Nat) : Int := if z % 2 = 1 then -(((z : Int) + 1) / 2) else (z : Int) / 2
theorem zag_zig (n : Int) : zag (zig n) = n := by
  unfold zag zig
  by_cases h : 0 ≤ n
  · rw [if_pos h, if_neg (by omega)]; omega
  · rw [if_neg h, if_pos (by omega)]; omega
theorem zig_zag (z : Nat) : zig (zag z) = z := by
  unfold zag
  split
  · unfold zig; rw [if_neg (by omega)]; omega
  · unfold zig; rw [if_pos (by omega)]; omega
theorem i64_xor_comm (a b : Int) : bits .xor .i64 a b = bits .xor .i64 b a := by
  show IntKind.i64.wrap ((BitVec.ofInt 64 a ^^^ BitVec.ofInt 64 b).toNat : Int) = IntKind.i64.wrap ((BitVec.ofInt 64 b ^^^ BitVec.ofInt 64 a).toNat : Int)
  rw [BitVec.xor_comm]
theorem xor_zag (z : Nat) (h : z < 9223372036854775808) : bits .xor .i64 ((z : Int) / 2) (-((z % 2 : Nat) : Int)) = zag z := by
  unfold zag
  rcases Nat.mod_two_eq_zero_or_one z with h2 | h2
  · rw [h2, if_neg (by omega)]
    show IntKind.i64.wrap ((BitVec.ofInt 64 ((z : Int) / 2) ^^^ BitVec.ofInt 64 (0 : Int)).toNat : Int) = _
    rw [show BitVec.ofInt 64 (0 : Int) = 0#64 from rfl, BitVec.xor_zero]
    have : BitVec.ofInt 64 ((z : Int) / 2) = BitVec.ofNat 64 (z / 2) := by
      rw [show (z : Int) / 2 = ((z / 2 : Nat) : Int) by omega]
      exact BitVec.ofInt_natCast ..
    rw [this, BitVec.toNat_ofNat, Nat.mod_eq_of_lt (by omega)]
    simp [IntKind.wrap, IntKind.bits, IntKind.signed]
    omega
  · rw [h2, if_pos rfl, i64_xor_comm]
    rw [show (-((1 : Nat) : Int)) = -1 from rfl, show (z : Int) / 2 = ((z / 2 : Nat) : Int) by omega, i64_not _ (by omega)]
    omega
theorem and_one (z : Nat) (h : z < 9223372036854775808) : bits .and .u64 (z : Int) 1 = ((z % 2 : Nat) : Int) := by
  have := u64_and_nat z 1 (by omega) (by omega)
  rw [Nat.and_one_is_mod] at this
  exact this
set_option maxHeartbeats 4000000 in
theorem rdS_any {lo g : Nat} {e : Int} {l : List Nat} {w : World} (h : Rdr w lo g e l) :
    Calls Tryz.prog 71 #[.pointer (some ⟨g, 0, none⟩)] w fun r w' => IntR w w' r lo g (zag (nb 18014398509481982 e l).1) (nb 18014398509481982 e l).2.1 (nb 18014398509481982 e l).2.2 := by
  have HH := Lib.hid h
  have hle := nb_le 18014398509481982 e l
  generalize hx : nb 18014398509481982 e l = x at *
  have HX := Lib.hid hx
  clear h hx
  obtain ⟨z, e2, l2⟩ := x
  simp only at hle ⊢
  go_enter Tryz.func71, Tryz.ntmps71
  go_wp2_with fail
  refine (none_any HH.out).mono ?_
  rintro e1 w1 ⟨rfl, rfl⟩
  go_wp2_with fail
  refine (number_any 18014398509481982 (by omega) HH.out).mono ?_
  rw [HX.out]
  rintro e1 w1 ⟨rfl, hr, hg⟩
  have HR := Lib.hid hr
  have HG := Lib.hid hg
  clear hr hg HH
  have ha := and_one z (by omega)
  have hx := xor_zag z (by omega)
  have hm : z % 2 < 2 := Nat.mod_lt _ (by omega)
  generalize z % 2 = m at *
  go_wp2_with fail
  go_ret
  exact ⟨rfl, HR.out, HG.out⟩

/-- A text off a reader: the bytes, the error, what is left. -/
def txt (most : Int) (e : Int) (l : List Nat) : List Nat × Int × List Nat :=
  ((tk (if (nb 9007199254740991 e l).2.1 = 0 ∧ most < (nb 9007199254740991 e l).1 then 5 else (nb 9007199254740991 e l).2.1) (nb 9007199254740991 e l).1 (nb 9007199254740991 e l).2.2)).2
/-- .. in memory. -/
def TxtR (w w' : World) (r : Ending) (lo g : Nat) (x : List Nat × Int × List Nat) : Prop :=
  r = .returned (.string (bs x.1)) ∧ Byt x.1 ∧ x.1.length ≤ 140737488354304 ∧ Rdr w' lo g x.2.1 x.2.2 ∧ w.grownBy w' (some g)
set_option maxHeartbeats 4000000 in
theorem rdText_any {lo g : Nat} {e : Int} {l : List Nat} {w : World} (most : Int) (h : Rdr w lo g e l) :
    Calls Tryz.prog 69 #[.pointer (some ⟨g, 0, none⟩), .int .i64 most] w fun r w' => TxtR w w' r lo g (txt most e l) := by
  have HH := Lib.hid h
  unfold txt
  generalize hx : nb 9007199254740991 e l = x
  have HX := Lib.hid hx
  clear h hx
  obtain ⟨z, e2, l2⟩ := x
  simp only
  generalize hR : (tk (if e2 = 0 ∧ most < (z : Int) then (5 : Int) else e2) (z : Int) l2).2 = R
  have HR := Lib.hid hR
  clear hR
  go_enter Tryz.func69, Tryz.ntmps69
  go_wp2_with fail
  refine (rdU_any HH.out).mono ?_
  rw [HX.out]
  rintro e1 w1 ⟨rfl, hr, hg⟩
  have H1 := Lib.hid hr
  have G1 := Lib.hid hg
  clear hr hg HH
  go_wp2_with fail
  refine (none_any H1.out).mono ?_
  rintro e1 w1 ⟨rfl, rfl⟩
  by_cases hm : most < (z : Int)
  · go_wp2_with fail
    refine (Fail_any 5 H1.out).mono ?_
    rintro e1 w3 ⟨rfl, hr, hg⟩
    have H2 := Lib.hid hr
    have G2 := Lib.hid (G1.out.trans hg)
    clear hr hg H1 G1
    have hif : (if e2 = 0 ∧ most < (z : Int) then (5 : Int) else e2) = (if e2 = 0 then 5 else e2) := by
      by_cases h : e2 = 0 <;> simp [h, hm]
    have HI := Lib.hid hif
    clear hif
    generalize (if e2 = 0 then (5 : Int) else e2) = e3 at *
    go_wp2_with fail
    refine (take_any z H2.out).mono ?_
    rintro e1 w2 ⟨A1, n1, a1, rfl, hb1, hbl, hr, hgr⟩
    have H3 := Lib.hid hr
    have HB := Lib.hid hb1
    have HG := Lib.hid hgr
    have hcv := conv_back hb1
    clear hb1 hr hgr
    go_wp2_with fail
    go_ret
    rw [← HR.out, HI.out]
    exact ⟨rfl, HB.out.byt, HB.out.lim, H3.out, G2.out.trans HG.out⟩
  · have hif : (if e2 = 0 ∧ most < (z : Int) then (5 : Int) else e2) = e2 := if_neg (fun h => hm h.2)
    have HI := Lib.hid hif
    clear hif
    go_wp2_with fail
    refine (take_any z H1.out).mono ?_
    rintro e1 w2 ⟨A1, n1, a1, rfl, hb1, hbl, hr, hgr⟩
    have H3 := Lib.hid hr
    have HB := Lib.hid hb1
    have HG := Lib.hid hgr
    have hcv := conv_back hb1
    clear hb1 hr hgr
    go_wp2_with fail
    go_ret
    rw [← HR.out, HI.out]
    exact ⟨rfl, HB.out.byt, HB.out.lim, H3.out, G1.out.trans HG.out⟩
end Go.Proofs.YtfedgjahbmcpoaaGreat
/- A reader over written numbers; worlds that only one block grew. No conditions. -/
set_option linter.unusedSimpArgs false
set_option linter.unusedVariables false
namespace Go.Proofs.YtfedgjahbmcpoaaGreat
open Go.RowKit

theorem nb_enc (most n : Nat) (h : n < 72057594037927936) (hm : n ≤ most) (l : List Nat) : nb most 0 (Dig.enc n ++ l) = (n, 0, l) := by
  unfold nb
  rw [if_neg (by simp), Dig.num1_enc most n h hm]
  rfl
theorem grown_bel {w0 a b : World} {g : Nat} (h : Below w0.heap.size w0 a) (hg : a.grownBy b (some g)) (hw : w0.heap.size ≤ g) : Below w0.heap.size w0 b := h.grown hg h.size (fun k e => by cases e; exact hw)
end Go.Proofs.YtfedgjahbmcpoaaGreat
/- Contracts of the document's own reader: New, Fail, Left, number. No conditions. -/
set_option linter.unusedSimpArgs false
set_option linter.unusedVariables false
namespace Go.Proofs.YtfedgjahbmcpoaaGreat
open Go.RowKit

/-- The document's reader in memory: its block, the first of its blocks, the error, what is left. -/
def Rfr (w : World) (lo g : Nat) (e : Int) (l : List Nat) : Prop :=
  ∃ A n c m, w.heap[g]? = some (.cells #[.slice A n c, .int .i64 e] 64 (0, 0)) ∧ lo ≤ g ∧ BS w A n c m ∧ (e = 0 → m = l) ∧ (∀ ad, A = some ad → lo ≤ ad.block ∧ ad.block < g)

set_option maxHeartbeats 4000000 in
theorem refNew_any (A : Option Addr) (n c : Nat) (l : List Nat) (w : World) (h : BS w A n c l) :
    Calls Tryz.prog 28 #[.slice A n c] w fun e w' => ∃ g, e = .returned (.pointer (some ⟨g, 0, none⟩)) ∧ Rfr w' w.heap.size g 0 l ∧ Below w.heap.size w w' := by
  have hbyt := h.byt
  have hlim := h.lim
  go_enter Tryz.func28, Tryz.ntmps28
  go_wp2_with fail
  refine (copyBytes_any A n c l _ h).mono ?_
  rintro e w1 ⟨v, rfl, ho, hb⟩
  obtain ⟨A1, n1, c1, rfl, h1, h2⟩ := ownsRow_bs ho hbyt hlim
  go_wp2_with fail
  go_ret
  refine ⟨w1.heap.size, rfl, ⟨A1, n1, c1, l, heap_alloc_new w1 _, hb.size, h1.newBlock _, fun _ => rfl, h2⟩, hb.alloc hb.size _⟩

theorem Rfr.lt {w : World} {lo g : Nat} {e : Int} {l : List Nat} (h : Rfr w lo g e l) : lo ≤ g ∧ g < w.heap.size := by
  obtain ⟨A, n, c, m, h1, h2, _⟩ := h
  exact ⟨h2, (Array.getElem?_eq_some_iff.1 h1).1⟩
theorem Rfr.grown {w w' : World} {lo g : Nat} {e : Int} {l : List Nat} {row : Option Nat} (h : Rfr w lo g e l) (hg : w.grownBy w' row) (hr : ∀ k, row = some k → k < lo ∨ g < k) : Rfr w' lo g e l := by
  have hlt := h.lt.2
  obtain ⟨A, n, c, m, h1, h2, h3, h4, h5⟩ := h
  refine ⟨A, n, c, m, ?_, h2, ?_, h4, h5⟩
  · rw [hg.block g hlt (fun e => by have := hr g e.symm; omega)]; exact h1
  · exact h3.grown hg fun ad k e e2 => by have := h5 ad e; have := hr k e2; omega
theorem Rfr.below {w w' : World} {lo g : Nat} {e : Int} {l : List Nat} (h : Rfr w lo g e l) (hb : Below w.heap.size w w') : Rfr w' lo g e l :=
  h.grown (row := none) (grown_of_below hb _) (fun k h => by cases h)
theorem Rfr.set1 {w : World} {lo g : Nat} {e : Int} {l : List Nat} (h : Rfr w lo g e l) (k : Int) (l' : List Nat) (hl : k = 0 → e = 0 ∧ l' = l) : Rfr (w.setCell ⟨g, 1, none⟩ (.int .i64 k)) lo g k l' := by
  obtain ⟨A, n, c, m, h1, h2, h3, h4, h5⟩ := h
  refine ⟨A, n, c, m, ?_, h2, h3.grown (grown_set w g 1 _) (fun ad k e e2 => by cases e2; have := h5 ad e; omega), fun hk => (h4 (hl hk).1).trans (hl hk).2.symm, h5⟩
  rw [heap_set h1]; rfl
theorem Rfr.any {w : World} {lo g : Nat} {e : Int} {l : List Nat} (h : Rfr w lo g e l) (he : e ≠ 0) (l' : List Nat) : Rfr w lo g e l' := by
  obtain ⟨A, n, c, m, h1, h2, h3, h4, h5⟩ := h
  exact ⟨A, n, c, m, h1, h2, h3, fun h => absurd h he, h5⟩
/-- What stands in it, opened. -/
theorem Rfr.open {w : World} {lo g : Nat} {e : Int} {l : List Nat} (h : Rfr w lo g e l) :
    ∃ A n c m, w.cell? ⟨g, 0, none⟩ = some (.slice A n c) ∧ w.cell? ⟨g, 1, none⟩ = some (.int .i64 e) ∧ w.frozen? ⟨g, 0, none⟩ = false ∧ w.frozen? ⟨g, 1, none⟩ = false ∧ BS w A n c m ∧ (e = 0 → m = l) ∧
      (∀ ad, A = some ad → lo ≤ ad.block ∧ ad.block < g) := by
  obtain ⟨A, n, c, m, h1, h2, h3, h4, h5⟩ := h
  have c0 := cell_of h1 0
  have c1 := cell_of h1 1
  simp at c0 c1
  exact ⟨A, n, c, m, c0, c1, frozen_of h1 0, frozen_of h1 1, h3, h4, h5⟩
theorem Rfr.bs {w : World} {lo g : Nat} {l : List Nat} (h : Rfr w lo g 0 l) {A : Option Addr} {n c : Nat} (hc : w.cell? ⟨g, 0, none⟩ = some (.slice A n c)) : BS w A n c l ∧ (∀ ad, A = some ad → lo ≤ ad.block ∧ ad.block < g) := by
  obtain ⟨A', n', c', m, c0, _, _, _, h3, h4, h5⟩ := h.open
  rw [c0] at hc
  injection hc with hc
  injection hc with e1 e2 e3
  subst e1 e2 e3
  obtain rfl := h4 rfl
  exact ⟨h3, h5⟩
theorem Rfr.drop {w : World} {lo g : Nat} {l : List Nat} (h : Rfr w lo g 0 l) {A : Option Addr} {n c : Nat} (hc : w.cell? ⟨g, 0, none⟩ = some (.slice A n c)) {k : Nat} (hk : k ≤ l.length) : Rfr (w.setCell ⟨g, 0, none⟩ (.slice (dropA A c k) (n - k) (c - k))) lo g 0 (l.drop k) := by
  obtain ⟨h3, h5⟩ := h.bs hc
  obtain ⟨A', n', c', m, h1, h2, _⟩ := h
  refine ⟨dropA A c k, n - k, c - k, l.drop k, ?_, h2, (h3.grown (grown_set w g 0 _) (fun ad k e e2 => by cases e2; have := h5 ad e; omega)).dropA hk, fun _ => rfl, ?_⟩
  · rw [heap_set h1]; rfl
  · intro ad e
    unfold dropA at e
    split at e
    · exact h5 ad e
    · cases A with
      | none => cases e
      | some a => cases e; rw [block_add]; exact h5 a rfl
set_option maxHeartbeats 4000000 in
theorem refFail_any {lo g : Nat} {e : Int} {l : List Nat} {w : World} (k : Int) (h : Rfr w lo g e l) :
    Calls Tryz.prog 74 #[.pointer (some ⟨g, 0, none⟩), .int .i64 k] w fun r w' => r = .returned (.tuple #[]) ∧ Rfr w' lo g (if e = 0 then k else e) l ∧ w.grownBy w' (some g) := by
  have HH := Lib.hid h
  obtain ⟨A, n, c, m, c0, c1, f0, f1, _⟩ := h.open
  clear h
  by_cases he : e = 0
  · subst he
    go_enter Tryz.func74, Tryz.ntmps74
    go_wp2_with fail
    go_end0
    exact ⟨rfl, HH.out.set1 k l (fun _ => ⟨rfl, rfl⟩), grown_set _ _ _ _⟩
  · go_enter Tryz.func74, Tryz.ntmps74
    go_wp2_with fail
    go_end0
    exact ⟨rfl, HH.out, grown_refl _ _⟩
set_option maxHeartbeats 4000000 in
theorem refLeft_any {lo g : Nat} {e : Int} {l : List Nat} {w : World} (h : Rfr w lo g e l) :
    Calls Tryz.prog 33 #[.pointer (some ⟨g, 0, none⟩)] w fun r w' => r = .returned (.int .i64 ((if e = 0 then l.length else 0 : Nat) : Int)) ∧ w = w' := by
  obtain ⟨A, n, c, m, c0, c1, f0, f1, hb, hl, _⟩ := h.open
  have hn := hb.len
  clear h hb
  by_cases he : e = 0
  · subst he
    have := hl rfl
    subst this
    go_enter Tryz.func33, Tryz.ntmps33
    go_wp2_with fail
    go_ret
    exact ⟨rfl, rfl⟩
  · rw [if_neg he]
    clear hl
    go_enter Tryz.func33, Tryz.ntmps33
    go_wp2_with fail
    go_ret
    exact ⟨rfl, rfl⟩
end Go.Proofs.YtfedgjahbmcpoaaGreat
/- Contracts of the document's own reader: number. No conditions. -/
set_option linter.unusedSimpArgs false
set_option linter.unusedVariables false
namespace Go.Proofs.YtfedgjahbmcpoaaGreat
open Go.RowKit

/-- .. in memory. -/
def RNumR (w w' : World) (r : Ending) (lo g : Nat) (x : Nat × Int × List Nat) : Prop :=
  r = .returned (.int .i64 (x.1 : Int)) ∧ Rfr w' lo g x.2.1 x.2.2 ∧ w.grownBy w' (some g)
theorem bit_lead (x j : Nat) (hx : x < 256) (hj : j ≤ Dig.lead x) (h8 : j < 8) : bits .and .u8 (x : Int) ((128 / 2 ^ j : Nat) : Int) = 0 ↔ j = Dig.lead x := by
  have : ∀ j : Fin 8, ∀ x : Fin 256, j.val ≤ Dig.lead x.val → (bits .and .u8 (x.val : Int) ((128 / 2 ^ j.val : Nat) : Int) = 0 ↔ j.val = Dig.lead x.val) := by decide +kernel
  exact this ⟨j, h8⟩ ⟨x, hx⟩ hj

set_option maxHeartbeats 8000000 in
set_option maxRecDepth 100000 in
theorem refNumber_any {lo g : Nat} {e : Int} {l : List Nat} {w : World} (most : Nat) (hm : most < 72057594037927936) (h : Rfr w lo g e l) :
    Calls Tryz.prog 72 #[.pointer (some ⟨g, 0, none⟩), .int .i64 most] w fun r w' => RNumR w w' r lo g (nb most e l) := by
  have HH := Lib.hid h
  obtain ⟨A, n, c, m, c0, c1, f0, f1, hb, hl, h5⟩ := h.open
  have HB := Lib.hid hb
  have hn := hb.len
  have hle := hb.le
  clear h hb
  by_cases he : e = 0
  · subst he
    have := hl rfl
    subst this
    clear hl
    cases m with
    | nil =>
      obtain rfl : n = 0 := hn
      have hnum : nb most 0 [] = (0, 3, []) := rfl
      rw [hnum]
      clear hnum
      go_enter Tryz.func72, Tryz.ntmps72
      go_wp2_with fail
      go_ret
      exact ⟨rfl, HH.out.set1 3 [] (by simp), grown_set _ _ _ _⟩
    | cons x t =>
      have hx : x < 256 := HB.out.byt x (by simp)
      obtain ⟨ad, hA, hcx⟩ := HB.out.lies.byte (i := 0) (by simp)
      subst hA
      simp only [List.getElem_cons_zero] at hcx
      rw [List.length_cons] at hn hle
      subst hn
      rw [show ad.add 0 = ad by simp [Addr.add]] at hcx
      have hz8 := Dig.lead_le x
      have hbl := bit_lead x
      have hnum : nb most 0 (x :: t) = ((Dig.num1 most (x :: t)).1, ((Dig.num1 most (x :: t)).2.1 : Int), (Dig.num1 most (x :: t)).2.2) := rfl
      simp only [Dig.num1] at hnum
      have HN := Lib.hid hnum
      clear hnum
      generalize nb most 0 (x :: t) = R at *
      generalize Dig.lead x = z at *
      have HBL := Lib.hid hbl
      have H5 := Lib.hid h5
      clear hbl h5
      go_enter Tryz.func72, Tryz.ntmps72
      go_wp2_with fail
      go_loopw [5] (fun i wr => ∃ j : Nat, j ≤ z ∧ i = .int .i64 ((j : Int) + 1) ∧ ∃ q, wr = w.drewN q) (fun i _ => 9 - (intOf i).toNat)
      case atStart => exact ⟨0, by omega, rfl, 0, rfl⟩
      case round =>
        obtain ⟨j, hj, rfl, q, rfl⟩ := hrel
        by_cases hj8 : j < 8
        · have hbj := HBL.out j hx hj hj8
          have hj8' : (j : Int) + 1 ≤ 8 := by omega
          have hsh : (128 : Int) / 2 ^ j = ((128 / 2 ^ j : Nat) : Int) := by push_cast; rfl
          by_cases hjz : j = z
          · subst hjz
            have heq : bits .and .u8 (x : Int) ((128 / 2 ^ j : Nat) : Int) = 0 := hbj.2 rfl
            clear hbj
            generalize 128 / 2 ^ j = y at *
            go_wp2_with fail
            go_quiet (fail)
            rw [World.drewN_drewN]
            generalize q + nq = q2
            have HH2 := Lib.hid (HH.out.below (below_drewN (bel0 w) q2))
            have G2 := Lib.hid (grown_of_below (below_drewN (bel0 w) q2) (some g))
            clear HBL heq hsh
            by_cases hs : t.length < j
            · have HN' := HN.out
              rw [if_neg (by omega), if_pos hs] at HN'
              have HM := Lib.hid HN'
              clear HN' HN
              have hs' : (t.length : Int) + 1 < (j : Int) + 1 := by omega
              go_wp2_with fail
              go_ret
              rw [HM.out]
              exact ⟨rfl, (HH2.out.set1 3 (x :: t) (by simp)).any (by simp) _, G2.out.trans (grown_set _ _ _ _)⟩
            · have hs' : ¬ (t.length : Int) + 1 < (j : Int) + 1 := by omega
              go_wp2_with fail
              obtain ⟨k, hk⟩ : ∃ k, k = j + 1 := ⟨_, rfl⟩
              have hk' : (j : Int) + 1 = (k : Int) := by omega
              rw [hk']
              have hk8 : (k : Int) ≤ 8 := by omega
              have hk1 : (1 : Int) ≤ (k : Int) := by omega
              obtain ⟨p, hp⟩ : ∃ p : Nat, p = 2 ^ (8 - k) := ⟨_, rfl⟩
              have hpI : (2 : Int) ^ (8 - k) = (p : Int) := by rw [hp]; push_cast; rfl
              have hp1 : 0 < p := by rw [hp]; exact Nat.pow_pos (by omega)
              have hp8 : p ≤ 128 := by rw [hp]; exact Nat.pow_le_pow_right (n := 2) (i := 8 - k) (j := 7) (by omega) (by omega)
              have HK := Lib.hid hk
              have HN' := HN.out
              rw [if_neg (by omega), if_neg hs, ← hk, ← hp] at HN'
              have HM := Lib.hid HN'
              have hTl : (t.take j).length = j := by rw [List.length_take]; omega
              have hTb : Byt (t.take j) := fun y hy => HB.out.byt y (by simp [List.mem_of_mem_take hy])
              have hxp : (x : Int) % (p : Int) = ((x % p : Nat) : Int) := by push_cast; rfl
              have hbt : x % p < p := Nat.mod_lt _ hp1
              have hvs : ∀ i, i ≤ j → Dig.val (x % p) ((t.take j).take i) < 72057594037927936 := by
                intro i hi
                have := Dig.val_lt _ ((t.take j).take i) (hTb.take i) _ hbt
                rw [List.length_take, Nat.min_eq_left (by omega)] at this
                refine Nat.lt_of_lt_of_le this ?_
                rw [hp, show 256 ^ i = 2 ^ (8 * i) by rw [Nat.pow_mul], ← Nat.pow_add]
                exact Nat.pow_le_pow_right (n := 2) (i := 8 - k + 8 * i) (j := 56) (by omega) (by omega)
              have hget : ∀ i, i < j → ∃ y : Nat, y < 256 ∧ w.cell? (ad.add (i + 1)) = some (.int .u8 (y : Int)) ∧ (t.take j).take (i + 1) = (t.take j).take i ++ [y] := by
                intro i hi
                obtain ⟨ad2, hA2, hcj⟩ := HB.out.lies.byte (i := i + 1) (by rw [List.length_cons]; omega)
                cases hA2
                rw [List.getElem_cons_succ] at hcj
                refine ⟨t[i]'(by omega), HB.out.byt _ (by simp), hcj, ?_⟩
                rw [take_snoc (t.take j) i (by omega), List.getElem_take]
              have hkt : (k : Int) ≤ (t.length : Int) + 1 := by omega
              have hDr : (x :: t).drop k = t.drop j := by rw [hk]; rfl
              have HDR := Lib.hid hDr
              clear hDr
              have HVS := Lib.hid hvs
              have HGET := Lib.hid hget
              have HTL := Lib.hid hTl
              clear hp hk hk' HN HN' hj8' hj8 hTl hTb hbt hvs hget
              generalize t.take j = T at *
              generalize t.drop j = D at *
              generalize x % p = b at *
              go_quiet (fail)
              rw [World.drewN_drewN]
              generalize q2 + nq = q3
              clear HH2 G2
              have HH2 := Lib.hid (HH.out.below (below_drewN (bel0 w) q3))
              have G2 := Lib.hid (grown_of_below (below_drewN (bel0 w) q3) (some g))
              go_wp2_with fail
              go_loop [6, 7] (fun n i => ∃ j : Nat, 1 ≤ j ∧ j ≤ k ∧ i = .int .i64 j ∧ n = .int .i64 ((Dig.val b (T.take (j - 1)) : Nat) : Int)) (fun _ i => k - (intOf i).toNat)
              case atStart => exact ⟨1, by omega, by omega, rfl, by rw [hxp]; rfl⟩
              case round =>
                obtain ⟨i, hi1, hik, rfl, rfl⟩ := hrel
                have hkj := HK.out
                by_cases hlt : i < k
                · obtain ⟨y, hy, hcy, hsn⟩ := HGET.out (i - 1) (by omega)
                  have hv := HVS.out (i - 1 + 1) (by omega)
                  rw [hsn, Dig.val_snoc] at hv
                  have hval : Dig.val b (T.take (i + 1 - 1)) = Dig.val b (T.take (i - 1)) * 256 + y := by
                    rw [show i + 1 - 1 = i - 1 + 1 by omega, hsn, Dig.val_snoc]
                  rw [show i - 1 + 1 = i by omega] at hcy
                  have HV := Lib.hid hval
                  have hil : (i : Int) < (t.length : Int) + 1 := by omega
                  clear hsn hval hkj
                  generalize Dig.val b (T.take (i - 1)) = v at *
                  go_wp2_with fail
                  exact ⟨⟨i + 1, by omega, by omega, by go_num, by rw [HV.out]; go_num⟩, by simp [intOf]; omega⟩
                · have hTt : T.take (i - 1) = T := List.take_of_length_le (by rw [HTL.out]; omega)
                  have hv := HVS.out (i - 1) (by omega)
                  rw [hTt] at hv ⊢
                  clear hTt
                  obtain rfl : i = k := by omega
                  clear hkj
                  generalize Dig.val b T = v at *
                  go_wp2_with fail
                  refine (refSize_any v hv _).mono ?_
                  rintro e w3 ⟨rfl, rfl⟩
                  have c0q : ∀ q, (w.drewN q).cell? ⟨g, 0, none⟩ = some (.slice (some ad) (t.length + 1) c) := fun q => c0
                  have C0Q := Lib.hid c0q
                  clear c0q
                  by_cases hsz : Dig.sz v = i
                  · by_cases hmo : v ≤ most
                    · have HM3 := HM.out
                      rw [if_neg (by omega)] at HM3
                      have HM4 := Lib.hid HM3
                      have hle3 : (v : Int) ≤ (most : Int) := by omega
                      clear HM3 HM
                      by_cases hci : c = i
                      · have hd := HH2.out.drop (k := i) (C0Q.out q3) (by rw [List.length_cons]; omega)
                        rw [HDR.out, show dropA (some ad) c i = some ad from if_pos hci] at hd
                        subst hci
                        have hz0 : t.length + 1 - c = 0 := by omega
                        rw [Nat.sub_self, hz0] at hd
                        have HD := Lib.hid hd
                        clear hd hz0
                        go_wp2_with fail
                        go_ret
                        rw [HM4.out]
                        exact ⟨rfl, HD.out, G2.out.trans (grown_set _ _ _ _)⟩
                      · have hd := HH2.out.drop (k := i) (C0Q.out q3) (by rw [List.length_cons]; omega)
                        rw [HDR.out, show dropA (some ad) c i = some (ad.add i) from if_neg hci] at hd
                        have HD := Lib.hid hd
                        clear hd
                        go_wp2_with fail
                        go_ret
                        rw [HM4.out]
                        exact ⟨rfl, HD.out, G2.out.trans (grown_set _ _ _ _)⟩
                    · have hgt : (most : Int) < (v : Int) := by omega
                      have HM3 := HM.out
                      rw [if_pos (by omega)] at HM3
                      have HM4 := Lib.hid HM3
                      clear HM3 HM
                      go_wp2_with fail
                      go_ret
                      rw [HM4.out]
                      exact ⟨rfl, (HH2.out.set1 4 (x :: t) (by simp)).any (by simp) _, G2.out.trans (grown_set _ _ _ _)⟩
                  · have hsz' : ¬ (Dig.sz v : Int) = (i : Int) := by omega
                    have HM3 := HM.out
                    rw [if_pos (by omega)] at HM3
                    have HM4 := Lib.hid HM3
                    clear HM3 HM
                    go_wp2_with fail
                    go_ret
                    rw [HM4.out]
                    exact ⟨rfl, (HH2.out.set1 4 (x :: t) (by simp)).any (by simp) _, G2.out.trans (grown_set _ _ _ _)⟩
          · have hne : ¬ bits .and .u8 (x : Int) ((128 / 2 ^ j : Nat) : Int) = 0 := fun h => hjz (hbj.1 h)
            clear hbj
            generalize 128 / 2 ^ j = y at *
            go_wp2_with fail
            go_quiet (fail)
            go_wp2_with fail
            exact ⟨⟨j + 1, by omega, by go_num, _, rfl⟩, by simp [intOf]; omega⟩
        · obtain rfl : j = 8 := by omega
          obtain rfl : z = 8 := by omega
          have HN' := HN.out
          rw [if_pos (by omega)] at HN'
          have HM := Lib.hid HN'
          clear HN' HN HBL
          go_wp2_with fail
          go_quiet (fail)
          go_wp2_with fail
          go_ret
          rw [HM.out]
          exact ⟨rfl, ((HH.out.below (below_drewN (bel0 w) (q + nq))).set1 4 (x :: t) (by simp)).any (by simp) _, (grown_of_below (below_drewN (bel0 w) (q + nq)) (some g)).trans (grown_set _ _ _ _)⟩
  · have hn : nb most e l = (0, e, l) := if_pos he
    rw [hn]
    clear hn
    go_enter Tryz.func72, Tryz.ntmps72
    go_wp2_with fail
    go_ret
    exact ⟨rfl, HH.out, grown_refl _ _⟩
end Go.Proofs.YtfedgjahbmcpoaaGreat
