/- Contracts of a reader of numbers and texts: U, S, Text. No conditions. -/
import Derived.Test.YtmnabhennibddaaGD12
import Derived.Laws.DeepNot64
set_option linter.unusedSimpArgs false
set_option linter.unusedVariables false
namespace Go.Proofs.Ytmnabhennibddaa
open Go.RowKit

theorem nb_le (most : Nat) (e : Int) (l : List Nat) : (nb most e l).1 ≤ most := by
  unfold nb
  split
  · exact Nat.zero_le _
  · cases l with
    | nil => exact Nat.zero_le _
    | cons c t =>
      simp only [Dig.num1]
      split
      · exact Nat.zero_le _
      · split
        · exact Nat.zero_le _
        · split
          · exact Nat.zero_le _
          · rename_i h; simp only []; omega

/-- A number off a reader, as an int. -/
def IntR (w w' : World) (r : Ending) (lo g : Nat) (n : Int) (e : Int) (l : List Nat) : Prop :=
  r = .returned (.int .i64 n) ∧ Rdr w' lo g e l ∧ w.grownBy w' (some g)
set_option maxHeartbeats 4000000 in
theorem rdU_any {lo g : Nat} {e : Int} {l : List Nat} {w : World} (h : Rdr w lo g e l) :
    Calls Try.prog 50 #[.pointer (some ⟨g, 0, none⟩)] w fun r w' => IntR w w' r lo g ((nb 9007199254740991 e l).1 : Int) (nb 9007199254740991 e l).2.1 (nb 9007199254740991 e l).2.2 := by
  have HH := Lib.hid h
  have hle := nb_le 9007199254740991 e l
  generalize hx : nb 9007199254740991 e l = x at *
  have HX := Lib.hid hx
  clear h hx
  obtain ⟨z, e2, l2⟩ := x
  simp only at hle ⊢
  go_enter Try.func50, Try.ntmps50
  go_wp2_with fail
  refine (none_any HH.out).mono ?_
  rintro e1 w1 ⟨rfl, rfl⟩
  go_wp2_with fail
  refine (number_any 9007199254740991 (by omega) HH.out).mono ?_
  rw [HX.out]
  rintro e1 w1 ⟨rfl, hr, hg⟩
  have HR := Lib.hid hr
  have HG := Lib.hid hg
  clear hr hg HH
  go_wp2_with fail
  go_ret
  exact ⟨rfl, HR.out, HG.out⟩

/-- The number that a number stands for. -/
def zag (z : Nat) : Int := if z % 2 = 1 then -(((z : Int) + 1) / 2) else (z : Int) / 2
theorem zag_zig (n : Int) : zag (zig n) = n := by
  unfold zag zig
  by_cases h : 0 ≤ n
  · rw [if_pos h, if_neg (by omega)]; omega
  · rw [if_neg h, if_pos (by omega)]; omega
theorem zig_zag (z : Nat) : zig (zag z) = z := by
  unfold zag
  split
  · unfold zig; rw [if_neg (by omega)]; omega
  · unfold zig; rw [if_pos (by omega)]; omega
theorem i64_xor_comm (a b : Int) : bits .xor .i64 a b = bits .xor .i64 b a := by
  show IntKind.i64.wrap ((BitVec.ofInt 64 a ^^^ BitVec.ofInt 64 b).toNat : Int) = IntKind.i64.wrap ((BitVec.ofInt 64 b ^^^ BitVec.ofInt 64 a).toNat : Int)
  rw [BitVec.xor_comm]
theorem xor_zag (z : Nat) (h : z < 9223372036854775808) : bits .xor .i64 ((z : Int) / 2) (-((z % 2 : Nat) : Int)) = zag z := by
  unfold zag
  rcases Nat.mod_two_eq_zero_or_one z with h2 | h2
  · rw [h2, if_neg (by omega)]
    show IntKind.i64.wrap ((BitVec.ofInt 64 ((z : Int) / 2) ^^^ BitVec.ofInt 64 (0 : Int)).toNat : Int) = _
    rw [show BitVec.ofInt 64 (0 : Int) = 0#64 from rfl, BitVec.xor_zero]
    have : BitVec.ofInt 64 ((z : Int) / 2) = BitVec.ofNat 64 (z / 2) := by
      rw [show (z : Int) / 2 = ((z / 2 : Nat) : Int) by omega]
      exact BitVec.ofInt_natCast ..
    rw [this, BitVec.toNat_ofNat, Nat.mod_eq_of_lt (by omega)]
    simp [IntKind.wrap, IntKind.bits, IntKind.signed]
    omega
  · rw [h2, if_pos rfl, i64_xor_comm]
    rw [show (-((1 : Nat) : Int)) = -1 from rfl, show (z : Int) / 2 = ((z / 2 : Nat) : Int) by omega, i64_not _ (by omega)]
    omega
theorem and_one (z : Nat) (h : z < 9223372036854775808) : bits .and .u64 (z : Int) 1 = ((z % 2 : Nat) : Int) := by
  have := u64_and_nat z 1 (by omega) (by omega)
  rw [Nat.and_one_is_mod] at this
  exact this
set_option maxHeartbeats 4000000 in
theorem rdS_any {lo g : Nat} {e : Int} {l : List Nat} {w : World} (h : Rdr w lo g e l) :
    Calls Try.prog 51 #[.pointer (some ⟨g, 0, none⟩)] w fun r w' => IntR w w' r lo g (zag (nb 18014398509481982 e l).1) (nb 18014398509481982 e l).2.1 (nb 18014398509481982 e l).2.2 := by
  have HH := Lib.hid h
  have hle := nb_le 18014398509481982 e l
  generalize hx : nb 18014398509481982 e l = x at *
  have HX := Lib.hid hx
  clear h hx
  obtain ⟨z, e2, l2⟩ := x
  simp only at hle ⊢
  go_enter Try.func51, Try.ntmps51
  go_wp2_with fail
  refine (none_any HH.out).mono ?_
  rintro e1 w1 ⟨rfl, rfl⟩
  go_wp2_with fail
  refine (number_any 18014398509481982 (by omega) HH.out).mono ?_
  rw [HX.out]
  rintro e1 w1 ⟨rfl, hr, hg⟩
  have HR := Lib.hid hr
  have HG := Lib.hid hg
  clear hr hg HH
  have ha := and_one z (by omega)
  have hx := xor_zag z (by omega)
  have hm : z % 2 < 2 := Nat.mod_lt _ (by omega)
  generalize z % 2 = m at *
  go_wp2_with fail
  go_ret
  exact ⟨rfl, HR.out, HG.out⟩

/-- A text off a reader: the bytes, the error, what is left. -/
def txt (most : Int) (e : Int) (l : List Nat) : List Nat × Int × List Nat :=
  ((tk (if (nb 9007199254740991 e l).2.1 = 0 ∧ most < (nb 9007199254740991 e l).1 then 5 else (nb 9007199254740991 e l).2.1) (nb 9007199254740991 e l).1 (nb 9007199254740991 e l).2.2)).2
/-- .. in memory. -/
def TxtR (w w' : World) (r : Ending) (lo g : Nat) (x : List Nat × Int × List Nat) : Prop :=
  r = .returned (.string (bs x.1)) ∧ Byt x.1 ∧ x.1.length ≤ 140737488354304 ∧ Rdr w' lo g x.2.1 x.2.2 ∧ w.grownBy w' (some g)
set_option maxHeartbeats 4000000 in
theorem rdText_any {lo g : Nat} {e : Int} {l : List Nat} {w : World} (most : Int) (h : Rdr w lo g e l) :
    Calls Try.prog 52 #[.pointer (some ⟨g, 0, none⟩), .int .i64 most] w fun r w' => TxtR w w' r lo g (txt most e l) := by
  have HH := Lib.hid h
  unfold txt
  generalize hx : nb 9007199254740991 e l = x
  have HX := Lib.hid hx
  clear h hx
  obtain ⟨z, e2, l2⟩ := x
  simp only
  generalize hR : (tk (if e2 = 0 ∧ most < (z : Int) then (5 : Int) else e2) (z : Int) l2).2 = R
  have HR := Lib.hid hR
  clear hR
  go_enter Try.func52, Try.ntmps52
  go_wp2_with fail
  refine (rdU_any HH.out).mono ?_
  rw [HX.out]
  rintro e1 w1 ⟨rfl, hr, hg⟩
  have H1 := Lib.hid hr
  have G1 := Lib.hid hg
  clear hr hg HH
  go_wp2_with fail
  refine (none_any H1.out).mono ?_
  rintro e1 w1 ⟨rfl, rfl⟩
  by_cases hm : most < (z : Int)
  · go_wp2_with fail
    refine (Fail_any 5 H1.out).mono ?_
    rintro e1 w3 ⟨rfl, hr, hg⟩
    have H2 := Lib.hid hr
    have G2 := Lib.hid (G1.out.trans hg)
    clear hr hg H1 G1
    have hif : (if e2 = 0 ∧ most < (z : Int) then (5 : Int) else e2) = (if e2 = 0 then 5 else e2) := by
      by_cases h : e2 = 0 <;> simp [h, hm]
    have HI := Lib.hid hif
    clear hif
    generalize (if e2 = 0 then (5 : Int) else e2) = e3 at *
    go_wp2_with fail
    refine (take_any z H2.out).mono ?_
    rintro e1 w2 ⟨A1, n1, a1, rfl, hb1, hbl, hr, hgr⟩
    have H3 := Lib.hid hr
    have HB := Lib.hid hb1
    have HG := Lib.hid hgr
    have hcv := conv_back hb1
    clear hb1 hr hgr
    go_wp2_with fail
    go_ret
    rw [← HR.out, HI.out]
    exact ⟨rfl, HB.out.byt, HB.out.lim, H3.out, G2.out.trans HG.out⟩
  · have hif : (if e2 = 0 ∧ most < (z : Int) then (5 : Int) else e2) = e2 := if_neg (fun h => hm h.2)
    have HI := Lib.hid hif
    clear hif
    go_wp2_with fail
    refine (take_any z H1.out).mono ?_
    rintro e1 w2 ⟨A1, n1, a1, rfl, hb1, hbl, hr, hgr⟩
    have H3 := Lib.hid hr
    have HB := Lib.hid hb1
    have HG := Lib.hid hgr
    have hcv := conv_back hb1
    clear hb1 hr hgr
    go_wp2_with fail
    go_ret
    rw [← HR.out, HI.out]
    exact ⟨rfl, HB.out.byt, HB.out.lim, H3.out, G1.out.trans HG.out⟩
end Go.Proofs.Ytmnabhennibddaa
/- A reader over written numbers; worlds that only one block grew. No conditions. -/
set_option linter.unusedSimpArgs false
set_option linter.unusedVariables false
namespace Go.Proofs.Ytmnabhennibddaa
open Go.RowKit

theorem nb_enc (most n : Nat) (h : n < 72057594037927936) (hm : n ≤ most) (l : List Nat) : nb most 0 (Dig.enc n ++ l) = (n, 0, l) := by
  unfold nb
  rw [if_neg (by simp), Dig.num1_enc most n h hm]
  rfl
theorem grown_bel {w0 a b : World} {g : Nat} (h : Below w0.heap.size w0 a) (hg : a.grownBy b (some g)) (hw : w0.heap.size ≤ g) : Below w0.heap.size w0 b := h.grown hg h.size (fun k e => by cases e; exact hw)
end Go.Proofs.Ytmnabhennibddaa
