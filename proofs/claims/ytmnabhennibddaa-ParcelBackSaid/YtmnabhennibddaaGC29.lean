/- Contracts of the document's own reader: U, S, Raw, Text. No conditions. -/
import Derived.Test.YtmnabhennibddaaGC28
set_option linter.unusedSimpArgs false
set_option linter.unusedVariables false
namespace Go.Proofs.Ytmnabhennibddaa
open Go.RowKit

/-- A number off the document's reader. -/
def RIntR (w w' : World) (r : Ending) (lo g : Nat) (n : Int) (e : Int) (l : List Nat) : Prop :=
  r = .returned (.int .i64 n) ∧ Rfr w' lo g e l ∧ w.grownBy w' (some g)
set_option maxHeartbeats 4000000 in
theorem rfU_any {lo g : Nat} {e : Int} {l : List Nat} {w : World} (h : Rfr w lo g e l) :
    Calls Try.prog 30 #[.pointer (some ⟨g, 0, none⟩)] w fun r w' => RIntR w w' r lo g ((nb 9007199254740991 e l).1 : Int) (nb 9007199254740991 e l).2.1 (nb 9007199254740991 e l).2.2 := by
  have HH := Lib.hid h
  generalize hx : nb 9007199254740991 e l = x at *
  have HX := Lib.hid hx
  clear h hx
  obtain ⟨z, e2, l2⟩ := x
  simp only
  go_enter Try.func30, Try.ntmps30
  go_wp2_with fail
  refine (refNumber_any 9007199254740991 (by omega) HH.out).mono ?_
  rw [HX.out]
  rintro e1 w1 ⟨rfl, hr, hg⟩
  have HR := Lib.hid hr
  have HG := Lib.hid hg
  clear hr hg HH
  go_wp2_with fail
  go_ret
  exact ⟨rfl, HR.out, HG.out⟩
/-- Bytes off the document's reader, as a new slice. -/
def RRawR (w w' : World) (r : Ending) (lo g : Nat) (x : Bool × List Nat × Int × List Nat) : Prop :=
  ∃ v, r = .returned v ∧ w'.ownsRow w.heap.size 5 1 v x.2.1.length (bv x.2.1) ∧ Byt x.2.1 ∧ x.2.1.length ≤ 140737488354304 ∧ Rfr w' lo g x.2.2.1 x.2.2.2 ∧ w.grownBy w' (some g)
theorem rraw_no {w w' : World} {lo g : Nat} {e : Int} {l : List Nat} (h : Rfr w' lo g e l) (hg : w.grownBy w' (some g)) : RRawR w w' (.returned (.slice none 0 0)) lo g (false, [], e, l) :=
  ⟨_, rfl, World.ownsRow_nil .., (fun x hx => absurd hx (by simp)), by simp, h, hg⟩
/-- A text off the document's reader. -/
def RTxtR (w w' : World) (r : Ending) (lo g : Nat) (x : List Nat × Int × List Nat) : Prop :=
  r = .returned (.string (bs x.1)) ∧ Byt x.1 ∧ x.1.length ≤ 140737488354304 ∧ Rfr w' lo g x.2.1 x.2.2 ∧ w.grownBy w' (some g)
end Go.Proofs.Ytmnabhennibddaa
