/- Two batches compared, by the document and by the program. No conditions. -/
import Derived.Test.YtbhfbpaaghpadaaGA43
set_option linter.unusedSimpArgs false
set_option linter.unusedVariables false
namespace Go.Proofs.Ytbhfbpaaghpadaa
open Go.RowKit

set_option maxHeartbeats 16000000 in
set_option maxRecDepth 100000 in
theorem refBatSame_any {A B : Option Addr} {n c m d : Nat} {a b : Bat} {w : World} (h : LS w A n c a.sp) (h2 : LS w B m d b.sp) :
    Calls Try.prog 16 #[.agg #[.int .i64 a.ag, .int .i64 a.sq, .slice A n c], .agg #[.int .i64 b.ag, .int .i64 b.sq, .slice B m d]] w fun e w' => SmR w w' e (a = b) := by
  obtain ⟨a1, q1, l⟩ := a
  obtain ⟨a2, q2, r⟩ := b
  simp only at h h2 ⊢
  have hb1 := nx ((bel0 w).alloc (Nat.le_refl _) (.cells #[.int .i64 a1, .int .i64 q1, .slice A n c] 24)) ((bel0 (w.alloc (.cells #[.int .i64 a1, .int .i64 q1, .slice A n c] 24))).alloc (Nat.le_refl _) (.cells #[.int .i64 a2, .int .i64 q2, .slice B m d] 24))
  have C := Lib.hid (refSameSpans_any (h.below hb1) (h2.below hb1))
  have HB1 := Lib.hid hb1
  clear h h2 hb1
  by_cases e1 : a1 = a2
  case neg =>
    have hsf : (a1 == a2) = false := by simpa using e1
    go_enter Try.func16, Try.ntmps16
    go_wp2_with fail
    go_ret
    exact smNo (fun e => e1 (by injection e)) HB1.out
  by_cases e2 : q1 = q2
  case neg =>
    have hsf : (q1 == q2) = false := by simpa using e2
    subst e1
    go_enter Try.func16, Try.ntmps16
    go_wp2_with fail
    go_ret
    exact smNo (fun e => e2 (by injection e)) HB1.out
  subst e1 e2
  go_enter Try.func16, Try.ntmps16
  go_wp2_with fail
  refine C.out.mono ?_
  rintro e w2 ⟨bb, rfl, hbb, hb2⟩
  have HBB := Lib.hid hbb
  have HB2 := Lib.hid (nx HB1.out hb2)
  clear hbb hb2 C
  go_wp2_with fail
  go_ret
  exact ⟨bb, rfl, ⟨fun h => by rw [HBB.out.1 h], fun e => HBB.out.2 (by injection e)⟩, HB2.out⟩
end Go.Proofs.Ytbhfbpaaghpadaa
