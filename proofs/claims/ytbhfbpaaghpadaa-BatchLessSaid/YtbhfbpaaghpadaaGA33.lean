/- What was written is read unchanged: values, labels, attributes, lists. Plain lists, no conditions. -/
import Derived.Test.YtbhfbpaaghpadaaGA32
import Derived.Test.YtbhfbpaaghpadaaGA30
import Derived.Test.YtbhfbpaaghpadaaGA14
set_option linter.unusedSimpArgs false
set_option linter.unusedVariables false
namespace Go.Proofs.Ytbhfbpaaghpadaa
open Go.RowKit

theorem nbv_enc {most : Nat} (n : Nat) (h : n < 72057594037927936) (hm : n ≤ most) (l : List Nat) : nb most 0 (Dig.enc n ++ l) = (n, 0, l) := by
  unfold nb
  rw [if_neg (by simp), Dig.num1_enc most n h hm l]
  rfl
theorem txt_to (most : Int) (s m : List Nat) (hs : s.length ≤ 65535) (hm : (s.length : Int) ≤ most) : txt most 0 (Dig.enc s.length ++ s ++ m) = (s, 0, m) := by
  unfold txt
  rw [List.append_assoc, nbv_enc _ (by omega) (by omega)]
  simp only
  rw [if_neg (by omega)]
  unfold tk
  rw [if_neg (by simp), if_neg (by omega), if_neg (by rw [List.length_append]; omega), Int.toNat_natCast]
  simp
theorem rawV_to {x : Val} (h : chkV x = 0) (m : List Nat) : rawV 0 ((vb x).1 ++ m) = (x, 0, m) := by
  have hb : (vb x).1 = Dig.enc x.k.toNat ++ vp x := by unfold vb; rw [if_pos h]
  rw [hb, List.append_assoc]
  obtain ⟨k, n, b⟩ := x
  have q1 : ¬ ((2 : Nat) = 1) := by decide
  have q2 : ¬ ((3 : Nat) = 1) := by decide
  have q3 : ¬ ((3 : Nat) = 2) := by decide
  rcases chk_cases h with ⟨h1, h2, h3, h4⟩ | ⟨h1, h2, h3⟩ | ⟨h1, h2, h3⟩
  · simp only at h1 h2 h3 h4
    subst h1 h4
    have hz := zig_le n h2 h3
    rw [show vp ⟨1, n, ⟨#[]⟩⟩ = Dig.enc (zig n) from by unfold vp; simp]
    unfold rawV
    simp only [show (1 : Int).toNat = 1 from rfl]
    rw [nbv_enc _ (by omega) (by omega)]
    simp only [if_true]
    rw [nbv_enc _ (by omega) (by omega)]
    simp only [zag_zig]
  · simp only at h1 h2 h3
    subst h1 h2
    rw [show vp ⟨2, 0, b⟩ = Dig.enc b.size ++ sb b from by unfold vp; simp]
    unfold rawV
    simp only [show (2 : Int).toNat = 2 from rfl]
    rw [nbv_enc _ (by omega) (by omega)]
    simp only [q1, if_false, if_true]
    rw [← sb_length b, txt_to 64 (sb b) m (by rw [sb_length]; omega) (by rw [sb_length]; omega)]
    simp only [bs_sb]
  · simp only at h1 h2 h3
    subst h1 h3
    rw [show vp ⟨3, n, ⟨#[]⟩⟩ = Dig.enc n.toNat from by unfold vp; simp]
    unfold rawV
    simp only [show (3 : Int).toNat = 3 from rfl]
    rw [nbv_enc _ (by omega) (by omega)]
    simp only [q2, q3, if_false, if_true]
    rw [nbv_enc _ (by omega) (by omega)]
    simp only
    rw [Int.toNat_of_nonneg (by omega)]
theorem tkV_to {x : Val} (h : chkV x = 0) (m : List Nat) : tkV 0 ((vb x).1 ++ m) = (x, 0, m) := by
  unfold tkV
  rw [rawV_to h]
  simp only [h]
  rw [if_pos (by decide)]
theorem tkL_to {x : Lab} (h : chkL x = 0) (hp : x.p < 4294967296) (m : List Nat) : tkL 0 ((lb x).1 ++ m) = (x, 0, m) := by
  have hb : (lb x).1 = Dig.enc x.l.toNat ++ Dig.enc x.p := by unfold lb; rw [if_pos h]
  rw [hb, List.append_assoc]
  rcases chkL_cases x with ⟨_, h1, h2⟩ | ⟨h0, _⟩
  · unfold tkL
    rw [nbv_enc _ (by omega) (by omega)]
    simp only
    rw [nbv_enc _ (by omega) (by omega)]
    simp only
    rw [if_neg (show ¬ (7 < x.l.toNat ∨ 4294967295 < x.p) by omega), if_pos rfl, Int.toNat_of_nonneg h1]
  · omega
theorem tkA_to {a : Att} (h : chkA a = 0) (hp : a.lab.p < 4294967296) (m : List Nat) : tkA 0 (ab a ++ m) = (a, 0, m) := by
  obtain ⟨h1, h2, h3⟩ := chkA_yes h
  have hs := nm_size h1
  unfold tkA ab
  have e : (Dig.enc a.name.size ++ sb a.name) ++ ((lb a.lab).1 ++ (vb a.val).1) ++ m = Dig.enc (sb a.name).length ++ sb a.name ++ ((lb a.lab).1 ++ ((vb a.val).1 ++ m)) := by
    rw [sb_length]; simp only [List.append_assoc]
  rw [e, txt_to 24 _ _ (by rw [sb_length]; omega) (by rw [sb_length]; omega)]
  simp only
  rw [tkL_to h2 hp]
  simp only
  rw [tkV_to h3]
  simp only [bs_sb]
theorem tkN_to : ∀ (l : List Att) (m : List Nat), (∀ a ∈ l, chkA a = 0 ∧ a.lab.p < 4294967296) → tkN l.length 0 ((l.map ab).flatten ++ m) = (l, 0, m)
  | [], m, _ => rfl
  | a :: l, m, h => by
    have e : ((a :: l).map ab).flatten ++ m = ab a ++ ((l.map ab).flatten ++ m) := by simp
    rw [e, List.length_cons, tkN, if_pos rfl, tkA_to (h a (by simp)).1 (h a (by simp)).2]
    simp only
    rw [tkN_to l m (fun b hb => h b (List.mem_cons_of_mem _ hb))]
theorem tkAs_to {l : List Att} (h : mayA l = 0) (hp : ∀ a ∈ l, a.lab.p < 4294967296) (m : List Nat) : tkAs 0 (asB l ++ m) = (l, 0, m) := by
  have h8 := (may_yes h).1
  have e : tkLs 0 (asB l ++ m) = (l, 0, m) := by
    unfold tkLs asB
    rw [List.append_assoc, nbv_enc _ (by omega) (by omega)]
    simp only
    rw [if_neg (by omega)]
    exact tkN_to l m (fun a ha => by
      obtain ⟨i, hi, rfl⟩ := List.getElem_of_mem ha
      exact ⟨may_att h hi, hp _ ha⟩)
  unfold tkAs
  rw [e]
  simp only [h]
  rw [if_pos (by decide)]
end Go.Proofs.Ytbhfbpaaghpadaa
/- Two spans compared, by the document and by the program. No conditions. -/
set_option linter.unusedSimpArgs false
set_option linter.unusedVariables false
namespace Go.Proofs.Ytbhfbpaaghpadaa
open Go.RowKit

def SmR (w w' : World) (e : Ending) (p : Prop) : Prop := ∃ b, e = .returned (.bool b) ∧ (b = true ↔ p) ∧ Below w.heap.size w w'
theorem smNo {w w' : World} {p : Prop} (hp : ¬ p) (hb : Below w.heap.size w w') : SmR w w' (.returned (.bool false)) p := ⟨false, rfl, ⟨(by intro h; cases h), fun h => absurd h hp⟩, hb⟩
set_option maxHeartbeats 32000000 in
set_option maxRecDepth 100000 in
theorem refSameSpan_any {A B : Option Addr} {n c m d : Nat} {s t : Spn} {w : World} (h : AS w A n c s.ats) (h2 : AS w B m d t.ats) :
    Calls Try.prog 59 #[s.v (.slice A n c), t.v (.slice B m d)] w fun e w' => SmR w w' e (s = t) := by
  obtain ⟨tr1, id1, pa1, sv1, op1, st1, ln1, sj1, ats1⟩ := s
  obtain ⟨tr2, id2, pa2, sv2, op2, st2, ln2, sj2, ats2⟩ := t
  unfold Spn.v
  simp only at h h2 ⊢
  have hb1 := nx ((bel0 w).alloc (Nat.le_refl _) (.cells #[.int .i64 tr1, .int .i64 id1, .int .i64 pa1, .string sv1, .string op1, .int .i64 st1, .int .i64 ln1, .string sj1, .slice A n c] 32)) ((bel0 (w.alloc (.cells #[.int .i64 tr1, .int .i64 id1, .int .i64 pa1, .string sv1, .string op1, .int .i64 st1, .int .i64 ln1, .string sj1, .slice A n c] 32))).alloc (Nat.le_refl _) (.cells #[.int .i64 tr2, .int .i64 id2, .int .i64 pa2, .string sv2, .string op2, .int .i64 st2, .int .i64 ln2, .string sj2, .slice B m d] 32))
  have X1 : BSp _ w.heap.size ⟨tr1, id1, pa1, sv1, op1, st1, ln1, sj1, ats1⟩ (.slice A n c) := (BSp.new w ⟨tr1, id1, pa1, sv1, op1, st1, ln1, sj1, ats1⟩ (.slice A n c)).below ((bel0 _).alloc (Nat.le_refl _) (.cells #[.int .i64 tr2, .int .i64 id2, .int .i64 pa2, .string sv2, .string op2, .int .i64 st2, .int .i64 ln2, .string sj2, .slice B m d] 32))
  have X2 := BSp.new (w.alloc (.cells #[.int .i64 tr1, .int .i64 id1, .int .i64 pa1, .string sv1, .string op1, .int .i64 st1, .int .i64 ln1, .string sj1, .slice A n c] 32)) ⟨tr2, id2, pa2, sv2, op2, st2, ln2, sj2, ats2⟩ (.slice B m d)
  simp only at X1 X2 hb1
  have HA := Lib.hid (h.below hb1)
  have HB := Lib.hid (h2.below hb1)
  clear h h2
  go_enter Try.func59, Try.ntmps59
  skip
  rw [World.size_alloc] at X2
  obtain ⟨W1, hW⟩ : ∃ W, W = (w.alloc (.cells #[.int .i64 tr1, .int .i64 id1, .int .i64 pa1, .string sv1, .string op1, .int .i64 st1, .int .i64 ln1, .string sj1, .slice A n c] 32)).alloc (.cells #[.int .i64 tr2, .int .i64 id2, .int .i64 pa2, .string sv2, .string op2, .int .i64 st2, .int .i64 ln2, .string sj2, .slice B m d] 32) := ⟨_, rfl⟩
  rw [← hW] at X1 X2 hb1 HA HB
  have HB1 := Lib.hid hb1
  have HW := Lib.hid hW
  clear hb1 hW
  obtain ⟨x0, x1, x2, x3, x4, x5, x6, x7, x8⟩ := X1.cells
  obtain ⟨y0, y1, y2, y3, y4, y5, y6, y7, y8⟩ := X2.cells
  simp only at x0 x1 x2 x3 x4 x5 x6 x7 x8 y0 y1 y2 y3 y4 y5 y6 y7 y8
  clear X1 X2
  by_cases etr : tr1 = tr2
  case neg =>
    have hsf : (tr1 == tr2) = false := by simpa using etr
    go_wp2_with fail
    go_ret
    exact smNo (fun e => etr (by injection e)) (by rw [← HW.out]; exact HB1.out)
  subst etr
  by_cases eid : id1 = id2
  case neg =>
    have hsf : (id1 == id2) = false := by simpa using eid
    go_wp2_with fail
    go_ret
    exact smNo (fun e => eid (by injection e)) (by rw [← HW.out]; exact HB1.out)
  subst eid
  by_cases epa : pa1 = pa2
  case neg =>
    have hsf : (pa1 == pa2) = false := by simpa using epa
    go_wp2_with fail
    go_ret
    exact smNo (fun e => epa (by injection e)) (by rw [← HW.out]; exact HB1.out)
  subst epa
  by_cases esv : sv1 = sv2
  case neg =>
    have hsf : (sv1.toList == sv2.toList) = false := by simpa using (fun e => esv (toList_inj e))
    go_wp2_with fail
    go_ret
    exact smNo (fun e => esv (by injection e)) (by rw [← HW.out]; exact HB1.out)
  subst esv
  by_cases eop : op1 = op2
  case neg =>
    have hsf : (op1.toList == op2.toList) = false := by simpa using (fun e => eop (toList_inj e))
    go_wp2_with fail
    go_ret
    exact smNo (fun e => eop (by injection e)) (by rw [← HW.out]; exact HB1.out)
  subst eop
  by_cases est : st1 = st2
  case neg =>
    have hsf : (st1 == st2) = false := by simpa using est
    go_wp2_with fail
    go_ret
    exact smNo (fun e => est (by injection e)) (by rw [← HW.out]; exact HB1.out)
  subst est
  by_cases eln : ln1 = ln2
  case neg =>
    have hsf : (ln1 == ln2) = false := by simpa using eln
    go_wp2_with fail
    go_ret
    exact smNo (fun e => eln (by injection e)) (by rw [← HW.out]; exact HB1.out)
  subst eln
  by_cases esj : sj1 = sj2
  case neg =>
    have hsf : (sj1.toList == sj2.toList) = false := by simpa using (fun e => esj (toList_inj e))
    go_wp2_with fail
    go_ret
    exact smNo (fun e => esj (by injection e)) (by rw [← HW.out]; exact HB1.out)
  subst esj
  go_wp2_with fail
  rw [← HW.out]
  refine (same_any HA.out HB.out).mono ?_
  rintro e W2 ⟨bb, rfl, hbb, hb2⟩
  have HBB := Lib.hid hbb
  have HB2 := Lib.hid (nx HB1.out hb2)
  clear hbb hb2
  go_wp2_with fail
  go_ret
  exact ⟨bb, rfl, ⟨fun h => by rw [HBB.out.1 h], fun e => HBB.out.2 (by injection e)⟩, HB2.out⟩
end Go.Proofs.Ytbhfbpaaghpadaa
