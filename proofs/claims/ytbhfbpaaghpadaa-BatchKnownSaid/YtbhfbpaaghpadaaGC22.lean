/- The closure of value.TakeAttrs: its contract. No conditions. -/
import Derived.Test.YtbhfbpaaghpadaaGC21
import Derived.Test.YtbhfbpaaghpadaaGC14
import Derived.Deep.RegionHeld3
set_option linter.unusedSimpArgs false
set_option linter.unusedVariables false
namespace Go.Proofs.Ytbhfbpaaghpadaa
open Go.RowKit

/-- An attribute off a reader. -/
def tkA (e : Int) (l : List Nat) : Att × Int × List Nat :=
  (⟨bs (txt 24 e l).1, (tkL (txt 24 e l).2.1 (txt 24 e l).2.2).1, (tkV (tkL (txt 24 e l).2.1 (txt 24 e l).2.2).2.1 (tkL (txt 24 e l).2.1 (txt 24 e l).2.2).2.2).1⟩,
    (tkV (tkL (txt 24 e l).2.1 (txt 24 e l).2.2).2.1 (tkL (txt 24 e l).2.1 (txt 24 e l).2.2).2.2).2)
theorem tkA_keep {W a : World} {qb q g : Nat} (hb : W.heap[qb]? = some (.cells #[.pointer (some ⟨g, 0, none⟩)] 76 (0, 0)))
    (hq : W.heap[q]? = some (.cells #[.string ⟨#[]⟩, .int .i64 0, .int .u32 0, .int .i64 0, .int .i64 0, .string ⟨#[]⟩] 46 (0, 0))) (nb : qb ≠ g) (nq : q ≠ g) (hg : W.grownBy a (some g)) :
    W.grownBy a (some g) ∧ a.cell? ⟨qb, 0, none⟩ = some (.pointer (some ⟨g, 0, none⟩)) ∧
      a.cell? ⟨q, 0, none⟩ = some (.string ⟨#[]⟩) ∧ a.cell? ⟨q, 1, none⟩ = some (.int .i64 0) ∧ a.cell? ⟨q, 2, none⟩ = some (.int .u32 0) ∧ a.cell? ⟨q, 3, none⟩ = some (.int .i64 0) ∧ a.cell? ⟨q, 4, none⟩ = some (.int .i64 0) ∧ a.cell? ⟨q, 5, none⟩ = some (.string ⟨#[]⟩) ∧
      a.frozen? ⟨q, 0, none⟩ = false ∧ a.frozen? ⟨q, 1, none⟩ = false ∧ a.frozen? ⟨q, 2, none⟩ = false ∧ a.frozen? ⟨q, 3, none⟩ = false ∧ a.frozen? ⟨q, 4, none⟩ = false ∧ a.frozen? ⟨q, 5, none⟩ = false := by
  have e1 := (hg.block qb (Array.getElem?_eq_some_iff.1 hb).1 (fun e => nb (by injection e))).trans hb
  have e2 := (hg.block q (Array.getElem?_eq_some_iff.1 hq).1 (fun e => nq (by injection e))).trans hq
  exact ⟨hg, cell_of e1 0, cell_of e2 0, cell_of e2 1, cell_of e2 2, cell_of e2 3, cell_of e2 4, cell_of e2 5, frozen_of e2 0, frozen_of e2 1, frozen_of e2 2, frozen_of e2 3, frozen_of e2 4, frozen_of e2 5⟩

theorem BA.put {w : World} {q : Nat} {x0 : Att} (h : BA w q x0) (x : Att) :
    ∃ W, W = (((((w.setCell ⟨q, 0, none⟩ (.string x.name)).setCell ⟨q, 1, none⟩ (.int .i64 x.lab.l)).setCell ⟨q, 2, none⟩ (.int .u32 (x.lab.p : Int))).setCell ⟨q, 3, none⟩ (.int .i64 x.val.k)).setCell ⟨q, 4, none⟩ (.int .i64 x.val.n)).setCell ⟨q, 5, none⟩ (.string x.val.b) ∧ BA W q x ∧
      (∀ lo g e l, Rdr w lo g e l → (q < lo ∨ g < q) → Rdr W lo g e l) := by
  refine ⟨_, rfl, ?_, fun lo g e l hr ho => ?_⟩
  · unfold BA at h ⊢
    rw [heap_set (heap_set (heap_set (heap_set (heap_set (heap_set h 0 _) 1 _) 2 _) 3 _) 4 _) 5 _]
    rfl
  · have st : ∀ (a : World) (i : Nat) (v : Value), Rdr a lo g e l → Rdr (a.setCell ⟨q, i, none⟩ v) lo g e l := fun a i v hr => hr.grown (grown_set _ _ _ _) (fun j hj => by cases hj; exact ho)
    exact st _ _ _ (st _ _ _ (st _ _ _ (st _ _ _ (st _ _ _ (st _ _ _ hr)))))
theorem tkS {w a : World} {qb g : Nat} (hb : w.heap[qb]? = some (.cells #[.pointer (some ⟨g, 0, none⟩)] 76 (0, 0))) (nb : qb ≠ g) (hg : w.grownBy a (some g)) :
    w.grownBy a (some g) ∧ a.cell? ⟨qb, 0, none⟩ = some (.pointer (some ⟨g, 0, none⟩)) := by
  have e1 := (hg.block qb (Array.getElem?_eq_some_iff.1 hb).1 (fun e => nb (by injection e))).trans hb
  exact ⟨hg, cell_of e1 0⟩
set_option maxHeartbeats 16000000 in
set_option maxRecDepth 100000 in
theorem takeA_any {lo g qb : Nat} {e : Int} {l : List Nat} {w : World} (h : Rdr w lo g e l) (hb : w.heap[qb]? = some (.cells #[.pointer (some ⟨g, 0, none⟩)] 76 (0, 0))) (hn : qb ≠ g) :
    Calls Try.prog 55 #[.pointer (some ⟨qb, 0, none⟩)] w fun r w' => TkR w w' r lo g (tkA e l).1.v (tkA e l).2.1 (tkA e l).2.2 := by
  obtain ⟨X, hX⟩ : ∃ X, X = tkA e l := ⟨_, rfl⟩
  rw [← hX]
  unfold tkA at hX
  have hlt := h.lt
  have HH := Lib.hid h
  have HB := Lib.hid hb
  clear h hb
  generalize hx1 : txt 24 e l = x1 at *
  obtain ⟨s, e1, l1⟩ := x1
  simp only at hX
  generalize hx2 : tkL e1 l1 = x2 at *
  obtain ⟨lab, e2, l2⟩ := x2
  simp only at hX
  generalize hx3 : tkV e2 l2 = x3 at *
  obtain ⟨val, e3, l3⟩ := x3
  simp only at hX
  have HX := Lib.hid hX
  have C1 : Hid (∀ w, Rdr w lo g e l → Calls Try.prog 33 #[.pointer (some ⟨g, 0, none⟩), .int .i64 24] w fun r w' => TxtR w w' r lo g (s, e1, l1)) := Lib.hid (fun w h => by rw [← hx1]; exact rdText_any 24 h)
  have C2 : Hid (∀ w, Rdr w lo g e1 l1 → Calls Try.prog 56 #[.pointer (some ⟨g, 0, none⟩)] w fun r w' => TkR w w' r lo g (.agg #[.int .i64 lab.l, .int .u32 (lab.p : Int)]) e2 l2) := Lib.hid (fun w h => by have := takeL_any h; rw [hx2] at this; exact this)
  have C3 : Hid (∀ w, Rdr w lo g e2 l2 → Calls Try.prog 57 #[.pointer (some ⟨g, 0, none⟩)] w fun r w' => TkR w w' r lo g (.agg #[.int .i64 val.k, .int .i64 val.n, .string val.b]) e3 l3) := Lib.hid (fun w h => by have := takeV_any h; rw [hx3] at this; exact this)
  clear hX hx1 hx2 hx3
  go_enter Try.func55, Try.ntmps55
  go_wp2_with fail
  obtain ⟨wa, hwa⟩ : ∃ wa, wa = w.alloc (.cells #[.string ⟨#[]⟩, .int .i64 0, .int .u32 0, .int .i64 0, .int .i64 0, .string ⟨#[]⟩] 46) := ⟨_, rfl⟩
  obtain ⟨q, hq⟩ : ∃ q, q = w.heap.size := ⟨_, rfl⟩
  rw [← hwa, ← hq]
  have hqb : qb < w.heap.size := (Array.getElem?_eq_some_iff.1 HB.out).1
  have RA : Rdr wa lo g e l := by rw [hwa]; exact HH.out.grown (World.grownBy_alloc _ _ none) (fun j hj => by cases hj)
  have GA : w.grownBy wa (some g) := by rw [hwa]; exact World.grownBy_alloc _ _ _
  have hbA : wa.heap[qb]? = some (.cells #[.pointer (some ⟨g, 0, none⟩)] 76 (0, 0)) := by rw [hwa]; exact (Below.heap_alloc _ _ _ hqb).trans HB.out
  have hqA : wa.heap[q]? = some (.cells #[.string ⟨#[]⟩, .int .i64 0, .int .u32 0, .int .i64 0, .int .i64 0, .string ⟨#[]⟩] 46 (0, 0)) := by rw [hwa, hq]; exact heap_alloc_new w _
  have hqg : q ≠ g := by omega
  have HQ2 := Lib.hid (show w.heap.size ≤ q by omega)
  have TK := Lib.hid (fun a hg => tkA_keep (a := a) hbA hqA hn hqg hg)
  have HQA := Lib.hid hqA
  have SO := Lib.hid (fun a (hg : w.grownBy a (some g)) => tkS HB.out hn hg)
  have RAH := Lib.hid RA
  have GAH := Lib.hid GA
  have hgq : g < q := by omega
  clear hwa hq hqA hbA RA GA hlt
  go_region_held3 (fun a => w.grownBy a (some g) ∧ a.cell? ⟨qb, 0, none⟩ = some (.pointer (some ⟨g, 0, none⟩)))
    (first | (with_reducible exact SO.out _ (gset (gset (gset (gset (gset (gset (And.left (b := _) (by assumption)) HQ2.out) HQ2.out) HQ2.out) HQ2.out) HQ2.out) HQ2.out)) | (with_reducible exact SO.out _ (World.grownBy.trans (And.left (b := _) (by assumption)) (by assumption))) | exact SO.out _ (gbelow GAH.out (bel0 _).drew))
    (first
      | (go_at_call 33; (with_reducible refine (C1.out _ (RAH.out.below (bel0 _).drew)).mono ?_); rintro r w1 ⟨rfl, _, _, hr1, hg1⟩)
      | (go_at_call 56; (with_reducible refine (C2.out _ hr1).mono ?_); rintro r w2 ⟨rfl, hr2, hg2⟩)
      | (go_at_call 57; (with_reducible refine (C3.out _ hr2).mono ?_); rintro r w3 ⟨rfl, hr3, hg3⟩; obtain ⟨_, _, c0, c1, c2, c3, c4, c5, f0, f1, f2, f3, f4, f5⟩ := TK.out _ ((grown_of_below (bel0 _).drew (some g)).trans (hg1.trans (hg2.trans hg3)))))
  rename_i hK
  have hG := And.left (b := _) hK
  have hB3 : BA w3 q ⟨⟨#[]⟩, ⟨0, 0⟩, ⟨0, 0, ⟨#[]⟩⟩⟩ := (((grown_of_below (bel0 _).drew (some g)).trans (hg1.trans (hg2.trans hg3))).block q (Array.getElem?_eq_some_iff.1 HQA.out).1 (fun e => hqg (by injection e))).trans HQA.out
  obtain ⟨W, hW, BW, RW⟩ := hB3.put ⟨bs s, lab, val⟩
  simp only at hW
  have hRW := RW _ _ _ _ hr3 (by omega)
  rw [← hW] at hG ⊢
  clear hK hW RW hB3 c0 c1 c2 c3 c4 c5 f0 f1 f2 f3 f4 f5
  obtain ⟨d0, d1, d2, d3, d4, d5⟩ := BW.cells
  simp only at d0 d1 d2 d3 d4 d5
  go_wp2_with fail
  refine bodyPost_ret (by simp [results, Try.results55, go_sem, d0, d1, d2, d3, d4, d5]; try rfl) rfl ?_
  rw [HX.out]
  exact ⟨rfl, hRW, hG⟩
end Go.Proofs.Ytbhfbpaaghpadaa
/- value.list at attributes: its contract. No conditions. -/
set_option linter.unusedSimpArgs false
set_option linter.unusedVariables false
namespace Go.Proofs.Ytbhfbpaaghpadaa
open Go.RowKit

theorem infoAtt : (Try.prog.info? 46).map (fun i => (i.zero, i.size, i.bytes)) = some (some (.agg #[.string ⟨#[]⟩, .int .i64 0, .int .u32 0, .int .i64 0, .int .i64 0, .string ⟨#[]⟩]), 6, 64) := by kernel_rfl
theorem att_oneCell (a : Att) : ∀ u ∈ a.cells, u.oneCell' = true := by
  intro u hu
  simp only [Att.cells, List.mem_cons, List.not_mem_nil, or_false] at hu
  rcases hu with rfl | rfl | rfl | rfl | rfl | rfl <;> rfl
/-- append(v, a) of attributes. -/
theorem append_att {w : World} {ops : Array Oper} {rest : List Oper} {o : Oper} {a : Act} {Q : Exit → Act → World → Prop} (hgd : o.guard = none) (s x : Operand)
    (ho : o.op = .call { callee := .builtin .append, args := #[s, x], argTypes := #[30, 30] })
    (base : Nat) (v : Value) (l : List Att) (b : Att) (hs : a.eval s = v) (hown : w.ownsRow base 46 6 v l.length (acs l))
    (g : Nat) (hx : a.eval x = .slice (some ⟨g, 0, none⟩) 1 1) (hm : BA w g b) (hb : l.length ≤ 1000000000) (hbase : base ≤ w.heap.size)
    (h : ∀ v' w', w'.ownsRow base 46 6 v' (l ++ [b]).length (acs (l ++ [b])) → w.grownBy w' v.ownBlock → (∀ k, v'.ownBlock = some k → v.ownBlock = some k ∨ w.heap.size ≤ k) → wpList Try.prog ops Q rest (a.put o.dst v') w') :
    wpList Try.prog ops Q (o :: rest) a w :=
  wpList_plain hgd fun _ hK => by
    refine wp_append_any s x _ ho base 46 _ 6 64 Try.underlying30 infoAtt rfl (by decide) v l.length (acs l) hs hown _ 1 1 b.cells hx (by simp) (by omega) rfl ?_ (att_oneCell b) (by unfold maxLen; omega) (by omega) hbase ?_
    · intro i hi
      refine ⟨_, rfl, ?_⟩
      rw [addr_add, Nat.zero_add, cell_of hm i]
      show (b.cells.toArray)[i]? = _
      rw [List.getElem?_toArray]
      exact List.getElem?_eq_getElem hi
    · intro v' w' h1 h2 h3
      refine hK _ _ (h v' w' ?_ h2 h3)
      rw [acs_append]
      simpa [acs] using h1
theorem gown {w a b : World} {row row' : Option Nat} (h : w.grownBy a row) (hg : a.grownBy b row') (hr : ∀ k, row' = some k → w.heap.size ≤ k) : w.grownBy b row :=
  ⟨hg.os.trans h.os, hg.tape.trans h.tape, hg.output.trans h.output, Nat.le_trans h.size hg.size, fun k hk hne => (hg.block k (Nat.lt_of_lt_of_le hk h.size) (fun e => by have := hr k e.symm; omega)).trans (h.block k hk hne)⟩

/-- So many attributes off a reader, as long as it tells nothing. -/
def tkN : Nat → Int → List Nat → List Att × Int × List Nat
  | 0, e, l => ([], e, l)
  | n + 1, e, l => if e = 0 then ((tkA e l).1 :: (tkN n (tkA e l).2.1 (tkA e l).2.2).1, (tkN n (tkA e l).2.1 (tkA e l).2.2).2) else ([], e, l)
theorem tkN_stop (n : Nat) {e : Int} (h : e ≠ 0) (l : List Nat) : tkN n e l = ([], e, l) := by
  cases n with
  | zero => rfl
  | succ n => exact if_neg h
/-- What list takes off. -/
def tkLs (e : Int) (l : List Nat) : List Att × Int × List Nat :=
  tkN (nb 9007199254740991 e l).1 (if 8 < (nb 9007199254740991 e l).1 then failE (nb 9007199254740991 e l).2.1 4 else (nb 9007199254740991 e l).2.1) (nb 9007199254740991 e l).2.2
/-- .. in memory. -/
def LsR (w w' : World) (r : Ending) (lo g : Nat) (x : List Att × Int × List Nat) : Prop :=
  ∃ v, r = .returned v ∧ w'.ownsRow w.heap.size 46 6 v x.1.length (acs x.1) ∧ Rdr w' lo g x.2.1 x.2.2 ∧ w.grownBy w' (some g)

set_option maxHeartbeats 16000000 in
set_option maxRecDepth 100000 in
theorem list_any {lo g qb : Nat} {e : Int} {l : List Nat} {w : World} (h : Rdr w lo g e l) (hb : w.heap[qb]? = some (.cells #[.pointer (some ⟨g, 0, none⟩)] 76 (0, 0))) (hn : qb ≠ g) :
    Calls Try.prog 54 #[.pointer (some ⟨g, 0, none⟩), .int .i64 8, .func (.func 55) #[] #[.pointer (some ⟨qb, 0, none⟩)]] w fun r w' => LsR w w' r lo g (tkLs e l) := by
  obtain ⟨X, hX⟩ : ∃ X, X = tkLs e l := ⟨_, rfl⟩
  rw [← hX]
  unfold tkLs at hX
  have hlt := h.lt
  have HH := Lib.hid h
  have HB := Lib.hid hb
  have hle := nb_le 9007199254740991 e l
  clear h hb
  generalize hx1 : nb 9007199254740991 e l = x1 at *
  obtain ⟨N, e0, l1⟩ := x1
  have HN1 := Lib.hid hx1
  simp only at hX hle
  clear hx1
  obtain ⟨e1, he1⟩ : ∃ e1, e1 = (if 8 < N then failE e0 4 else e0) := ⟨_, rfl⟩
  rw [← he1] at hX
  have h8 : e1 = 0 → N ≤ 8 := by
    intro h0
    rw [h0] at he1
    split at he1
    · unfold failE at he1
      split at he1 <;> omega
    · omega
  have HX := Lib.hid hX
  have HE1 := Lib.hid he1
  have H8 := Lib.hid h8
  clear hX he1 h8
  have main : ∀ (w2 : World), Rdr w2 lo g e1 l1 → w.grownBy w2 (some g) → Hid (Rdr w2 lo g e1 l1) ∧ Hid (w.grownBy w2 (some g)) := fun w2 a b => ⟨Lib.hid a, Lib.hid b⟩
  by_cases hN : 8 < N
  · have zN : (8 : Int) < (N : Int) := by omega
    have hee : e1 = failE e0 4 := HE1.out.trans (if_pos hN)
    have hne : e1 ≠ 0 := fun h => by have := H8.out h; omega
    have HX1 := Lib.hid (HX.out.trans (tkN_stop N hne l1))
    have HFE := Lib.hid (show failE e0 4 = if e0 = 0 then 4 else e0 from rfl)
    have HEE := Lib.hid hee
    have hne' : (e1 == 0) = false := by simp; exact hne
    clear hee HX hN hne
    go_enter Try.func54, Try.ntmps54
    go_wp2_with fail
    refine (rdU_any HH.out).mono ?_
    rw [HN1.out]
    rintro r w1 ⟨rfl, hr, hg⟩
    simp only at hr ⊢
    have R1 := Lib.hid hr
    have G1 := Lib.hid hg
    clear hr hg
    go_wp2_with fail
    refine (Fail_any 4 R1.out).mono ?_
    rintro r w2 ⟨rfl, hr, hg⟩
    rw [← HFE.out, ← HEE.out] at hr
    have R2 := Lib.hid hr
    have G2 := Lib.hid (G1.out.trans hg)
    have zN0 : (0 : Int) < (N : Int) := by omega
    have zN1 : 0 < N := by omega
    clear hr hg
    go_wp2_with fail
    refine wp_loop_rounds 1 ?_
    rw [rounds_succ]
    go_wp2_with fail
    refine (Err_any R2.out).mono ?_
    rintro r w3 ⟨rfl, rfl⟩
    go_wp2_with fail
    go_ret
    rw [HX1.out]
    exact ⟨_, rfl, World.ownsRow_nil _ _ _ _, R2.out, G2.out⟩
  · have zN : ¬ (8 : Int) < (N : Int) := by omega
    have hee : e1 = e0 := HE1.out.trans (if_neg hN)
    subst hee
    go_enter Try.func54, Try.ntmps54
    go_wp2_with fail
    refine (rdU_any HH.out).mono ?_
    rw [HN1.out]
    rintro r w1 ⟨rfl, hr, hg⟩
    simp only at hr ⊢
    have R1 := Lib.hid hr
    have G1 := Lib.hid hg
    clear hr hg
    go_wp2_with fail
    go_loopw [7, 8] (fun i o wr => ∃ (m : Nat) (P : List Att) (e' : Int) (l' : List Nat), i = .int .i64 (m : Int) ∧ P.length + m = N ∧ Hid (wr.ownsRow w.heap.size 46 6 o P.length (acs P)) ∧ Hid (Rdr wr lo g e' l') ∧ Hid (w.grownBy wr (some g)) ∧ Hid (X = (P ++ (tkN m e' l').1, (tkN m e' l').2))) (fun i _ _ => (intOf i).toNat)
    case atStart => exact ⟨N, [], e1, l1, rfl, by simp, Lib.hid (World.ownsRow_nil _ _ _ _), R1, G1, Lib.hid (by rw [HX.out]; simp)⟩
    case round =>
      clear R1 G1
      obtain ⟨m, P, e', l', rfl, hPm, HO, HR, HG, HT⟩ := hrel
      by_cases hm : m = 0
      · subst hm
        have HX1 := Lib.hid (show X = (P, e', l') by rw [HT.out]; simp [tkN])
        go_wp2_with fail
        go_ret
        rw [HX1.out]
        exact ⟨_, rfl, HO.out, HR.out, HG.out⟩
      · obtain ⟨m', hm'⟩ : ∃ m', m = m' + 1 := ⟨m - 1, by omega⟩
        have zm : (0 : Int) < (m : Int) := by omega
        have zm1 : 0 < m := by omega
        have zm2 : (m : Int) - 1 = (m' : Int) := by omega
        by_cases he : e' = 0
        · subst he
          have hT := HT.out
          rw [hm'] at hT
          unfold tkN at hT
          rw [if_pos rfl] at hT
          have hqw := (HG.out.block qb (Array.getElem?_eq_some_iff.1 HB.out).1 (fun e => hn (by injection e))).trans HB.out
          have TA := Lib.hid (takeA_any HR.out hqw hn)
          have TA0 := TA.out
          clear TA
          generalize tkA 0 l' = x3 at *
          obtain ⟨a, e2, l2⟩ := x3
          simp only at hT TA0
          unfold Att.v Att.cells at TA0
          have TA := Lib.hid TA0
          have HT2 := Lib.hid hT
          have hP8 : P.length ≤ 1000000000 := by omega
          clear hT TA0 hqw HT
          go_wp2_with fail
          refine (Err_any HR.out).mono ?_
          rintro r w3 ⟨rfl, rfl⟩
          go_wp2_with fail
          refine TA.out.mono ?_
          rintro r w4 ⟨rfl, hr, hg⟩
          have R4 := Lib.hid (hr.grown (World.grownBy_alloc w4 (.cells #[.string a.name, .int .i64 a.lab.l, .int .u32 (a.lab.p : Int), .int .i64 a.val.k, .int .i64 a.val.n, .string a.val.b] 46) none) (fun j hj => by cases hj))
          have O4 := Lib.hid ((own_grown HO.out hg (fun k hk => by have := own_block HO.out k hk; omega)).alloc (.cells #[.string a.name, .int .i64 a.lab.l, .int .u32 (a.lab.p : Int), .int .i64 a.val.k, .int .i64 a.val.n, .string a.val.b] 46))
          have G4 := Lib.hid (galloc (HG.out.trans hg) (.cells #[.string a.name, .int .i64 a.lab.l, .int .u32 (a.lab.p : Int), .int .i64 a.val.k, .int .i64 a.val.n, .string a.val.b] 46))
          have BN := Lib.hid (BA.new w4 a)
          clear hr hg
          go_wp2_with (at_builtin; refine append_att rfl _ _ rfl w.heap.size _ P a rfl O4.out _ rfl BN.out hP8 G4.out.size ?_; intro v5 w5 ho5 hg5 hv5)
          have HO5 := Lib.hid ho5
          have R5 := Lib.hid (R4.out.grown hg5 (fun k hk => by have := own_block O4.out k hk; omega))
          have G5 := Lib.hid (gown G4.out hg5 (own_block O4.out))
          clear ho5 hg5 hv5
          go_wp2_with fail
          exact ⟨⟨m', P ++ [a], e2, l2, by go_num, by rw [List.length_append]; simp; omega, HO5, R5, G5, Lib.hid (by rw [HT2.out]; simp)⟩, by simp [intOf]; omega⟩
        · have he' : (e' == 0) = false := by simp; exact he
          have HX1 := Lib.hid (show X = (P, e', l') by rw [HT.out, tkN_stop m he]; simp)
          clear hm'
          go_wp2_with fail
          refine (Err_any HR.out).mono ?_
          rintro r w3 ⟨rfl, rfl⟩
          go_wp2_with fail
          go_ret
          rw [HX1.out]
          exact ⟨_, rfl, HO.out, HR.out, HG.out⟩
end Go.Proofs.Ytbhfbpaaghpadaa
