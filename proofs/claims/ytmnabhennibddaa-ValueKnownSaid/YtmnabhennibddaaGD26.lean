/- value.list at attributes: its contract. No conditions. -/
import Derived.Test.YtmnabhennibddaaGD25
set_option linter.unusedSimpArgs false
set_option linter.unusedVariables false
namespace Go.Proofs.Ytmnabhennibddaa
open Go.RowKit

theorem infoAtt : (Try.prog.info? 49).map (fun i => (i.zero, i.size, i.bytes)) = some (some (.agg #[.string ⟨#[]⟩, .int .i64 0, .int .u32 0, .int .i64 0, .int .i64 0, .string ⟨#[]⟩]), 6, 64) := by kernel_rfl
theorem att_oneCell (a : Att) : ∀ u ∈ a.cells, u.oneCell' = true := by
  intro u hu
  simp only [Att.cells, List.mem_cons, List.not_mem_nil, or_false] at hu
  rcases hu with rfl | rfl | rfl | rfl | rfl | rfl <;> rfl
/-- append(v, a) of attributes. -/
theorem append_att {w : World} {ops : Array Oper} {rest : List Oper} {o : Oper} {a : Act} {Q : Exit → Act → World → Prop} (hgd : o.guard = none) (s x : Operand)
    (ho : o.op = .call { callee := .builtin .append, args := #[s, x], argTypes := #[50, 50] })
    (base : Nat) (v : Value) (l : List Att) (b : Att) (hs : a.eval s = v) (hown : w.ownsRow base 49 6 v l.length (acs l))
    (g : Nat) (hx : a.eval x = .slice (some ⟨g, 0, none⟩) 1 1) (hm : BA w g b) (hb : l.length ≤ 1000000000) (hbase : base ≤ w.heap.size)
    (h : ∀ v' w', w'.ownsRow base 49 6 v' (l ++ [b]).length (acs (l ++ [b])) → w.grownBy w' v.ownBlock → (∀ k, v'.ownBlock = some k → v.ownBlock = some k ∨ w.heap.size ≤ k) → wpList Try.prog ops Q rest (a.put o.dst v') w') :
    wpList Try.prog ops Q (o :: rest) a w :=
  wpList_plain hgd fun _ hK => by
    refine wp_append_any s x _ ho base 49 _ 6 64 Try.underlying50 infoAtt rfl (by decide) v l.length (acs l) hs hown _ 1 1 b.cells hx (by simp) (by omega) rfl ?_ (att_oneCell b) (by unfold maxLen; omega) (by omega) hbase ?_
    · intro i hi
      refine ⟨_, rfl, ?_⟩
      rw [addr_add, Nat.zero_add, cell_of hm i]
      show (b.cells.toArray)[i]? = _
      rw [List.getElem?_toArray]
      exact List.getElem?_eq_getElem hi
    · intro v' w' h1 h2 h3
      refine hK _ _ (h v' w' ?_ h2 h3)
      rw [acs_append]
      simpa [acs] using h1
theorem gown {w a b : World} {row row' : Option Nat} (h : w.grownBy a row) (hg : a.grownBy b row') (hr : ∀ k, row' = some k → w.heap.size ≤ k) : w.grownBy b row :=
  ⟨hg.os.trans h.os, hg.tape.trans h.tape, hg.output.trans h.output, Nat.le_trans h.size hg.size, fun k hk hne => (hg.block k (Nat.lt_of_lt_of_le hk h.size) (fun e => by have := hr k e.symm; omega)).trans (h.block k hk hne)⟩

/-- So many attributes off a reader, as long as it tells nothing. -/
def tkN : Nat → Int → List Nat → List Att × Int × List Nat
  | 0, e, l => ([], e, l)
  | n + 1, e, l => if e = 0 then ((tkA e l).1 :: (tkN n (tkA e l).2.1 (tkA e l).2.2).1, (tkN n (tkA e l).2.1 (tkA e l).2.2).2) else ([], e, l)
theorem tkN_stop (n : Nat) {e : Int} (h : e ≠ 0) (l : List Nat) : tkN n e l = ([], e, l) := by
  cases n with
  | zero => rfl
  | succ n => exact if_neg h
/-- What list takes off. -/
def tkLs (e : Int) (l : List Nat) : List Att × Int × List Nat :=
  tkN (nb 9007199254740991 e l).1 (if 8 < (nb 9007199254740991 e l).1 then failE (nb 9007199254740991 e l).2.1 4 else (nb 9007199254740991 e l).2.1) (nb 9007199254740991 e l).2.2
/-- .. in memory. -/
def LsR (w w' : World) (r : Ending) (lo g : Nat) (x : List Att × Int × List Nat) : Prop :=
  ∃ v, r = .returned v ∧ w'.ownsRow w.heap.size 49 6 v x.1.length (acs x.1) ∧ Rdr w' lo g x.2.1 x.2.2 ∧ w.grownBy w' (some g)

set_option maxHeartbeats 16000000 in
set_option maxRecDepth 100000 in
theorem list_any {lo g qb : Nat} {e : Int} {l : List Nat} {w : World} (h : Rdr w lo g e l) (hb : w.heap[qb]? = some (.cells #[.pointer (some ⟨g, 0, none⟩)] 53 (0, 0))) (hn : qb ≠ g) :
    Calls Try.prog 56 #[.pointer (some ⟨g, 0, none⟩), .int .i64 8, .func (.func 57) #[] #[.pointer (some ⟨qb, 0, none⟩)]] w fun r w' => LsR w w' r lo g (tkLs e l) := by
  obtain ⟨X, hX⟩ : ∃ X, X = tkLs e l := ⟨_, rfl⟩
  rw [← hX]
  unfold tkLs at hX
  have hlt := h.lt
  have HH := Lib.hid h
  have HB := Lib.hid hb
  have hle := nb_le 9007199254740991 e l
  clear h hb
  generalize hx1 : nb 9007199254740991 e l = x1 at *
  obtain ⟨N, e0, l1⟩ := x1
  have HN1 := Lib.hid hx1
  simp only at hX hle
  clear hx1
  obtain ⟨e1, he1⟩ : ∃ e1, e1 = (if 8 < N then failE e0 4 else e0) := ⟨_, rfl⟩
  rw [← he1] at hX
  have h8 : e1 = 0 → N ≤ 8 := by
    intro h0
    rw [h0] at he1
    split at he1
    · unfold failE at he1
      split at he1 <;> omega
    · omega
  have HX := Lib.hid hX
  have HE1 := Lib.hid he1
  have H8 := Lib.hid h8
  clear hX he1 h8
  have main : ∀ (w2 : World), Rdr w2 lo g e1 l1 → w.grownBy w2 (some g) → Hid (Rdr w2 lo g e1 l1) ∧ Hid (w.grownBy w2 (some g)) := fun w2 a b => ⟨Lib.hid a, Lib.hid b⟩
  by_cases hN : 8 < N
  · have zN : (8 : Int) < (N : Int) := by omega
    have hee : e1 = failE e0 4 := HE1.out.trans (if_pos hN)
    have hne : e1 ≠ 0 := fun h => by have := H8.out h; omega
    have HX1 := Lib.hid (HX.out.trans (tkN_stop N hne l1))
    have HFE := Lib.hid (show failE e0 4 = if e0 = 0 then 4 else e0 from rfl)
    have HEE := Lib.hid hee
    have hne' : (e1 == 0) = false := by simp; exact hne
    clear hee HX hN hne
    go_enter Try.func56, Try.ntmps56
    go_wp2_with fail
    refine (rdU_any HH.out).mono ?_
    rw [HN1.out]
    rintro r w1 ⟨rfl, hr, hg⟩
    simp only at hr ⊢
    have R1 := Lib.hid hr
    have G1 := Lib.hid hg
    clear hr hg
    go_wp2_with fail
    refine (Fail_any 4 R1.out).mono ?_
    rintro r w2 ⟨rfl, hr, hg⟩
    rw [← HFE.out, ← HEE.out] at hr
    have R2 := Lib.hid hr
    have G2 := Lib.hid (G1.out.trans hg)
    have zN0 : (0 : Int) < (N : Int) := by omega
    have zN1 : 0 < N := by omega
    clear hr hg
    go_wp2_with fail
    refine wp_loop_rounds 1 ?_
    rw [rounds_succ]
    go_wp2_with fail
    refine (Err_any R2.out).mono ?_
    rintro r w3 ⟨rfl, rfl⟩
    go_wp2_with fail
    go_ret
    rw [HX1.out]
    exact ⟨_, rfl, World.ownsRow_nil _ _ _ _, R2.out, G2.out⟩
  · have zN : ¬ (8 : Int) < (N : Int) := by omega
    have hee : e1 = e0 := HE1.out.trans (if_neg hN)
    subst hee
    go_enter Try.func56, Try.ntmps56
    go_wp2_with fail
    refine (rdU_any HH.out).mono ?_
    rw [HN1.out]
    rintro r w1 ⟨rfl, hr, hg⟩
    simp only at hr ⊢
    have R1 := Lib.hid hr
    have G1 := Lib.hid hg
    clear hr hg
    go_wp2_with fail
    go_loopw [7, 8] (fun i o wr => ∃ (m : Nat) (P : List Att) (e' : Int) (l' : List Nat), i = .int .i64 (m : Int) ∧ P.length + m = N ∧ Hid (wr.ownsRow w.heap.size 49 6 o P.length (acs P)) ∧ Hid (Rdr wr lo g e' l') ∧ Hid (w.grownBy wr (some g)) ∧ Hid (X = (P ++ (tkN m e' l').1, (tkN m e' l').2))) (fun i _ _ => (intOf i).toNat)
    case atStart => exact ⟨N, [], e1, l1, rfl, by simp, Lib.hid (World.ownsRow_nil _ _ _ _), R1, G1, Lib.hid (by rw [HX.out]; simp)⟩
    case round =>
      clear R1 G1
      obtain ⟨m, P, e', l', rfl, hPm, HO, HR, HG, HT⟩ := hrel
      by_cases hm : m = 0
      · subst hm
        have HX1 := Lib.hid (show X = (P, e', l') by rw [HT.out]; simp [tkN])
        go_wp2_with fail
        go_ret
        rw [HX1.out]
        exact ⟨_, rfl, HO.out, HR.out, HG.out⟩
      · obtain ⟨m', hm'⟩ : ∃ m', m = m' + 1 := ⟨m - 1, by omega⟩
        have zm : (0 : Int) < (m : Int) := by omega
        have zm1 : 0 < m := by omega
        have zm2 : (m : Int) - 1 = (m' : Int) := by omega
        by_cases he : e' = 0
        · subst he
          have hT := HT.out
          rw [hm'] at hT
          unfold tkN at hT
          rw [if_pos rfl] at hT
          have hqw := (HG.out.block qb (Array.getElem?_eq_some_iff.1 HB.out).1 (fun e => hn (by injection e))).trans HB.out
          have TA := Lib.hid (takeA_any HR.out hqw hn)
          have TA0 := TA.out
          clear TA
          generalize tkA 0 l' = x3 at *
          obtain ⟨a, e2, l2⟩ := x3
          simp only at hT TA0
          unfold Att.v Att.cells at TA0
          have TA := Lib.hid TA0
          have HT2 := Lib.hid hT
          have hP8 : P.length ≤ 1000000000 := by omega
          clear hT TA0 hqw HT
          go_wp2_with fail
          refine (Err_any HR.out).mono ?_
          rintro r w3 ⟨rfl, rfl⟩
          go_wp2_with fail
          refine TA.out.mono ?_
          rintro r w4 ⟨rfl, hr, hg⟩
          have R4 := Lib.hid (hr.grown (World.grownBy_alloc w4 (.cells #[.string a.name, .int .i64 a.lab.l, .int .u32 (a.lab.p : Int), .int .i64 a.val.k, .int .i64 a.val.n, .string a.val.b] 49) none) (fun j hj => by cases hj))
          have O4 := Lib.hid ((own_grown HO.out hg (fun k hk => by have := own_block HO.out k hk; omega)).alloc (.cells #[.string a.name, .int .i64 a.lab.l, .int .u32 (a.lab.p : Int), .int .i64 a.val.k, .int .i64 a.val.n, .string a.val.b] 49))
          have G4 := Lib.hid (galloc (HG.out.trans hg) (.cells #[.string a.name, .int .i64 a.lab.l, .int .u32 (a.lab.p : Int), .int .i64 a.val.k, .int .i64 a.val.n, .string a.val.b] 49))
          have BN := Lib.hid (BA.new w4 a)
          clear hr hg
          go_wp2_with (at_builtin; refine append_att rfl _ _ rfl w.heap.size _ P a rfl O4.out _ rfl BN.out hP8 G4.out.size ?_; intro v5 w5 ho5 hg5 hv5)
          have HO5 := Lib.hid ho5
          have R5 := Lib.hid (R4.out.grown hg5 (fun k hk => by have := own_block O4.out k hk; omega))
          have G5 := Lib.hid (gown G4.out hg5 (own_block O4.out))
          clear ho5 hg5 hv5
          go_wp2_with fail
          exact ⟨⟨m', P ++ [a], e2, l2, by go_num, by rw [List.length_append]; simp; omega, HO5, R5, G5, Lib.hid (by rw [HT2.out]; simp)⟩, by simp [intOf]; omega⟩
        · have he' : (e' == 0) = false := by simp; exact he
          have HX1 := Lib.hid (show X = (P, e', l') by rw [HT.out, tkN_stop m he]; simp)
          clear hm'
          go_wp2_with fail
          refine (Err_any HR.out).mono ?_
          rintro r w3 ⟨rfl, rfl⟩
          go_wp2_with fail
          go_ret
          rw [HX1.out]
          exact ⟨_, rfl, HO.out, HR.out, HG.out⟩
end Go.Proofs.Ytmnabhennibddaa
