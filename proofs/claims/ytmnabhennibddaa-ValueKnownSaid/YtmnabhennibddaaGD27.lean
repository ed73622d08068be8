/- value.TakeAttrs: its contract. No conditions. -/
import Derived.Test.YtmnabhennibddaaGD26
import Derived.Deep.RegionHeld3
import Derived.Test.YtmnabhennibddaaGD24
set_option linter.unusedSimpArgs false
set_option linter.unusedVariables false
namespace Go.Proofs.Ytmnabhennibddaa
open Go.RowKit

theorem failE_ne (e : Int) {k : Int} (hk : k ≠ 0) : failE e k ≠ 0 := by
  unfold failE
  split
  · exact hk
  · assumption
theorem tkL_p (e : Int) (l : List Nat) : (tkL e l).1.p < 4294967296 := by
  unfold tkL
  simp only
  generalize nb 9007199254740991 e l = a
  generalize nb 9007199254740991 a.2.1 a.2.2 = b
  by_cases hc : 7 < a.1 ∨ 4294967295 < b.1
  · rw [if_pos hc, if_neg (failE_ne _ (by decide))]
    exact (by decide : (0 : Nat) < 4294967296)
  · rw [if_neg hc]
    by_cases h0 : b.2.1 = 0
    · rw [if_pos h0]
      simp only
      omega
    · rw [if_neg h0]
      exact (by decide : (0 : Nat) < 4294967296)
theorem tkN_pt (n : Nat) (e : Int) (l : List Nat) : ∀ a ∈ (tkN n e l).1, a.lab.p < 4294967296 := by
  induction n generalizing e l with
  | zero => intro a ha; cases ha
  | succ n ih =>
    unfold tkN
    split
    · intro a ha
      simp only [List.mem_cons] at ha
      rcases ha with rfl | ha
      · exact tkL_p _ _
      · exact ih _ _ a ha
    · intro a ha; cases ha
theorem tkN_len (n : Nat) (e : Int) (l : List Nat) : (tkN n e l).1.length ≤ n := by
  induction n generalizing e l with
  | zero => exact Nat.le_refl _
  | succ n ih =>
    unfold tkN
    split
    · simp only [List.length_cons]
      have := ih (tkA e l).2.1 (tkA e l).2.2
      omega
    · simp
theorem tkLs_ok (e : Int) (l : List Nat) : (∀ a ∈ (tkLs e l).1, a.lab.p < 4294967296) ∧ (tkLs e l).1.length ≤ 8 := by
  refine ⟨tkN_pt _ _ _, ?_⟩
  unfold tkLs
  by_cases h : 8 < (nb 9007199254740991 e l).1
  · rw [if_pos h, tkN_stop _ (by unfold failE; split <;> omega)]
    simp
  · have := tkN_len (nb 9007199254740991 e l).1 (if 8 < (nb 9007199254740991 e l).1 then failE (nb 9007199254740991 e l).2.1 4 else (nb 9007199254740991 e l).2.1) (nb 9007199254740991 e l).2.2
    omega
theorem own_as {w : World} {base : Nat} {v : Value} {l : List Att} (h : w.ownsRow base 49 6 v l.length (acs l)) (hp : ∀ a ∈ l, a.lab.p < 4294967296) (hl : l.length ≤ 1000000) : ∃ A n c, v = .slice A n c ∧ AS w A n c l := by
  obtain ⟨A, c, hv, h1, _, h3, h4, _⟩ := ownsRow_lies h
  exact ⟨A, l.length, c, hv, rfl, h1, h3, h4, hp, by omega⟩
/-- What TakeAttrs answers. -/
def tkAs (e : Int) (l : List Nat) : List Att × Int × List Nat :=
  if failE (tkLs e l).2.1 (wrongE (mayA (tkLs e l).1)) = 0 then ((tkLs e l).1, 0, (tkLs e l).2.2) else ([], failE (tkLs e l).2.1 (wrongE (mayA (tkLs e l).1)), (tkLs e l).2.2)

set_option maxHeartbeats 16000000 in
set_option maxRecDepth 100000 in
theorem takeAs_any {lo g : Nat} {e : Int} {l : List Nat} {w : World} (h : Rdr w lo g e l) :
    Calls Try.prog 25 #[.pointer (some ⟨g, 0, none⟩)] w fun r w' => LsR w w' r lo g (tkAs e l) := by
  obtain ⟨X, hX⟩ : ∃ X, X = tkAs e l := ⟨_, rfl⟩
  rw [← hX]
  unfold tkAs at hX
  have hlt := h.lt
  have HH := Lib.hid h
  have hok := tkLs_ok e l
  clear h
  have LS : Hid (∀ (w : World) (qb : Nat), Rdr w lo g e l → w.heap[qb]? = some (.cells #[.pointer (some ⟨g, 0, none⟩)] 53 (0, 0)) → qb ≠ g →
      Calls Try.prog 56 #[.pointer (some ⟨g, 0, none⟩), .int .i64 8, .func (.func 57) #[] #[.pointer (some ⟨qb, 0, none⟩)]] w fun r w' => LsR w w' r lo g (tkLs e l)) := Lib.hid (fun w qb a b c => list_any a b c)
  have LS0 := LS.out
  clear LS
  generalize tkLs e l = x at *
  obtain ⟨L, e1, l1⟩ := x
  simp only at hX hok LS0
  have LS := Lib.hid LS0
  have HX := Lib.hid hX
  have HOK := Lib.hid hok
  have HFE := Lib.hid (show failE e1 (wrongE (mayA L)) = if e1 = 0 then wrongE (mayA L) else e1 from rfl)
  clear LS0 hX hok
  go_enter Try.func25, Try.ntmps25
  go_wp2_with fail
  obtain ⟨wa, hwa⟩ : ∃ wa, wa = w.alloc (.cells #[.pointer (some ⟨g, 0, none⟩)] 53) := ⟨_, rfl⟩
  rw [← hwa]
  have hbA : wa.heap[w.heap.size]? = some (.cells #[.pointer (some ⟨g, 0, none⟩)] 53 (0, 0)) := by rw [hwa]; exact heap_alloc_new w _
  have RA : Rdr wa lo g e l := by rw [hwa]; exact HH.out.grown (World.grownBy_alloc _ _ none) (fun j hj => by cases hj)
  have GA := Lib.hid (show w.grownBy wa (some g) by rw [hwa]; exact World.grownBy_alloc _ _ _)
  have hqg : w.heap.size ≠ g := by omega
  have hws : w.heap.size ≤ wa.heap.size := GA.out.size
  refine (LS.out wa w.heap.size RA hbA hqg).mono ?_
  rintro r w2 ⟨v, rfl, ho, hr, hg⟩
  simp only at ho hr ⊢
  obtain ⟨A, n, c, rfl, hAS⟩ := own_as ho HOK.out.1 (by have := HOK.out.2; omega)
  have O2 := Lib.hid (show w2.ownsRow w.heap.size 49 6 (.slice A n c) L.length (acs L) from ownsRow_base ho hws)
  have R2 := Lib.hid hr
  have G2 := Lib.hid (GA.out.trans hg)
  have S2 := Lib.hid hAS
  have hb2 : w2.heap[w.heap.size]? = some (.cells #[.pointer (some ⟨g, 0, none⟩)] 53 (0, 0)) := (hg.block w.heap.size (Array.getElem?_eq_some_iff.1 hbA).1 (fun e => hqg (by injection e))).trans hbA
  have SO := Lib.hid (fun a (hg : w2.grownBy a (some g)) => tkS hb2 hqg hg)
  have MY := Lib.hid (may_any (hAS.below (bel0 w2).drew))
  clear ho hr hg hAS hwa hbA RA hws
  go_wp2_with fail
  go_region_held3 (fun a => w2.grownBy a (some g) ∧ a.cell? ⟨w.heap.size, 0, none⟩ = some (.pointer (some ⟨g, 0, none⟩)))
    (first | (with_reducible exact SO.out _ (World.grownBy.trans (And.left (b := _) (by assumption)) (by assumption))) | (with_reducible exact SO.out _ (gbelow (And.left (b := _) (by assumption)) (by assumption))) | assumption | exact SO.out _ (grown_of_below (bel0 _).drew _))
    (first
      | (go_at_call 46; (with_reducible refine MY.out.mono ?_); rintro r w3 ⟨rfl, hb3⟩)
      | (go_at_call 54; (with_reducible refine (wrong_any (mayA L) _).mono ?_); rintro r w4 ⟨rfl, rfl⟩)
      | (go_at_call 53; (with_reducible refine (Fail_any (wrongE (mayA L)) (R2.out.below (nx (bel0 _).drew hb3))).mono ?_); rintro r w5 ⟨rfl, hr5, hg5⟩))
  rename_i hK
  obtain ⟨hG, hcell⟩ := hK
  rw [← HFE.out] at hr5
  have G5 := Lib.hid (G2.out.trans hG)
  have R5 := Lib.hid hr5
  have O5 := Lib.hid (own_grown O2.out hG (fun k hk => by have := own_block O2.out k hk; omega))
  clear hG hr5 hg5 hb3 MY SO hb2 O2 R2 G2 S2
  generalize failE e1 (wrongE (mayA L)) = e9 at *
  go_wp2_with fail
  refine (Err_any R5.out).mono ?_
  rintro r w6 ⟨rfl, rfl⟩
  by_cases hz : e9 = 0
  · subst hz
    have HX2 := Lib.hid (HX.out.trans (if_pos rfl))
    go_wp2_with fail
    go_ret
    rw [HX2.out]
    exact ⟨_, rfl, O5.out, R5.out, G5.out⟩
  · have hz' : (e9 != 0) = true := by simp; exact hz
    have HX2 := Lib.hid (HX.out.trans (if_neg hz))
    go_wp2_with fail
    go_ret
    rw [HX2.out]
    exact ⟨_, rfl, World.ownsRow_nil _ _ _ _, R5.out, G5.out⟩
end Go.Proofs.Ytmnabhennibddaa
/- The bytes of attributes: bytes, and how many. append of a whole list of attributes. No conditions. -/
set_option linter.unusedSimpArgs false
set_option linter.unusedVariables false
namespace Go.Proofs.Ytmnabhennibddaa
open Go.RowKit

theorem ab_ok {a : Att} (h : chkA a = 0) (hp : a.lab.p < 4294967296) : Byt (ab a) ∧ (ab a).length ≤ 160 := by
  obtain ⟨h1, h2, h3⟩ := chkA_yes h
  have hs := nm_size h1
  have u1 := lb_ok a.lab hp
  have u2 := vb_ok a.val
  have u0 : Byt (Dig.enc a.name.size ++ sb a.name) := Byt.append (Dig.enc_byt _ (by omega)) (sb_byt _)
  have u3 : (Dig.enc a.name.size).length ≤ 8 := by rw [Dig.length_enc]; exact Dig.sz_le _
  refine ⟨u0.append (u1.1.append u2.1), ?_⟩
  unfold ab
  simp only [List.length_append, sb_length]
  omega
theorem abs_ok : ∀ (l : List Att), (∀ a ∈ l, chkA a = 0 ∧ a.lab.p < 4294967296) → Byt (l.map ab).flatten ∧ ((l.map ab).flatten).length ≤ 160 * l.length
  | [], _ => ⟨(by intro x hx; cases hx), by simp⟩
  | a :: l, h => by
    have h1 := ab_ok (h a (by simp)).1 (h a (by simp)).2
    have h2 := abs_ok l (fun b hb => h b (List.mem_cons_of_mem _ hb))
    rw [List.map_cons, List.flatten_cons]
    refine ⟨h1.1.append h2.1, ?_⟩
    rw [List.length_append, List.length_cons]
    omega
theorem asB_ok {l : List Att} (h : mayA l = 0) (hp : ∀ a ∈ l, a.lab.p < 4294967296) : Byt (asB l) ∧ (asB l).length ≤ 1300 := by
  have h1 := may_yes h
  have h2 := abs_ok l (fun a ha => by
    obtain ⟨i, hi, rfl⟩ := List.getElem_of_mem ha
    exact ⟨may_att h hi, hp _ ha⟩)
  have u3 : (Dig.enc l.length).length ≤ 8 := by rw [Dig.length_enc]; exact Dig.sz_le _
  refine ⟨(show Byt (Dig.enc l.length) from Dig.enc_byt _ (by omega)).append h2.1, ?_⟩
  unfold asB
  rw [List.length_append]
  omega
theorem atP_ok {l : List Att} (hp : ∀ a ∈ l, a.lab.p < 4294967296) : Byt (atP l).1 ∧ (atP l).1.length ≤ 1300 := by
  unfold atP
  split
  · rename_i h
    exact asB_ok h hp
  · exact ⟨(by intro x hx; cases hx), by simp⟩
theorem acs_oneCell (l : List Att) : ∀ u ∈ acs l, u.oneCell' = true := by
  induction l with
  | nil => intro u hu; cases hu
  | cons a l ih =>
    intro u hu
    rw [acs, List.mem_append] at hu
    rcases hu with h | h
    · exact att_oneCell a u h
    · exact ih u h
/-- append([]api.Attr(nil), l..). -/
theorem append_atts {w : World} {ops : Array Oper} {rest : List Oper} {o : Oper} {a : Act} {Q : Exit → Act → World → Prop} (hgd : o.guard = none) (s x : Operand)
    (ho : o.op = .call { callee := .builtin .append, args := #[s, x], argTypes := #[50, 50] })
    (base : Nat) (hs : a.eval s = .slice none 0 0) (A : Option Addr) (n c : Nat) (l : List Att) (hx : a.eval x = .slice A n c) (hm : AS w A n c l) (hbase : base ≤ w.heap.size)
    (h : ∀ v' w', w'.ownsRow base 49 6 v' l.length (acs l) → w.grownBy w' none → wpList Try.prog ops Q rest (a.put o.dst v') w') :
    wpList Try.prog ops Q (o :: rest) a w :=
  wpList_plain hgd fun _ hK => by
    have hlim := hm.lim
    have hlen := hm.len
    refine wp_append_any s x _ ho base 49 _ 6 64 Try.underlying50 infoAtt rfl (by decide) (.slice none 0 0) 0 [] hs (World.ownsRow_nil _ _ _ _) A n c (acs l) hx hm.nil (by rw [hlen]; exact hm.le) (by rw [acs_length, hlen]; omega) hm.lies (acs_oneCell l) (by unfold maxLen; omega) (by omega) hbase ?_
    intro v' w' h1 h2 _
    refine hK _ _ (h v' w' ?_ h2)
    rw [Nat.zero_add, List.nil_append, hlen] at h1
    exact h1
theorem own_asL {w : World} {base : Nat} {v : Value} {l : List Att} (h : w.ownsRow base 49 6 v l.length (acs l)) (hp : ∀ a ∈ l, a.lab.p < 4294967296) (hl : l.length ≤ 2199023255552) : ∃ A n c, v = .slice A n c ∧ AS w A n c l := by
  obtain ⟨A, c, hv, h1, _, h3, h4, _⟩ := ownsRow_lies h
  exact ⟨A, l.length, c, hv, rfl, h1, h3, h4, hp, hl⟩
theorem bel_none {w w' : World} (hg : w.grownBy w' none) : Below w.heap.size w w' := grown_below (bel0 w) hg (by intro k hk; cases hk)
end Go.Proofs.Ytmnabhennibddaa
