/- The bytes of attributes: bytes, and how many. append of a whole list of attributes. No conditions. -/
import Derived.Test.YtbbejajnfajpoaaAttrs
import Derived.Test.YtbbejajnfajpoaaLst
set_option linter.unusedSimpArgs false
set_option linter.unusedVariables false
namespace Go.Proofs.Ytbbejajnfajpoaa
open Go.RowKit

theorem ab_ok {a : Att} (h : chkA a = 0) (hp : a.lab.p < 4294967296) : Byt (ab a) ∧ (ab a).length ≤ 160 := by
  obtain ⟨h1, h2, h3⟩ := chkA_yes h
  have hs := nm_size h1
  have u1 := lb_ok a.lab hp
  have u2 := vb_ok a.val
  have u0 : Byt (Dig.enc a.name.size ++ sb a.name) := Byt.append (Dig.enc_byt _ (by omega)) (sb_byt _)
  have u3 : (Dig.enc a.name.size).length ≤ 8 := by rw [Dig.length_enc]; exact Dig.sz_le _
  refine ⟨u0.append (u1.1.append u2.1), ?_⟩
  unfold ab
  simp only [List.length_append, sb_length]
  omega
theorem abs_ok : ∀ (l : List Att), (∀ a ∈ l, chkA a = 0 ∧ a.lab.p < 4294967296) → Byt (l.map ab).flatten ∧ ((l.map ab).flatten).length ≤ 160 * l.length
  | [], _ => ⟨(by intro x hx; cases hx), by simp⟩
  | a :: l, h => by
    have h1 := ab_ok (h a (by simp)).1 (h a (by simp)).2
    have h2 := abs_ok l (fun b hb => h b (List.mem_cons_of_mem _ hb))
    rw [List.map_cons, List.flatten_cons]
    refine ⟨h1.1.append h2.1, ?_⟩
    rw [List.length_append, List.length_cons]
    omega
theorem asB_ok {l : List Att} (h : mayA l = 0) (hp : ∀ a ∈ l, a.lab.p < 4294967296) : Byt (asB l) ∧ (asB l).length ≤ 1300 := by
  have h1 := may_yes h
  have h2 := abs_ok l (fun a ha => by
    obtain ⟨i, hi, rfl⟩ := List.getElem_of_mem ha
    exact ⟨may_att h hi, hp _ ha⟩)
  have u3 : (Dig.enc l.length).length ≤ 8 := by rw [Dig.length_enc]; exact Dig.sz_le _
  refine ⟨(show Byt (Dig.enc l.length) from Dig.enc_byt _ (by omega)).append h2.1, ?_⟩
  unfold asB
  rw [List.length_append]
  omega
theorem atP_ok {l : List Att} (hp : ∀ a ∈ l, a.lab.p < 4294967296) : Byt (atP l).1 ∧ (atP l).1.length ≤ 1300 := by
  unfold atP
  split
  · rename_i h
    exact asB_ok h hp
  · exact ⟨(by intro x hx; cases hx), by simp⟩
theorem acs_oneCell (l : List Att) : ∀ u ∈ acs l, u.oneCell' = true := by
  induction l with
  | nil => intro u hu; cases hu
  | cons a l ih =>
    intro u hu
    rw [acs, List.mem_append] at hu
    rcases hu with h | h
    · exact att_oneCell a u h
    · exact ih u h
/-- append([]api.Attr(nil), l..). -/
theorem append_atts {w : World} {ops : Array Oper} {rest : List Oper} {o : Oper} {a : Act} {Q : Exit → Act → World → Prop} (hgd : o.guard = none) (s x : Operand)
    (ho : o.op = .call { callee := .builtin .append, args := #[s, x], argTypes := #[61, 61] })
    (base : Nat) (hs : a.eval s = .slice none 0 0) (A : Option Addr) (n c : Nat) (l : List Att) (hx : a.eval x = .slice A n c) (hm : AS w A n c l) (hbase : base ≤ w.heap.size)
    (h : ∀ v' w', w'.ownsRow base 75 6 v' l.length (acs l) → w.grownBy w' none → wpList Try.prog ops Q rest (a.put o.dst v') w') :
    wpList Try.prog ops Q (o :: rest) a w :=
  wpList_plain hgd fun _ hK => by
    have hlim := hm.lim
    have hlen := hm.len
    refine wp_append_any s x _ ho base 75 _ 6 64 Try.underlying61 infoAtt rfl (by decide) (.slice none 0 0) 0 [] hs (World.ownsRow_nil _ _ _ _) A n c (acs l) hx hm.nil (by rw [hlen]; exact hm.le) (by rw [acs_length, hlen]; omega) hm.lies (acs_oneCell l) (by unfold maxLen; omega) (by omega) hbase ?_
    intro v' w' h1 h2 _
    refine hK _ _ (h v' w' ?_ h2)
    rw [Nat.zero_add, List.nil_append, hlen] at h1
    exact h1
theorem own_asL {w : World} {base : Nat} {v : Value} {l : List Att} (h : w.ownsRow base 75 6 v l.length (acs l)) (hp : ∀ a ∈ l, a.lab.p < 4294967296) (hl : l.length ≤ 2199023255552) : ∃ A n c, v = .slice A n c ∧ AS w A n c l := by
  obtain ⟨A, c, hv, h1, _, h3, h4, _⟩ := ownsRow_lies h
  exact ⟨A, l.length, c, hv, rfl, h1, h3, h4, hp, hl⟩
theorem bel_none {w w' : World} (hg : w.grownBy w' none) : Below w.heap.size w w' := grown_below (bel0 w) hg (by intro k hk; cases hk)
end Go.Proofs.Ytbbejajnfajpoaa
