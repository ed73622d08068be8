/- The bytes of attributes: bytes, and how many. append of a whole list of attributes. No conditions. -/
import Derived.Test.YtbhfbpaaghpadaaGA20
import Derived.Test.YtbhfbpaaghpadaaGA29
import Derived.Test.YtbhfbpaaghpadaaGA22
import Derived.Test.YtbhfbpaaghpadaaGA23
set_option linter.unusedSimpArgs false
set_option linter.unusedVariables false
namespace Go.Proofs.Ytbhfbpaaghpadaa
open Go.RowKit

theorem ab_ok {a : Att} (h : chkA a = 0) (hp : a.lab.p < 4294967296) : Byt (ab a) ∧ (ab a).length ≤ 160 := by
  obtain ⟨h1, h2, h3⟩ := chkA_yes h
  have hs := nm_size h1
  have u1 := lb_ok a.lab hp
  have u2 := vb_ok a.val
  have u0 : Byt (Dig.enc a.name.size ++ sb a.name) := Byt.append (Dig.enc_byt _ (by omega)) (sb_byt _)
  have u3 : (Dig.enc a.name.size).length ≤ 8 := by rw [Dig.length_enc]; exact Dig.sz_le _
  refine ⟨u0.append (u1.1.append u2.1), ?_⟩
  unfold ab
  simp only [List.length_append, sb_length]
  omega
theorem abs_ok : ∀ (l : List Att), (∀ a ∈ l, chkA a = 0 ∧ a.lab.p < 4294967296) → Byt (l.map ab).flatten ∧ ((l.map ab).flatten).length ≤ 160 * l.length
  | [], _ => ⟨(by intro x hx; cases hx), by simp⟩
  | a :: l, h => by
    have h1 := ab_ok (h a (by simp)).1 (h a (by simp)).2
    have h2 := abs_ok l (fun b hb => h b (List.mem_cons_of_mem _ hb))
    rw [List.map_cons, List.flatten_cons]
    refine ⟨h1.1.append h2.1, ?_⟩
    rw [List.length_append, List.length_cons]
    omega
theorem asB_ok {l : List Att} (h : mayA l = 0) (hp : ∀ a ∈ l, a.lab.p < 4294967296) : Byt (asB l) ∧ (asB l).length ≤ 1300 := by
  have h1 := may_yes h
  have h2 := abs_ok l (fun a ha => by
    obtain ⟨i, hi, rfl⟩ := List.getElem_of_mem ha
    exact ⟨may_att h hi, hp _ ha⟩)
  have u3 : (Dig.enc l.length).length ≤ 8 := by rw [Dig.length_enc]; exact Dig.sz_le _
  refine ⟨(show Byt (Dig.enc l.length) from Dig.enc_byt _ (by omega)).append h2.1, ?_⟩
  unfold asB
  rw [List.length_append]
  omega
theorem atP_ok {l : List Att} (hp : ∀ a ∈ l, a.lab.p < 4294967296) : Byt (atP l).1 ∧ (atP l).1.length ≤ 1300 := by
  unfold atP
  split
  · rename_i h
    exact asB_ok h hp
  · exact ⟨(by intro x hx; cases hx), by simp⟩
theorem acs_oneCell (l : List Att) : ∀ u ∈ acs l, u.oneCell' = true := by
  induction l with
  | nil => intro u hu; cases hu
  | cons a l ih =>
    intro u hu
    rw [acs, List.mem_append] at hu
    rcases hu with h | h
    · exact att_oneCell a u h
    · exact ih u h
/-- append([]api.Attr(nil), l..). -/
theorem append_atts {w : World} {ops : Array Oper} {rest : List Oper} {o : Oper} {a : Act} {Q : Exit → Act → World → Prop} (hgd : o.guard = none) (s x : Operand)
    (ho : o.op = .call { callee := .builtin .append, args := #[s, x], argTypes := #[30, 30] })
    (base : Nat) (hs : a.eval s = .slice none 0 0) (A : Option Addr) (n c : Nat) (l : List Att) (hx : a.eval x = .slice A n c) (hm : AS w A n c l) (hbase : base ≤ w.heap.size)
    (h : ∀ v' w', w'.ownsRow base 46 6 v' l.length (acs l) → w.grownBy w' none → wpList Try.prog ops Q rest (a.put o.dst v') w') :
    wpList Try.prog ops Q (o :: rest) a w :=
  wpList_plain hgd fun _ hK => by
    have hlim := hm.lim
    have hlen := hm.len
    refine wp_append_any s x _ ho base 46 _ 6 64 Try.underlying30 infoAtt rfl (by decide) (.slice none 0 0) 0 [] hs (World.ownsRow_nil _ _ _ _) A n c (acs l) hx hm.nil (by rw [hlen]; exact hm.le) (by rw [acs_length, hlen]; omega) hm.lies (acs_oneCell l) (by unfold maxLen; omega) (by omega) hbase ?_
    intro v' w' h1 h2 _
    refine hK _ _ (h v' w' ?_ h2)
    rw [Nat.zero_add, List.nil_append, hlen] at h1
    exact h1
theorem own_asL {w : World} {base : Nat} {v : Value} {l : List Att} (h : w.ownsRow base 46 6 v l.length (acs l)) (hp : ∀ a ∈ l, a.lab.p < 4294967296) (hl : l.length ≤ 2199023255552) : ∃ A n c, v = .slice A n c ∧ AS w A n c l := by
  obtain ⟨A, c, hv, h1, _, h3, h4, _⟩ := ownsRow_lies h
  exact ⟨A, l.length, c, hv, rfl, h1, h3, h4, hp, hl⟩
theorem bel_none {w w' : World} (hg : w.grownBy w' none) : Below w.heap.size w w' := grown_below (bel0 w) hg (by intro k hk; cases hk)
end Go.Proofs.Ytbhfbpaaghpadaa
/- Lists of spans in memory; a batch's bytes in plain words; the document's u. No conditions. -/
set_option linter.unusedSimpArgs false
set_option linter.unusedVariables false
namespace Go.Proofs.Ytbhfbpaaghpadaa
open Go.RowKit

/-- A list of spans in memory. -/
structure LS (w : World) (A : Option Addr) (n c : Nat) (ls : List Spn) : Prop where
  len : n = ls.length
  le : ls.length ≤ c
  nil : A = none → c = 0
  at' : ∀ i (h : i < ls.length), ∃ b o B m d, A = some ⟨b, o, none⟩ ∧ (∀ j v, (ls[i].cells (.slice B m d))[j]? = some v → w.cell? ⟨b, o + i * 9 + j, none⟩ = some v) ∧ AS w B m d ls[i].ats
  lim : ls.length ≤ 1256584717421
theorem LS.below {w w' : World} {A : Option Addr} {n c : Nat} {ls : List Spn} (h : LS w A n c ls) (hb : Below w.heap.size w w') : LS w' A n c ls := by
  refine ⟨h.len, h.le, h.nil, fun i hi => ?_, h.lim⟩
  obtain ⟨b, o, B, m, d, e, hc, hI⟩ := h.at' i hi
  refine ⟨b, o, B, m, d, e, fun j v hj => ?_, hI.below hb⟩
  have := hc j v hj
  exact (hb.cell (p := ⟨b, o + i * 9 + j, none⟩) (World.block_lt_of_cell? w _ this)).trans this
theorem LS.cellsAt {w wr : World} {A : Option Addr} {n c : Nat} {ls : List Spn} (h : LS w A n c ls) (hb : Below w.heap.size w wr) {k : Nat} (hk : k < ls.length) :
    ∃ g o B m d, A = some ⟨g, o, none⟩ ∧ AS w B m d ls[k].ats ∧ wr.cell? ⟨g, o + k * 9, none⟩ = some (.int .i64 ls[k].tr) ∧ wr.cell? ⟨g, o + k * 9 + 1, none⟩ = some (.int .i64 ls[k].id) ∧ wr.cell? ⟨g, o + k * 9 + 2, none⟩ = some (.int .i64 ls[k].pa) ∧ wr.cell? ⟨g, o + k * 9 + 3, none⟩ = some (.string ls[k].sv) ∧ wr.cell? ⟨g, o + k * 9 + 4, none⟩ = some (.string ls[k].op) ∧ wr.cell? ⟨g, o + k * 9 + 5, none⟩ = some (.int .i64 ls[k].st) ∧ wr.cell? ⟨g, o + k * 9 + 6, none⟩ = some (.int .i64 ls[k].ln) ∧ wr.cell? ⟨g, o + k * 9 + 7, none⟩ = some (.string ls[k].sj) ∧ wr.cell? ⟨g, o + k * 9 + 8, none⟩ = some (.slice B m d) := by
  obtain ⟨b, o, B, m, d, e, hc0, hI⟩ := h.at' k hk
  have hc : ∀ j v, (ls[k].cells (.slice B m d))[j]? = some v → wr.cell? ⟨b, o + k * 9 + j, none⟩ = some v := fun j v hj => by
    have := hc0 j v hj
    exact (hb.cell (p := ⟨b, o + k * 9 + j, none⟩) (World.block_lt_of_cell? w _ this)).trans this
  exact ⟨b, o, B, m, d, e, hI, hc 0 _ rfl, hc 1 _ rfl, hc 2 _ rfl, hc 3 _ rfl, hc 4 _ rfl, hc 5 _ rfl, hc 6 _ rfl, hc 7 _ rfl, hc 8 _ rfl⟩
structure Bat where
  ag : Int
  sq : Int
  sp : List Spn
def sN (s : Spn) : List Int := [s.tr, s.id, s.pa, s.st, s.ln]
def sT (s : Spn) : List ByteArray := [s.sv, s.op, s.sj]
def spB (s : Spn) : List Nat := uN (sN s) ++ tN (sT s) ++ asB s.ats
def btB (b : Bat) : List Nat := uN [b.ag, b.sq, (b.sp.length : Int)] ++ (b.sp.map spB).flatten
/-- A batch whose numbers and spans may be. -/
structure OkC (b : Bat) : Prop where
  ag : 1 ≤ b.ag ∧ b.ag ≤ 16
  sq : 1 ≤ b.sq ∧ b.sq ≤ 9007199254740991
  n : 1 ≤ b.sp.length ∧ b.sp.length ≤ 16
  sp : ∀ s ∈ b.sp, OkS s
def OkB (b : Bat) : Prop := OkC b ∧ (btB b).length ≤ 8192
open Classical in
noncomputable def btP (b : Bat) : List Nat × Int := if OkB b then (btB b, 0) else ([], 90)
theorem btP_no {b : Bat} (h : ¬ OkB b) : btP b = ([], 90) := if_neg h
theorem btP_yes {b : Bat} (h : OkB b) : btP b = (btB b, 0) := if_pos h
theorem uE_in {l : List Int} (h : ∀ n ∈ l, 0 ≤ n ∧ n ≤ 9007199254740991) : uE l = false := by
  unfold uE
  rw [List.any_eq_false]
  intro n hn
  unfold uP
  rw [if_pos (h n hn)]
  simp
theorem tE_in {l : List ByteArray} (h : ∀ s ∈ l, s.size ≤ 65535) : tE l = false := by
  unfold tE
  rw [List.any_eq_false]
  intro n hn
  unfold tP
  rw [if_pos (h n hn)]
  simp
theorem sN_in {s : Spn} (h : OkS s) : uE (sN s) = false := uE_in (by
  intro n hn
  simp only [sN, List.mem_cons, List.not_mem_nil, or_false] at hn
  have h1 := h.tr; have h2 := h.id; have h3 := h.pa; have h4 := h.st; have h5 := h.ln
  rcases hn with rfl | rfl | rfl | rfl | rfl <;> omega)
theorem sT_in {s : Spn} (h : OkS s) : tE (sT s) = false := tE_in (by
  intro n hn
  simp only [sT, List.mem_cons, List.not_mem_nil, or_false] at hn
  have h1 := nm_size h.sv; have h2 := nm_size h.op; have h3 := h.sj
  rcases hn with rfl | rfl | rfl <;> omega)
theorem spB_ok {s : Spn} (h : OkS s) (hp : ∀ a ∈ s.ats, a.lab.p < 4294967296) : Byt (spB s) ∧ (spB s).length ≤ 200000 := by
  have h1 := asB_ok h.ats hp
  have h2 := uN_len (sN s)
  have h3 := tN_len (sT s)
  refine ⟨Byt.append (Byt.append (uN_byt _) (tN_byt _)) h1.1, ?_⟩
  unfold spB
  simp only [List.length_append]
  have e1 : (sN s).length = 5 := rfl
  have e2 : (sT s).length = 3 := rfl
  omega
theorem sp_snoc {l : List Spn} {k : Nat} (hk : k < l.length) : ((l.take (k + 1)).map spB).flatten = ((l.take k).map spB).flatten ++ spB l[k] := by
  rw [List.take_succ_eq_append_getElem hk, List.map_append, List.flatten_append]
  simp
end Go.Proofs.Ytbhfbpaaghpadaa
