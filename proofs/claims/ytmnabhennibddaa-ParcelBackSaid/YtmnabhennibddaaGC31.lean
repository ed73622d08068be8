/- Slices of whole numbers in this program's own type numbers: append; contracts of CopyInts, EqInts, Bring. No conditions. -/
import Derived.Test.YtmnabhennibddaaProg
import Derived.Test.YtmnabhennibddaaGC01
import Derived.KernelRfl
import Derived.WalkLawsBesides
import Derived.WalkSpells
import Derived.Outline
import Derived.Deep.QuietTactic
import Derived.BigQuiet
set_option linter.unusedSimpArgs false
set_option linter.unusedVariables false
namespace Go.Proofs.Ytmnabhennibddaa
open Go.RowKit

theorem infoI64 : (Try.prog.info? 3).map (fun i => (i.zero, i.size, i.bytes)) = some (some (.int .i64 0), 1, 8) := by kernel_rfl
theorem iv_length (l : List Int) : (iv l).length = l.length := by simp [iv]
theorem iv_append (l m : List Int) : iv (l ++ m) = iv l ++ iv m := by simp [iv]
theorem oneCell_iv (l : List Int) : ∀ u ∈ iv l, u.oneCell' = true := by
  intro u hu
  simp only [iv, List.mem_map] at hu
  obtain ⟨x, _, rfl⟩ := hu
  rfl
def Fit (l : List Int) : Prop := ∀ n ∈ l, I64 n
theorem Fit.append {l m : List Int} (h : Fit l) (h' : Fit m) : Fit (l ++ m) := fun x hx => by
  rcases List.mem_append.1 hx with h1 | h1
  · exact h x h1
  · exact h' x h1
theorem Fit.at {l : List Int} (h : Fit l) {i : Nat} (hi : i < l.length) : -9223372036854775808 ≤ l[i] ∧ l[i] ≤ 9223372036854775807 := h _ (List.getElem_mem hi)
/-- A slice of numbers. -/
structure IL (w : World) (A : Option Addr) (n c : Nat) (l : List Int) : Prop where
  len : n = l.length
  le : l.length ≤ c
  nil : A = none → c = 0
  lies : Lies w A (iv l)
  fit : Fit l
  lim : l.length ≤ 17592186044416
theorem IL.below {w w' : World} {A : Option Addr} {n c : Nat} {l : List Int} (h : IL w A n c l) (hb : Below w.heap.size w w') : IL w' A n c l := ⟨h.len, h.le, h.nil, h.lies.below hb, h.fit, h.lim⟩
theorem IL.empty (w : World) : IL w none 0 0 [] := ⟨rfl, Nat.le_refl _, fun _ => rfl, Lies.nil _ _, (fun x hx => absurd hx (by simp)), by simp⟩
theorem IL.ofIS {w : World} {A : Option Addr} {c : Nat} {l : List Int} (h : IS w A c l) : IL w A l.length c l := ⟨rfl, h.le, h.nil, h.lies, h.fit, by have := h.lim; omega⟩
theorem IL.cellAt {w wr : World} {A : Option Addr} {n c : Nat} {l : List Int} (h : IL w A n c l) (hb : Below w.heap.size w wr) {k : Nat} (hk : k < l.length) :
    ∃ ad, A = some ad ∧ wr.cell? (ad.add k) = some (.int .i64 l[k]) := by
  obtain ⟨ad, e, hc⟩ := h.lies k (by rw [iv_length]; exact hk)
  refine ⟨ad, e, ?_⟩
  have h2 := (hb.cell (p := ad.add k) (World.block_lt_of_cell? w _ hc)).trans hc
  simpa [iv] using h2
/-- Where it lies, plainly. -/
theorem IL.plain {w : World} {A : Option Addr} {n c : Nat} {l : List Int} (h : IL w A n c l) (h0 : 0 < l.length) : ∃ b o, A = some ⟨b, o, none⟩ := by
  obtain ⟨ad, hA, hc⟩ := h.lies 0 (by rw [iv_length]; exact h0)
  have hsp : ad.spot = none := by
    unfold Addr.add at hc
    rw [if_pos rfl] at hc
    unfold World.cell? at hc
    cases hs : ad.spot with
    | none => rfl
    | some p =>
      exfalso
      revert hc
      split
      · rw [hs]; simp
      · simp
  obtain ⟨b, o, sp⟩ := ad
  simp only at hsp
  subst hsp
  exact ⟨b, o, hA⟩
theorem IL.cells {w wr : World} {b o n c : Nat} {l : List Int} (h : IL w (some ⟨b, o, none⟩) n c l) (hb : Below w.heap.size w wr) {k : Nat} (hk : k < l.length) : wr.cell? ⟨b, o + k, none⟩ = some (.int .i64 l[k]) := by
  obtain ⟨ad, e, hc⟩ := h.cellAt hb hk
  cases e
  rwa [addr_add] at hc
theorem addr_addI (g o i : Nat) : (⟨g, o, none⟩ : Addr).add i = ⟨g, o + i, none⟩ := addr_add g o i
/-- A new block of numbers. -/
theorem IL.new (w : World) (l : List Int) (t : TypeId) (m : Nat × Nat) (hf : Fit l) (hl : l.length ≤ 17592186044416) : IL (w.alloc (.cells (iv l).toArray t m)) (some ⟨w.heap.size, 0, none⟩) l.length l.length l := by
  refine ⟨rfl, Nat.le_refl _, (by intro h; cases h), ?_, hf, hl⟩
  intro i hi
  refine ⟨_, rfl, ?_⟩
  rw [addr_add, Nat.zero_add, World.cell?_alloc_mark]
  simp [hi]
theorem ownsRow_il {w : World} {base : Nat} {e : TypeId} {v : Value} {l : List Int} (h : w.ownsRow base e 1 v l.length (iv l)) (hf : Fit l) (hm : l.length ≤ 17592186044416) :
    ∃ A n c, v = .slice A n c ∧ IL w A n c l ∧ (∀ ad, A = some ad → base ≤ ad.block ∧ ad.block < w.heap.size) := by
  obtain ⟨A, c, rfl, h1, _, h2, h3, h4⟩ := ownsRow_lies h
  exact ⟨A, _, c, rfl, ⟨rfl, h1, h2, h3, hf, hm⟩, h4⟩
/-- append(v, x..) of numbers. -/
theorem wp_append_ints {w : World} {o : Oper} {a : Act} {K : Act → World → Prop} {Q : Exit → Act → World → Prop} (s x : Operand)
    (ho : o.op = .call { callee := .builtin .append, args := #[s, x], argTypes := #[27, 27] })
    (base : Nat) (v : Value) (l m : List Int) (hs : a.eval s = v) (hown : w.ownsRow base 3 1 v l.length (iv l))
    (A : Option Addr) (n c : Nat) (hx : a.eval x = .slice A n c) (hm : IL w A n c m) (hb : l.length + m.length ≤ 17592186044416) (hbase : base ≤ w.heap.size)
    (h : ∀ v' w', w'.ownsRow base 3 1 v' (l ++ m).length (iv (l ++ m)) → w.grownBy w' v.ownBlock → (∀ k, v'.ownBlock = some k → v.ownBlock = some k ∨ w.heap.size ≤ k) → K (a.put o.dst v') w') :
    o.wp Try.prog a w K Q := by
  obtain rfl := hm.len
  refine wp_append_any s x _ ho base 3 (.int .i64 0) 1 8 Try.underlying27 infoI64 rfl (by decide) v l.length (iv l) hs hown A m.length c (iv m) hx hm.nil hm.le (by simp [iv]) hm.lies (oneCell_iv m) (by unfold maxLen; omega) (by omega) hbase ?_
  intro v' w' h1 h2 h3
  refine h v' w' ?_ h2 h3
  rw [List.length_append, iv_append]
  exact h1
theorem append_ints {w : World} {ops : Array Oper} {rest : List Oper} {o : Oper} {a : Act} {Q : Exit → Act → World → Prop} (hgd : o.guard = none) (s x : Operand)
    (ho : o.op = .call { callee := .builtin .append, args := #[s, x], argTypes := #[27, 27] })
    (base : Nat) (v : Value) (l m : List Int) (hs : a.eval s = v) (hown : w.ownsRow base 3 1 v l.length (iv l))
    (A : Option Addr) (n c : Nat) (hx : a.eval x = .slice A n c) (hm : IL w A n c m) (hb : l.length + m.length ≤ 17592186044416) (hbase : base ≤ w.heap.size)
    (h : ∀ v' w', w'.ownsRow base 3 1 v' (l ++ m).length (iv (l ++ m)) → w.grownBy w' v.ownBlock → (∀ k, v'.ownBlock = some k → v.ownBlock = some k ∨ w.heap.size ≤ k) → wpList Try.prog ops Q rest (a.put o.dst v') w') :
    wpList Try.prog ops Q (o :: rest) a w :=
  wpList_plain hgd fun _ hK => wp_append_ints s x ho base v l m hs hown A n c hx hm hb hbase fun v' w' h1 h2 h3 => hK _ _ (h v' w' h1 h2 h3)
/-- append(v, x) of one number, which lies in a block of its own. -/
theorem append_int {w : World} {ops : Array Oper} {rest : List Oper} {o : Oper} {a : Act} {Q : Exit → Act → World → Prop} (hgd : o.guard = none) (s x : Operand)
    (ho : o.op = .call { callee := .builtin .append, args := #[s, x], argTypes := #[27, 27] })
    (base : Nat) (v : Value) (l : List Int) (y : Int) (w0 : World) (hw : w = w0.alloc (.cells #[.int .i64 y] 3)) (hy : I64 y) (hs : a.eval s = v) (hown : w0.ownsRow base 3 1 v l.length (iv l))
    (hx : a.eval x = .slice (some ⟨w0.heap.size, 0, none⟩) 1 1) (hb : l.length < 17592186044416) (hbase : base ≤ w0.heap.size)
    (h : ∀ v' w', w'.ownsRow base 3 1 v' (l ++ [y]).length (iv (l ++ [y])) → w0.grownBy w' v.ownBlock → (∀ k, v'.ownBlock = some k → v.ownBlock = some k ∨ w0.heap.size ≤ k) → wpList Try.prog ops Q rest (a.put o.dst v') w') :
    wpList Try.prog ops Q (o :: rest) a w := by
  subst hw
  refine append_ints hgd s x ho base v l [y] hs (hown.alloc _) _ 1 1 hx (IL.new w0 [y] 3 (0, 0) (by intro z hz; simp at hz; subst hz; exact hy) (by simp)) (by simp; omega) (by rw [World.size_alloc]; omega) ?_
  intro v' w' h1 h2 h3
  refine h v' w' h1 ((World.grownBy_alloc w0 _ _).trans h2) (fun k hk => (h3 k hk).imp id (fun h => ?_))
  rw [World.size_alloc] at h
  omega
set_option maxHeartbeats 4000000 in
theorem eqInts_any (A B : Option Addr) (n c k d : Nat) (l m : List Int) (w : World) (hl : IL w A n c l) (hm : IL w B k d m) :
    Calls Try.prog 13 #[.slice A n c, .slice B k d] w fun e w' => e = .returned (.bool (decide (l = m))) ∧ Below w.heap.size w w' := by
  obtain rfl := hl.len
  obtain rfl := hm.len
  have HL := Lib.hid hl
  have HM := Lib.hid hm
  have hll := hl.lim
  have hmm := hm.lim
  clear hl hm
  by_cases hlen : l.length = m.length
  · have hd : ((l.length : Int) != (m.length : Int)) = false := by simp [hlen]
    have HLEN := Lib.hid hlen
    clear hlen
    go_enter Try.func13, Try.ntmps13
    go_wp2
    go_loopw [5] (fun i wr => ∃ k : Nat, k ≤ l.length ∧ i = .int .i64 k ∧ Hid (l.take k = m.take k) ∧ Below w.heap.size w wr) (fun i _ => l.length - (intOf i).toNat)
    case atStart => exact ⟨0, Nat.zero_le _, rfl, Lib.hid rfl, Below.refl _ _⟩
    case round =>
      obtain ⟨k, hk, rfl, HE, hb⟩ := hrel
      by_cases hlt : k < l.length
      · have hlt' : k < m.length := by rw [← HLEN.out]; exact hlt
        obtain ⟨ad, hA, hc2⟩ := HL.out.cellAt hb hlt
        obtain ⟨ad', hB, hc3⟩ := HM.out.cellAt hb hlt'
        subst hA hB
        have hx := HL.out.fit.at hlt
        have hy := HM.out.fit.at hlt'
        have hl1 := take_snoc l k hlt
        have hm1 := take_snoc m k hlt'
        have HL1 := Lib.hid hl1
        have HM1 := Lib.hid hm1
        clear hl1 hm1
        by_cases he : l[k] = m[k]
        · have hd1 : (l[k] != m[k]) = false := by simp [he]
          have HEQ := Lib.hid he
          clear he
          go_wp2
          go_quiet (fail)
          go_wp2
          exact ⟨⟨k + 1, by omega, by go_num, Lib.hid (by rw [HL1.out, HM1.out, HE.out, HEQ.out]), below_drewN hb _⟩, by simp [intOf]; omega⟩
        · have hd1 : (l[k] != m[k]) = true := by simpa using he
          have hne : decide (l = m) = false := decide_eq_false (fun h => he (by subst h; rfl))
          have HNE := Lib.hid hne
          clear he hne
          go_wp2
          go_quiet (fail)
          go_wp2
          go_ret
          exact ⟨by rw [HNE.out]; rfl, below_drewN hb _⟩
      · have hyes : decide (l = m) = true := by
          have h1 := HE.out
          rw [List.take_of_length_le (by omega), List.take_of_length_le (by rw [← HLEN.out]; omega)] at h1
          exact decide_eq_true h1
        have HY := Lib.hid hyes
        clear hyes
        go_wp2
        go_ret
        exact ⟨by rw [HY.out]; rfl, hb⟩
  · have hd : ((l.length : Int) != (m.length : Int)) = true := by simp; omega
    have hne : decide (l = m) = false := decide_eq_false (fun h => hlen (by rw [h]))
    have HNE := Lib.hid hne
    clear hne
    go_enter Try.func13, Try.ntmps13
    go_wp2
    go_ret
    exact ⟨by rw [HNE.out]; rfl, Below.refl _ _⟩
end Go.Proofs.Ytmnabhennibddaa
