/- Slices of bytes in this program's own type numbers: append; contracts of CopyBytes, EqBytes, Bring. No conditions. -/
import Derived.Test.YtmnabhennibddaaProg
import Derived.Test.YtmnabhennibddaaGD00
import Derived.KernelRfl
import Derived.WalkLawsBesides
import Derived.WalkSpells
import Derived.Outline
import Derived.Deep.QuietTactic
import Derived.BigQuiet
set_option linter.unusedSimpArgs false
set_option linter.unusedVariables false
namespace Go.Proofs.Ytmnabhennibddaa
open Go.RowKit

theorem infoU8 : (Try.prog.info? 5).map (fun i => (i.zero, i.size, i.bytes)) = some (some (.int .u8 0), 1, 1) := by kernel_rfl

/-- append(v, x..) of bytes: at the operation, in a plain region, in one that draws its order. -/
theorem wp_append_bytes {w : World} {o : Oper} {a : Act} {K : Act → World → Prop} {Q : Exit → Act → World → Prop} (s x : Operand)
    (ho : o.op = .call { callee := .builtin .append, args := #[s, x], argTypes := #[22, 22] })
    (base : Nat) (v : Value) (l m : List Nat) (hs : a.eval s = v) (hown : w.ownsRow base 5 1 v l.length (bv l))
    (A : Option Addr) (n c : Nat) (hx : a.eval x = .slice A n c) (hm : BS w A n c m) (hb : l.length + m.length ≤ 140737488355328) (hbase : base ≤ w.heap.size)
    (h : ∀ v' w', w'.ownsRow base 5 1 v' (l ++ m).length (bv (l ++ m)) → w.grownBy w' v.ownBlock → (∀ k, v'.ownBlock = some k → v.ownBlock = some k ∨ w.heap.size ≤ k) → K (a.put o.dst v') w') :
    o.wp Try.prog a w K Q := by
  obtain rfl := hm.len
  refine wp_append_any s x _ ho base 5 (.int .u8 0) 1 1 Try.underlying22 infoU8 rfl (by decide) v l.length (bv l) hs hown A m.length c (bv m) hx hm.nil hm.le (by simp [bv]) hm.lies (oneCell_bv m) (by unfold maxLen; omega) (by omega) hbase ?_
  intro v' w' h1 h2 h3
  refine h v' w' ?_ h2 h3
  rw [List.length_append, bv_append]
  exact h1
theorem append_bytes {w : World} {ops : Array Oper} {rest : List Oper} {o : Oper} {a : Act} {Q : Exit → Act → World → Prop} (hgd : o.guard = none) (s x : Operand)
    (ho : o.op = .call { callee := .builtin .append, args := #[s, x], argTypes := #[22, 22] })
    (base : Nat) (v : Value) (l m : List Nat) (hs : a.eval s = v) (hown : w.ownsRow base 5 1 v l.length (bv l))
    (A : Option Addr) (n c : Nat) (hx : a.eval x = .slice A n c) (hm : BS w A n c m) (hb : l.length + m.length ≤ 140737488355328) (hbase : base ≤ w.heap.size)
    (h : ∀ v' w', w'.ownsRow base 5 1 v' (l ++ m).length (bv (l ++ m)) → w.grownBy w' v.ownBlock → (∀ k, v'.ownBlock = some k → v.ownBlock = some k ∨ w.heap.size ≤ k) → wpList Try.prog ops Q rest (a.put o.dst v') w') :
    wpList Try.prog ops Q (o :: rest) a w :=
  wpList_plain hgd fun _ hK => wp_append_bytes s x ho base v l m hs hown A n c hx hm hb hbase fun v' w' h1 h2 h3 => hK _ _ (h v' w' h1 h2 h3)
theorem step_append_bytes {w : World} {ops : Array Oper} {o : Oper} {a : Act} {K : Act → World → Prop} {Q : Exit → Act → World → Prop} {E : Prop} (hgd : o.guard = none) (s x : Operand)
    (ho : o.op = .call { callee := .builtin .append, args := #[s, x], argTypes := #[22, 22] })
    (base : Nat) (v : Value) (l m : List Nat) (hs : a.eval s = v) (hown : w.ownsRow base 5 1 v l.length (bv l))
    (A : Option Addr) (n c : Nat) (hx : a.eval x = .slice A n c) (hm : BS w A n c m) (hb : l.length + m.length ≤ 140737488355328) (hbase : base ≤ w.heap.size)
    (h : ∀ v' w', w'.ownsRow base 5 1 v' (l ++ m).length (bv (l ++ m)) → w.grownBy w' v.ownBlock → (∀ k, v'.ownBlock = some k → v.ownBlock = some k ∨ w.heap.size ≤ k) → K (a.put o.dst v') w') :
    if Region.wanted o (yielded ops a.tmps) = true then Oper.wp Try.prog o a w K Q else E := by
  have hw : Region.wanted o (yielded ops a.tmps) = true := by simp [Region.wanted, hgd]
  rw [if_pos hw]
  exact wp_append_bytes s x ho base v l m hs hown A n c hx hm hb hbase h

set_option maxHeartbeats 4000000 in
theorem copyBytes_any (A : Option Addr) (n c : Nat) (l : List Nat) (w : World) (hl : BS w A n c l) :
    Calls Try.prog 7 #[.slice A n c] w fun e w' => ∃ v, e = .returned v ∧ w'.ownsRow w.heap.size 5 1 v l.length (bv l) ∧ Below w.heap.size w w' := by
  obtain rfl := hl.len
  have HL := Lib.hid hl
  clear hl
  go_enter Try.func7, Try.ntmps7
  go_wp2_with (at_builtin; refine append_bytes rfl _ _ rfl w.heap.size _ [] l rfl (World.ownsRow_nil _ _ _ _) A _ c rfl HL.out (by have := HL.out.lim; simp; omega) (Nat.le_refl _) ?_; intro v' w1 ho hg _; rw [List.nil_append] at ho)
  go_ret
  exact ⟨v', rfl, ho, (Below.refl _ _).grown hg (Nat.le_refl _) (by intro k hk; cases hk)⟩

set_option maxHeartbeats 4000000 in
theorem eqBytes_any (A B : Option Addr) (n c k d : Nat) (l m : List Nat) (w : World) (hl : BS w A n c l) (hm : BS w B k d m) :
    Calls Try.prog 12 #[.slice A n c, .slice B k d] w fun e w' => e = .returned (.bool (decide (l = m))) ∧ Below w.heap.size w w' := by
  obtain rfl := hl.len
  obtain rfl := hm.len
  have HL := Lib.hid hl
  have HM := Lib.hid hm
  have hll := hl.lim
  have hmm := hm.lim
  clear hl hm
  by_cases hlen : l.length = m.length
  · have hd : ((l.length : Int) != (m.length : Int)) = false := by simp [hlen]
    have HLEN := Lib.hid hlen
    clear hlen
    go_enter Try.func12, Try.ntmps12
    go_wp2
    go_loopw [5] (fun i wr => ∃ k : Nat, k ≤ l.length ∧ i = .int .i64 k ∧ Hid (l.take k = m.take k) ∧ Below w.heap.size w wr) (fun i _ => l.length - (intOf i).toNat)
    case atStart => exact ⟨0, Nat.zero_le _, rfl, Lib.hid rfl, Below.refl _ _⟩
    case round =>
      obtain ⟨k, hk, rfl, HE, hb⟩ := hrel
      by_cases hlt : k < l.length
      · have hlt' : k < m.length := by rw [← HLEN.out]; exact hlt
        obtain ⟨ad, hA, hc2⟩ := HL.out.cellAt hb hlt
        obtain ⟨ad', hB, hc3⟩ := HM.out.cellAt (hb.mono (by exact Nat.le_refl _)) hlt'
        subst hA hB
        have hx : l[k] < 256 := HL.out.byt.at hlt
        have hy : m[k] < 256 := HM.out.byt.at hlt'
        have hl1 := take_snoc l k hlt
        have hm1 := take_snoc m k hlt'
        have HL1 := Lib.hid hl1
        have HM1 := Lib.hid hm1
        clear hl1 hm1
        by_cases he : l[k] = m[k]
        · have hd1 : ((l[k] : Int) != (m[k] : Int)) = false := by simp [he]
          have HEQ := Lib.hid he
          clear he
          go_wp2
          go_quiet (fail)
          go_wp2
          exact ⟨⟨k + 1, by omega, by go_num, Lib.hid (by rw [HL1.out, HM1.out, HE.out, HEQ.out]), below_drewN hb _⟩, by simp [intOf]; omega⟩
        · have hd1 : ((l[k] : Int) != (m[k] : Int)) = true := by simp; omega
          have hne : decide (l = m) = false := decide_eq_false (fun h => he (by subst h; rfl))
          have HNE := Lib.hid hne
          clear he hne
          go_wp2
          go_quiet (fail)
          go_wp2
          go_ret
          exact ⟨by rw [HNE.out]; rfl, below_drewN hb _⟩
      · have hyes : decide (l = m) = true := by
          have h1 := HE.out
          rw [List.take_of_length_le (by omega), List.take_of_length_le (by rw [← HLEN.out]; omega)] at h1
          exact decide_eq_true h1
        have HY := Lib.hid hyes
        clear hyes
        go_wp2
        go_ret
        exact ⟨by rw [HY.out]; rfl, hb⟩
  · have hd : ((l.length : Int) != (m.length : Int)) = true := by simp; omega
    have hne : decide (l = m) = false := decide_eq_false (fun h => hlen (by rw [h]))
    have HNE := Lib.hid hne
    clear hne
    go_enter Try.func12, Try.ntmps12
    go_wp2
    go_ret
    exact ⟨by rw [HNE.out]; rfl, Below.refl _ _⟩
/-- What Bring brings a number to. -/
def bring (i n : Int) : Int := if n ≤ 0 then 0 else i % n

set_option maxHeartbeats 4000000 in
theorem bring_any (i n : Int) (w : World) (h0 : -9223372036854775808 ≤ i) (h1 : i ≤ 9223372036854775807) (h2 : -9223372036854775808 ≤ n) (h3 : n ≤ 9223372036854775807) :
    Calls Try.prog 16 #[.int .i64 i, .int .i64 n] w fun e w' => e = .returned (.int .i64 (bring i n)) ∧ w = w' := by
  by_cases hn : n ≤ 0
  · have hb : bring i n = 0 := by unfold bring; rw [if_pos hn]
    rw [hb]
    go_enter Try.func16, Try.ntmps16
    go_wp2
    go_ret
    exact ⟨rfl, rfl⟩
  · have hb : bring i n = i % n := by unfold bring; rw [if_neg hn]
    have hm0 := Int.emod_nonneg i (b := n) (by omega)
    have hm1 := Int.emod_lt_of_pos i (b := n) (by omega)
    rw [hb]
    clear hb
    by_cases hi : 0 ≤ i
    · go_enter Try.func16, Try.ntmps16
      go_wp2
      go_ret
      exact ⟨rfl, rfl⟩
    · have ht := Int.tmod_eq_emod (a := i) (b := n)
      by_cases hd : n ∣ i
      · have h4 : i.tmod n = 0 := by rw [ht, if_pos (.inr hd), Int.emod_eq_zero_of_dvd hd]; rfl
        have h5 : i % n = 0 := Int.emod_eq_zero_of_dvd hd
        rw [h5]
        clear ht hd h5 hm0 hm1
        go_enter Try.func16, Try.ntmps16
        go_wp2
        go_ret
        exact ⟨rfl, rfl⟩
      · rw [if_neg (by intro h; rcases h with h | h; exact hi h; exact hd h)] at ht
        have h4 : i % n = i.tmod n + n := by omega
        have h6 : i.tmod n < 0 := by omega
        have h7 : -n ≤ i.tmod n := by omega
        rw [h4]
        clear ht hd h4 hm0 hm1
        go_enter Try.func16, Try.ntmps16
        go_wp2
        go_ret
        exact ⟨rfl, rfl⟩
end Go.Proofs.Ytmnabhennibddaa
