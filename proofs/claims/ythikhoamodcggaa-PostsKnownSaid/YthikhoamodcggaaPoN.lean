/- Bring; near: a list of numbers below 200, in order: contracts. No conditions. -/
import Derived.Test.YthikhoamodcggaaPoX
set_option linter.unusedSimpArgs false
set_option linter.unusedVariables false
namespace Go.Proofs.Ythikhoamodcggaa
open Go.RowKit

/-- What Bring brings a number to. -/
def bring (i n : Int) : Int := if n ≤ 0 then 0 else i % n

set_option maxHeartbeats 4000000 in
theorem bring_any (i n : Int) (w : World) (h0 : -9223372036854775808 ≤ i) (h1 : i ≤ 9223372036854775807) (h2 : -9223372036854775808 ≤ n) (h3 : n ≤ 9223372036854775807) :
    Calls Try.prog 20 #[.int .i64 i, .int .i64 n] w fun e w' => e = .returned (.int .i64 (bring i n)) ∧ w = w' := by
  by_cases hn : n ≤ 0
  · have hb : bring i n = 0 := by unfold bring; rw [if_pos hn]
    rw [hb]
    go_enter Try.func20, Try.ntmps20
    go_wp2
    go_ret
    exact ⟨rfl, rfl⟩
  · have hb : bring i n = i % n := by unfold bring; rw [if_neg hn]
    have hm0 := Int.emod_nonneg i (b := n) (by omega)
    have hm1 := Int.emod_lt_of_pos i (b := n) (by omega)
    rw [hb]
    clear hb
    by_cases hi : 0 ≤ i
    · go_enter Try.func20, Try.ntmps20
      go_wp2
      go_ret
      exact ⟨rfl, rfl⟩
    · have ht := Int.tmod_eq_emod (a := i) (b := n)
      by_cases hd : n ∣ i
      · have h4 : i.tmod n = 0 := by rw [ht, if_pos (.inr hd), Int.emod_eq_zero_of_dvd hd]; rfl
        have h5 : i % n = 0 := Int.emod_eq_zero_of_dvd hd
        rw [h5]
        clear ht hd h5 hm0 hm1
        go_enter Try.func20, Try.ntmps20
        go_wp2
        go_ret
        exact ⟨rfl, rfl⟩
      · rw [if_neg (by intro h; rcases h with h | h; exact hi h; exact hd h)] at ht
        have h4 : i % n = i.tmod n + n := by omega
        have h6 : i.tmod n < 0 := by omega
        have h7 : -n ≤ i.tmod n := by omega
        rw [h4]
        clear ht hd h4 hm0 hm1
        go_enter Try.func20, Try.ntmps20
        go_wp2
        go_ret
        exact ⟨rfl, rfl⟩

theorem bring_nat (x : Int) (n : Nat) (hn : 0 < n) : ∃ r : Nat, bring x n = (r : Int) ∧ r < n := by
  have h0 : ¬ ((n : Int) ≤ 0) := by omega
  have h1 := Int.emod_nonneg x (b := (n : Int)) (by omega)
  have h2 := Int.emod_lt_of_pos x (b := (n : Int)) (by omega)
  refine ⟨(x % (n : Int)).toNat, ?_, by omega⟩
  unfold bring
  rw [if_neg h0]
  omega
/-- An array of 200 bools. -/
def Arr (w : World) (g : Nat) : Prop := ∃ cs : Array Value, w.heap[g]? = some (.cells cs 51 (0, 0)) ∧ cs.size = 200 ∧ ∀ k, k < 200 → ∃ b : Bool, cs[k]? = some (.bool b)
theorem Arr.cell {w : World} {g : Nat} (h : Arr w g) {k : Nat} (hk : k < 200) : ∃ b : Bool, w.cell? ⟨g, k, none⟩ = some (.bool b) ∧ w.frozen? ⟨g, k, none⟩ = false := by
  obtain ⟨cs, h1, h2, h3⟩ := h
  obtain ⟨b, hb⟩ := h3 k hk
  exact ⟨b, by simp [World.cell?, h1, hb], by simp [World.frozen?, h1]⟩
theorem Arr.store {w : World} {g : Nat} (h : Arr w g) (k : Nat) (b : Bool) : Arr (w.setCell ⟨g, k, none⟩ (.bool b)) g := by
  obtain ⟨cs, h1, h2, h3⟩ := h
  refine ⟨cs.setIfInBounds k (.bool b), ?_, by simpa using h2, fun j hj => ?_⟩
  · obtain ⟨hlt, he⟩ := Array.getElem?_eq_some_iff.1 h1
    simp [World.setCell, Array.getElem?_modify, h1]
  · obtain ⟨b', hb'⟩ := h3 j hj
    rw [Array.getElem?_setIfInBounds]
    split
    · rename_i e; subst e; exact ⟨b, by simp; omega⟩
    · exact ⟨b', hb'⟩
theorem Arr.grown {w w' : World} {g : Nat} {row : Option Nat} (h : Arr w g) (hg : w.grownBy w' row) (hr : ∀ k, row = some k → g ≠ k) : Arr w' g := by
  obtain ⟨cs, h1, h2, h3⟩ := h
  exact ⟨cs, (hg.block g (Array.getElem?_eq_some_iff.1 h1).1 (fun e => hr g e.symm rfl)).trans h1, h2, h3⟩
theorem Arr.below {w w' : World} {g : Nat} (h : Arr w g) (hb : Below w.heap.size w w') : Arr w' g := by
  obtain ⟨cs, h1, h2, h3⟩ := h
  exact ⟨cs, (hb.block g (Array.getElem?_eq_some_iff.1 h1).1).trans h1, h2, h3⟩
set_option maxRecDepth 100000 in
theorem zero200 : ∀ k, k < 200 → Try.zeroCells51[k]? = some (.bool false) := by
  intro k hk
  have e : Try.zeroCells51 = Array.replicate 200 (.bool false) := by rfl
  rw [e]
  simp [hk]
theorem Arr.new (w : World) : Arr (w.alloc (.cells Try.zeroCells51 51)) w.heap.size :=
  ⟨Try.zeroCells51, by unfold World.alloc; exact Array.getElem?_push_size, by rfl, fun k hk => ⟨false, zero200 k hk⟩⟩
/-- What near answers. -/
def NearR (w w' : World) (e : Ending) : Prop := ∃ (A : Option Addr) (n c : Nat) (L : List Int), e = .returned (.slice A n c) ∧ IL w' A n c L ∧ Inc L ∧ (∀ x ∈ L, x < 200) ∧ L.length ≤ 200 ∧ Below w.heap.size w w'
theorem inc_push {L : List Int} {j : Nat} (h : Inc L) (hl : ∀ x ∈ L, x < (j : Int)) : Inc (L ++ [(j : Int)]) := by
  refine ⟨fun x hx => ?_, ?_⟩
  · rcases List.mem_append.1 hx with hx | hx
    · exact h.1 x hx
    · simp only [List.mem_singleton] at hx; omega
  · rw [List.pairwise_append]
    exact ⟨h.2, List.pairwise_singleton _ _, fun x hx y hy => by simp only [List.mem_singleton] at hy; rw [hy]; exact hl x hx⟩

set_option maxHeartbeats 16000000 in
set_option maxRecDepth 100000 in
theorem near_any {A : Option Addr} {n c : Nat} {l : List Int} {w : World} (h : IL w A n c l) :
    Calls Try.prog 19 #[.slice A n c] w fun e w' => NearR w w' e := by
  obtain ⟨L, rfl⟩ : ∃ L, L = n := ⟨_, rfl⟩
  have HLL := Lib.hid h.len
  have HL := Lib.hid h
  have hlim : L ≤ 17592186044416 := by rw [h.len]; exact h.lim
  have HA := Lib.hid (Arr.new w)
  have hb0 : Below w.heap.size w (w.alloc (.cells Try.zeroCells51 51)) := (bel0 w).alloc (Nat.le_refl _) _
  clear h
  go_enter Try.func19, Try.ntmps19
  go_wp2_with fail
  generalize hW0 : w.alloc _ = W0 at *
  clear hW0
  go_loopw [4] (fun i wr => ∃ k : Nat, k ≤ L ∧ i = .int .i64 k ∧ Hid (Arr wr w.heap.size) ∧ Below w.heap.size w wr) (fun i _ => L - (intOf i).toNat)
  case atStart => exact ⟨0, Nat.zero_le _, rfl, HA, hb0⟩
  case round =>
    clear HA hb0
    obtain ⟨k, hk, rfl, HA, hb⟩ := hrel
    by_cases hlt : k < L
    · have hlt' : k < l.length := by rw [← HLL.out]; exact hlt
      obtain ⟨b, o, rfl⟩ := HL.out.plain (by omega)
      have hc := HL.out.cells hb hlt'
      have haa : (⟨b, o, none⟩ : Addr).add k = ⟨b, o + k, none⟩ := addr_add _ _ _
      have hf := HL.out.fit.at hlt'
      obtain ⟨r, hr, hr2⟩ := bring_nat l[k] 200 (by omega)
      have BR : Hid (∀ w, Calls Try.prog 20 #[.int .i64 l[k], .int .i64 200] w fun e w' => e = .returned (.int .i64 (r : Int)) ∧ w = w') := Lib.hid (fun w => by
        have := bring_any l[k] 200 w hf.1 hf.2 (by omega) (by omega)
        rw [show ((200 : Nat) : Int) = 200 from rfl] at hr
        rw [hr] at this
        exact this)
      obtain ⟨bb, hcb, hfb⟩ := HA.out.cell hr2
      have har : (⟨w.heap.size, 0, none⟩ : Addr).add r = ⟨w.heap.size, r, none⟩ := by rw [addr_add, Nat.zero_add]
      have HS := Lib.hid (HA.out.store r true)
      have hbs : Below w.heap.size w (wr.setCell ⟨w.heap.size, r, none⟩ (.bool true)) := hb.setCell (Nat.le_refl _) _
      have hr3 : (r : Int) < 200 := by omega
      generalize l[k] = y at *
      clear hr hlt'
      go_wp2_with fail
      refine (BR.out _).mono ?_
      rintro e w1 ⟨rfl, rfl⟩
      go_wp2_with fail
      exact ⟨⟨k + 1, by omega, by go_num, HS, hbs⟩, by simp [intOf]; omega⟩
    · obtain rfl : k = L := by omega
      have hz : w.heap.size < wr.heap.size := by obtain ⟨cs, h1, _⟩ := HA.out; exact (Array.getElem?_eq_some_iff.1 h1).1
      go_wp2_with fail
      go_loopw [5, 6] (fun v i wq => ∃ (vo : Value) (j : Nat) (R : List Int), vo = v ∧ j ≤ 200 ∧ i = .int .i64 j ∧ Hid (wq.ownsRow (w.heap.size + 1) 3 1 vo R.length (iv R)) ∧ Hid (Inc R ∧ (∀ x ∈ R, x < (j : Int)) ∧ R.length ≤ j) ∧ Hid (Arr wq w.heap.size) ∧ Below w.heap.size w wq ∧ w.heap.size < wq.heap.size) (fun _ i _ => 200 - (intOf i).toNat)
      case atStart => exact ⟨_, 0, [], rfl, Nat.zero_le _, rfl, Lib.hid (World.ownsRow_nil _ _ _ _), Lib.hid ⟨inc_nil, (by intro x hx; cases hx), Nat.le_refl _⟩, HA, hb, hz⟩
      case round =>
        clear HA hb hz
        obtain ⟨vo, j, R, rfl, hj, rfl, HO, HR, HA, hb, hz⟩ := hrel
        by_cases hlt : j < 200
        · obtain ⟨bb, hcb, hfb⟩ := HA.out.cell hlt
          have har : (⟨w.heap.size, 0, none⟩ : Addr).add j = ⟨w.heap.size, j, none⟩ := by rw [addr_add, Nat.zero_add]
          have hr3 : (j : Int) < 200 := by omega
          have hr0 : (0 : Int) ≤ (j : Int) := by omega
          cases bb with
          | true =>
            go_wp2_with (at_builtin; refine append_int rfl (.tmp 26) (.tmp 28) rfl (w.heap.size + 1) vo R (j : Int) wr rfl ⟨by omega, by omega⟩ rfl HO.out rfl (by have := HR.out.2.2; omega) (by omega) ?_; intro v3 w3 ho3 hg3 hv3; have hb3 := grown_below hb hg3 (fun k hk => Nat.le_trans (Nat.le_succ _) (own_block HO.out k hk)); have HO3 := Lib.hid ho3; have HA3 := Lib.hid (HA.out.grown hg3 (fun k hk => by have := own_block HO.out k hk; omega)); have hz3 := Nat.lt_of_lt_of_le hz hg3.size; clear ho3 hg3 hv3)
            exact ⟨⟨_, j + 1, _, rfl, by omega, by go_num, HO3, Lib.hid ⟨inc_push HR.out.1 HR.out.2.1, (by
              intro x hx
              rcases List.mem_append.1 hx with hx | hx
              · have := HR.out.2.1 x hx; omega
              · simp only [List.mem_singleton] at hx; omega), by rw [List.length_append]; have := HR.out.2.2; simp; omega⟩, HA3, hb3, hz3⟩, by simp [intOf]; omega⟩
          | false =>
            go_wp2_with fail
            exact ⟨⟨_, j + 1, R, rfl, by omega, by go_num, HO, Lib.hid ⟨HR.out.1, (fun x hx => by have := HR.out.2.1 x hx; omega), by have := HR.out.2.2; omega⟩, HA, hb, hz⟩, by simp [intOf]; omega⟩
        · obtain rfl : j = 200 := by omega
          obtain ⟨A2, n2, c2, rfl, hI, _⟩ := ownsRow_il HO.out (fun x hx => by have h1 := HR.out.1.1 x hx; have h2 := HR.out.2.1 x hx; exact ⟨by omega, by omega⟩) (by have := HR.out.2.2; omega)
          have HI := Lib.hid hI
          clear hI
          go_wp2_with fail
          go_ret
          exact ⟨A2, n2, c2, R, rfl, HI.out, HR.out.1, HR.out.2.1, HR.out.2.2, hb⟩
end Go.Proofs.Ythikhoamodcggaa
