/- The document's or, Put, one, But, Cut, Has of lists of numbers: contracts. No conditions. -/
import Derived.Test.YthikhoamodcggaaPoE
set_option linter.unusedSimpArgs false
set_option linter.unusedVariables false
namespace Go.Proofs.Ythikhoamodcggaa
open Go.RowKit

theorem drop_cons {l : List Int} {k : Nat} (h : k < l.length) : l.drop k = l[k] :: l.drop (k + 1) := (List.getElem_cons_drop h).symm
theorem mrg_lt {a b : List Int} {i k : Nat} (hi : i < a.length) (hk : k < b.length) (h : a[i] < b[k]) : mrg (a.drop i) (b.drop k) = a[i] :: mrg (a.drop (i + 1)) (b.drop k) := by
  rw [drop_cons hi, drop_cons hk, mrg, if_pos h]
theorem mrg_eq {a b : List Int} {i k : Nat} (hi : i < a.length) (hk : k < b.length) (h : a[i] = b[k]) : mrg (a.drop i) (b.drop k) = b[k] :: mrg (a.drop (i + 1)) (b.drop (k + 1)) := by
  rw [drop_cons hi, drop_cons hk, mrg, if_neg (by omega), if_pos h]
theorem mrg_gt {a b : List Int} {i k : Nat} (hi : i < a.length) (hk : k < b.length) (h : b[k] < a[i]) : mrg (a.drop i) (b.drop k) = b[k] :: mrg (a.drop i) (b.drop (k + 1)) := by
  rw [drop_cons hi, drop_cons hk, mrg, if_neg (by omega), if_neg (by omega)]
theorem mrg_l {a b : List Int} {i k : Nat} (hi : i < a.length) (hk : b.length ≤ k) : mrg (a.drop i) (b.drop k) = a[i] :: mrg (a.drop (i + 1)) (b.drop k) := by
  rw [List.drop_of_length_le hk, drop_cons hi, mrg_nil, mrg_nil]
theorem mrg_r {a b : List Int} {i k : Nat} (hi : a.length ≤ i) (hk : k < b.length) : mrg (a.drop i) (b.drop k) = b[k] :: mrg (a.drop i) (b.drop (k + 1)) := by
  rw [List.drop_of_length_le hi, drop_cons hk, nil_mrg, nil_mrg]
theorem mrg_end {a b : List Int} {i k : Nat} (hi : a.length ≤ i) (hk : b.length ≤ k) : mrg (a.drop i) (b.drop k) = [] := by
  rw [List.drop_of_length_le hi, List.drop_of_length_le hk, nil_mrg]

set_option maxHeartbeats 16000000 in
set_option maxRecDepth 100000 in
theorem refor_any {A B : Option Addr} {n c m d : Nat} {a b : List Int} {w : World} (h : IL w A n c a) (h2 : IL w B m d b) (hl : a.length + b.length ≤ 17592186044416) :
    Calls Try.prog 43 #[.slice A n c, .slice B m d] w fun e w' => OneI w w' e (mrg a b) := by
  have HA := Lib.hid h
  have HB := Lib.hid h2
  obtain ⟨la, rfl⟩ : ∃ L, L = n := ⟨_, rfl⟩
  obtain ⟨lb, rfl⟩ : ∃ L, L = m := ⟨_, rfl⟩
  have HLA := Lib.hid h.len
  have HLB := Lib.hid h2.len
  have hlim : la + lb ≤ 17592186044416 := by rw [h.len, h2.len]; exact hl
  have HM := Lib.hid (mrg_len a b)
  clear h h2 hl
  obtain ⟨X, hX⟩ : ∃ X, X = mrg a b := ⟨_, rfl⟩
  rw [← hX]
  have HX := Lib.hid hX
  clear hX
  go_enter Try.func43, Try.ntmps43
  go_wp2
  go_loopw [5, 6, 7] (fun v i k wr => ∃ (vo : Value) (O : List Int) (p q : Nat), vo = v ∧ p ≤ la ∧ q ≤ lb ∧ i = .int .i64 p ∧ k = .int .i64 q ∧ Hid (wr.ownsRow w.heap.size 3 1 vo O.length (iv O)) ∧ Below w.heap.size w wr ∧ Hid (X = O ++ mrg (a.drop p) (b.drop q))) (fun _ i k _ => (la - (intOf i).toNat) + (lb - (intOf k).toNat))
  case atStart => exact ⟨_, [], 0, 0, rfl, Nat.zero_le _, Nat.zero_le _, rfl, rfl, Lib.hid (World.ownsRow_nil _ _ _ _), bel0 w, Lib.hid (by rw [HX.out]; simp)⟩
  case round =>
    obtain ⟨vo, O, p, q, rfl, hp, hq, rfl, rfl, HO, hb, HR⟩ := hrel
    have hol : O.length ≤ 17592186044416 - 1 ∨ ¬ (p < la ∨ q < lb) := by
      by_cases hz : p < la ∨ q < lb
      · left
        have h1 := congrArg List.length HR.out
        rw [List.length_append] at h1
        have h2 := HM.out
        rw [← HX.out, ← HLA.out, ← HLB.out] at h2
        have h3 : 1 ≤ (mrg (a.drop p) (b.drop q)).length := by
          have hne : mrg (a.drop p) (b.drop q) ≠ [] := by
            intro e
            rcases hz with hz | hz
            · have := (mrg_mem (a.drop p) (b.drop q) (a[p]'(by rw [← HLA.out]; exact hz))).2 (.inl (by rw [drop_cons (by rw [← HLA.out]; exact hz)]; exact List.mem_cons_self ..))
              rw [e] at this; cases this
            · have := (mrg_mem (a.drop p) (b.drop q) (b[q]'(by rw [← HLB.out]; exact hz))).2 (.inr (by rw [drop_cons (by rw [← HLB.out]; exact hz)]; exact List.mem_cons_self ..))
              rw [e] at this; cases this
          exact List.length_pos_iff.2 hne
        omega
      · exact .inr hz
    have HOL := Lib.hid hol
    clear hol
    by_cases hpa : p < la
    · have hpa' : p < a.length := by rw [← HLA.out]; exact hpa
      obtain ⟨bA, oA, rfl⟩ := HA.out.plain (by omega)
      have hcA := HA.out.cells hb hpa'
      have haA : (⟨bA, oA, none⟩ : Addr).add p = ⟨bA, oA + p, none⟩ := addr_add _ _ _
      have HFA := Lib.hid (HA.out.fit.at hpa')
      obtain ⟨x, hx⟩ : ∃ x, x = a[p] := ⟨_, rfl⟩
      rw [← hx] at hcA HFA
      have i0 : (0 : Int) ≤ (p : Int) := by omega
      have i1 : (p : Int) < (la : Int) := by omega
      have i2 : decide (p < la) = true := decide_eq_true hpa
      have i3 : decide ((p : Int) < (la : Int)) = true := decide_eq_true i1
      by_cases hqb : q < lb
      · have hqb' : q < b.length := by rw [← HLB.out]; exact hqb
        obtain ⟨bB, oB, rfl⟩ := HB.out.plain (by omega)
        have hcB := HB.out.cells hb hqb'
        have haB : (⟨bB, oB, none⟩ : Addr).add q = ⟨bB, oB + q, none⟩ := addr_add _ _ _
        have HFB := Lib.hid (HB.out.fit.at hqb')
        obtain ⟨y, hy⟩ : ∃ y, y = b[q] := ⟨_, rfl⟩
        rw [← hy] at hcB HFB
        have j0 : (0 : Int) ≤ (q : Int) := by omega
        have j1 : (q : Int) < (lb : Int) := by omega
        have j2 : decide (lb ≤ q) = false := decide_eq_false (by omega)
        have j3 : decide ((lb : Int) ≤ (q : Int)) = false := decide_eq_false (by omega)
        rcases Int.lt_trichotomy x y with hlt | heq | hgt
        · have d1 : decide (x < y) = true := decide_eq_true hlt
          have HR1 := Lib.hid (by have := HR.out.trans (congrArg (O ++ ·) (mrg_lt hpa' hqb' (by rw [← hx, ← hy]; exact hlt))); rw [← hx] at this; exact this)
          clear hpa' hqb' hx hy
          go_wp2
          go_quiet (fail)
          go_wp2_with (at_builtin; refine append_int rfl (.tmp 39) (.tmp 44) rfl w.heap.size vo O x _ rfl HFA.out rfl (ownsRow_below HO.out (below_drewN (bel0 _) _)) rfl (by have := HOL.out; omega) (below_drewN hb _).size ?_; intro v3 w3 ho3 hg3 hv3; have hb3 := grown_below (below_drewN hb _) hg3 (own_block HO.out); have HO3 := Lib.hid ho3; clear ho3 hg3 hv3)
          exact ⟨⟨_, _, p + 1, q, rfl, by omega, by omega, by go_num, by go_num, HO3, hb3, Lib.hid (by rw [HR1.out]; simp)⟩, by simp [intOf]; omega⟩
        · have d1 : decide (x < y) = false := decide_eq_false (by omega)
          have d2 : (x == y) = true := by simpa using heq
          have HR1 := Lib.hid (by have := HR.out.trans (congrArg (O ++ ·) (mrg_eq hpa' hqb' (by rw [← hx, ← hy]; exact heq))); rw [← hy] at this; exact this)
          clear hpa' hqb' heq hx hy
          go_wp2
          go_quiet (fail)
          go_wp2
          go_quiet (fail)
          go_wp2_with (at_builtin; refine append_int rfl (.tmp 65) (.tmp 70) rfl w.heap.size vo O y _ rfl HFB.out rfl (ownsRow_below HO.out (below_drewN (bel0 _) _)) rfl (by have := HOL.out; omega) (below_drewN hb _).size ?_; intro v3 w3 ho3 hg3 hv3; have hb3 := grown_below (below_drewN hb _) hg3 (own_block HO.out); have HO3 := Lib.hid ho3; clear ho3 hg3 hv3)
          exact ⟨⟨_, _, p + 1, q + 1, rfl, by omega, by omega, by go_num, by go_num, HO3, hb3, Lib.hid (by rw [HR1.out]; simp)⟩, by simp [intOf]; omega⟩
        · have d1 : decide (x < y) = false := decide_eq_false (by omega)
          have d2 : (x == y) = false := by simp; omega
          have HR1 := Lib.hid (by have := HR.out.trans (congrArg (O ++ ·) (mrg_gt hpa' hqb' (by rw [← hx, ← hy]; exact hgt))); rw [← hy] at this; exact this)
          clear hpa' hqb' hx hy
          go_wp2
          go_quiet (fail)
          go_wp2
          go_quiet (fail)
          go_wp2_with (at_builtin; refine append_int rfl (.tmp 65) (.tmp 70) rfl w.heap.size vo O y _ rfl HFB.out rfl (ownsRow_below HO.out (below_drewN (bel0 _) _)) rfl (by have := HOL.out; omega) (below_drewN hb _).size ?_; intro v3 w3 ho3 hg3 hv3; have hb3 := grown_below (below_drewN hb _) hg3 (own_block HO.out); have HO3 := Lib.hid ho3; clear ho3 hg3 hv3)
          exact ⟨⟨_, _, p, q + 1, rfl, by omega, by omega, by go_num, by go_num, HO3, hb3, Lib.hid (by rw [HR1.out]; simp)⟩, by simp [intOf]; omega⟩
      · have j2 : decide (lb ≤ q) = true := decide_eq_true (by omega)
        have j3 : decide ((lb : Int) ≤ (q : Int)) = true := decide_eq_true (by omega)
        have HR1 := Lib.hid (by have := HR.out.trans (congrArg (O ++ ·) (mrg_l (b := b) (k := q) hpa' (by rw [← HLB.out]; omega))); rw [← hx] at this; exact this)
        clear hpa' hx
        go_wp2
        go_quiet (fail)
        go_wp2_with (at_builtin; refine append_int rfl (.tmp 39) (.tmp 44) rfl w.heap.size vo O x _ rfl HFA.out rfl (ownsRow_below HO.out (below_drewN (bel0 _) _)) rfl (by have := HOL.out; omega) (below_drewN hb _).size ?_; intro v3 w3 ho3 hg3 hv3; have hb3 := grown_below (below_drewN hb _) hg3 (own_block HO.out); have HO3 := Lib.hid ho3; clear ho3 hg3 hv3)
        exact ⟨⟨_, _, p + 1, q, rfl, by omega, by omega, by go_num, by go_num, HO3, hb3, Lib.hid (by rw [HR1.out]; simp)⟩, by simp [intOf]; omega⟩
    · have i2 : decide (p < la) = false := decide_eq_false hpa
      have i3 : decide ((p : Int) < (la : Int)) = false := decide_eq_false (by omega)
      by_cases hqb : q < lb
      · have hqb' : q < b.length := by rw [← HLB.out]; exact hqb
        obtain ⟨bB, oB, rfl⟩ := HB.out.plain (by omega)
        have hcB := HB.out.cells hb hqb'
        have haB : (⟨bB, oB, none⟩ : Addr).add q = ⟨bB, oB + q, none⟩ := addr_add _ _ _
        have HFB := Lib.hid (HB.out.fit.at hqb')
        obtain ⟨y, hy⟩ : ∃ y, y = b[q] := ⟨_, rfl⟩
        rw [← hy] at hcB HFB
        have j0 : (0 : Int) ≤ (q : Int) := by omega
        have j1 : (q : Int) < (lb : Int) := by omega
        have j2 : decide (lb ≤ q) = false := decide_eq_false (by omega)
        have j3 : decide ((lb : Int) ≤ (q : Int)) = false := decide_eq_false (by omega)
        have HR1 := Lib.hid (by have := HR.out.trans (congrArg (O ++ ·) (mrg_r (a := a) (i := p) (by rw [← HLA.out]; omega) hqb')); rw [← hy] at this; exact this)
        clear hqb' hy
        go_wp2
        go_quiet (fail)
        go_wp2
        go_quiet (fail)
        go_wp2_with (at_builtin; refine append_int rfl (.tmp 65) (.tmp 70) rfl w.heap.size vo O y _ rfl HFB.out rfl (ownsRow_below HO.out (below_drewN (bel0 _) _)) rfl (by have := HOL.out; omega) (below_drewN hb _).size ?_; intro v3 w3 ho3 hg3 hv3; have hb3 := grown_below (below_drewN hb _) hg3 (own_block HO.out); have HO3 := Lib.hid ho3; clear ho3 hg3 hv3)
        exact ⟨⟨_, _, p, q + 1, rfl, by omega, by omega, by go_num, by go_num, HO3, hb3, Lib.hid (by rw [HR1.out]; simp)⟩, by simp [intOf]; omega⟩
      · have HR1 := Lib.hid (HR.out.trans (congrArg (O ++ ·) (mrg_end (by rw [← HLA.out]; omega) (by rw [← HLB.out]; omega))))
        go_wp2
        go_ret
        exact ⟨_, rfl, by have := HR1.out; rw [List.append_nil] at this; rw [this]; exact HO.out, hb⟩
end Go.Proofs.Ythikhoamodcggaa
