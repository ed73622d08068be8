/- The walk of the law PostsPut. No conditions. -/
import Derived.Test.YthikhoamodcggaaPoM
set_option linter.unusedSimpArgs false
set_option linter.unusedVariables false
namespace Go.Proofs.Ythikhoamodcggaa
open Go.RowKit

theorem len_put {a b : List Int} (ha : Inc a) (hb : Inc b) (k : Int) (hk : k ∈ a) (hm : ∀ x, x ∈ b ↔ x ∈ a ∧ x ≠ k) : a.length = b.length + 1 := by
  have hn : ¬ k ∈ b := fun h => ((hm k).1 h).2 rfl
  have e : a = insI b k := inc_ext ha (ins_inc hb (ha.1 k hk) hn) (fun x => by
    rw [ins_mem hb, hm]
    refine ⟨fun h => ?_, fun h => h.elim (fun h => h.1) (fun e => e ▸ hk)⟩
    by_cases e : x = k
    · exact .inr e
    · exact .inl ⟨h, e⟩)
  have h1 := List.countP_le_length (p := fun y => decide (y < k)) (l := b)
  rw [e]
  unfold insI
  simp only [List.length_append, List.length_cons, List.length_take, List.length_drop]
  omega
set_option maxHeartbeats 32000000 in
set_option maxRecDepth 100000 in
theorem postsPut_walk (A : Option Addr) (c : Nat) (l : List Int) (n : Int) (w : World) (hA : IS w A c l) (hn : I64 n) :
    Calls Try.prog 8 #[.slice A l.length c, .int .i64 n] w fun e w' => e = .returned (.bool true) ∧ Below w.heap.size w w' := by
  obtain ⟨k, hk, hk2⟩ := bring_nat n 250 (by omega)
  have BR : Hid (∀ w, Calls Try.prog 20 #[.int .i64 n, .int .i64 250] w fun e w' => e = .returned (.int .i64 (k : Int)) ∧ w = w') := Lib.hid (fun w => by
    have := bring_any n 250 w hn.1 hn.2 (by omega) (by omega)
    rw [show ((250 : Nat) : Int) = 250 from rfl] at hk
    rw [hk] at this
    exact this)
  have hk0 : (0 : Int) ≤ (k : Int) := by omega
  have hk1 : (k : Int) < 300 := by omega
  clear hk hk2 hn
  go_enter Try.func8, Try.ntmps8
  have L_0 := Lib.hid (IL.ofIS hA)
  clear hA
  go_wp2_with fail
  refine (works21_any _).mono ?_
  rintro e w1 ⟨rfl, hb1⟩
  have L_1 := Lib.hid (L_0.out.below hb1)
  have hbw1 := hb1
  clear L_0
  go_wp2_with fail
  refine (near1 (L_1.out)).mono ?_
  rintro e w2 ⟨Aa, na, ca, la, rfl, hs, hqa, hb2⟩
  have L_2 := Lib.hid (L_1.out.below hb2)
  have hbw2 := nx hbw1 hb2
  clear L_1
  have Sa_2 := Lib.hid (hs)
  clear hs
  go_wp2_with fail
  clear L_2
  refine (BR.out _).mono ?_
  rintro e w3 ⟨rfl, rfl⟩
  go_wp2_with fail
  refine (Put1 (Sa_2.out) _ hk0 hk1).mono ?_
  rintro e w3 ⟨Ap, np, cp, lp, rfl, hs, hpp, hb3⟩
  have Sa_3 := Lib.hid (Sa_2.out.below hb3)
  have hbw3 := nx hbw2 hb3
  clear Sa_2
  have Sp_3 := Lib.hid (hs)
  clear hs
  go_wp2_with fail
  refine (Cut1 (Sp_3.out) _).mono ?_
  rintro e w4 ⟨Aq, nq, cq, lq, rfl, hs, hpq, hb4⟩
  have Sa_4 := Lib.hid (Sa_3.out.below hb4)
  have Sp_4 := Lib.hid (Sp_3.out.below hb4)
  have hbw4 := nx hbw3 hb4
  clear Sa_3 Sp_3
  have Sq_4 := Lib.hid (hs)
  clear hs
  go_wp2_with fail
  refine (Cut1 (Sa_4.out) _).mono ?_
  rintro e w5 ⟨Ac, nc, cc, lc, rfl, hs, hpc, hb5⟩
  have Sa_5 := Lib.hid (Sa_4.out.below hb5)
  have Sp_5 := Lib.hid (Sp_4.out.below hb5)
  have Sq_5 := Lib.hid (Sq_4.out.below hb5)
  have hbw5 := nx hbw4 hb5
  clear Sa_4 Sp_4 Sq_4
  have Sc_5 := Lib.hid (hs)
  clear hs
  go_wp2_with fail
  refine (Put1 (Sp_5.out) _ hk0 hk1).mono ?_
  rintro e w6 ⟨Ad, nd, cd, ld, rfl, hs, hpd, hb6⟩
  have Sa_6 := Lib.hid (Sa_5.out.below hb6)
  have Sp_6 := Lib.hid (Sp_5.out.below hb6)
  have Sq_6 := Lib.hid (Sq_5.out.below hb6)
  have Sc_6 := Lib.hid (Sc_5.out.below hb6)
  have hbw6 := nx hbw5 hb6
  clear Sa_5 Sp_5 Sq_5 Sc_5
  have Sd_6 := Lib.hid (hs)
  clear hs
  go_wp2_with fail
  have hh : decide ((k : Int) ∈ lp) = true := by simp [hpp, hpq]
  refine (Has1 (Sp_6.out) _).mono ?_
  rintro e w7 ⟨rfl, hb7⟩
  have Sa_7 := Lib.hid (Sa_6.out.below hb7)
  have Sp_7 := Lib.hid (Sp_6.out.below hb7)
  have Sq_7 := Lib.hid (Sq_6.out.below hb7)
  have Sc_7 := Lib.hid (Sc_6.out.below hb7)
  have Sd_7 := Lib.hid (Sd_6.out.below hb7)
  have hbw7 := nx hbw6 hb7
  clear Sa_6 Sp_6 Sq_6 Sc_6 Sd_6
  rw [hh]
  clear hh
  go_wp2_with fail
  have hh : decide ((k : Int) ∈ lq) = false := by simp [hpp, hpq]
  refine (Has1 (Sq_7.out) _).mono ?_
  rintro e w8 ⟨rfl, hb8⟩
  have Sa_8 := Lib.hid (Sa_7.out.below hb8)
  have Sp_8 := Lib.hid (Sp_7.out.below hb8)
  have Sq_8 := Lib.hid (Sq_7.out.below hb8)
  have Sc_8 := Lib.hid (Sc_7.out.below hb8)
  have Sd_8 := Lib.hid (Sd_7.out.below hb8)
  have hbw8 := nx hbw7 hb8
  clear Sa_7 Sp_7 Sq_7 Sc_7 Sd_7
  rw [hh]
  clear hh
  go_wp2_with fail
  refine (Eq1 (Sq_8.out) (Sc_8.out) (by intro x; rw [hpq, hpp, hpc]; exact ⟨fun h => ⟨h.1.resolve_left h.2, h.2⟩, fun h => ⟨.inr h.1, h.2⟩⟩)).mono ?_
  rintro e w9 ⟨rfl, hb9⟩
  have Sa_9 := Lib.hid (Sa_8.out.below hb9)
  have Sp_9 := Lib.hid (Sp_8.out.below hb9)
  have Sq_9 := Lib.hid (Sq_8.out.below hb9)
  have Sc_9 := Lib.hid (Sc_8.out.below hb9)
  have Sd_9 := Lib.hid (Sd_8.out.below hb9)
  have hbw9 := nx hbw8 hb9
  clear Sa_8 Sp_8 Sq_8 Sc_8 Sd_8
  go_wp2_with fail
  refine (Eq1 (Sp_9.out) (Sd_9.out) (by intro x; rw [hpd, hpp]; exact ⟨.inr, fun h => h.elim .inl id⟩)).mono ?_
  rintro e w10 ⟨rfl, hb10⟩
  have Sa_10 := Lib.hid (Sa_9.out.below hb10)
  have Sp_10 := Lib.hid (Sp_9.out.below hb10)
  have Sq_10 := Lib.hid (Sq_9.out.below hb10)
  have Sc_10 := Lib.hid (Sc_9.out.below hb10)
  have Sd_10 := Lib.hid (Sd_9.out.below hb10)
  have hbw10 := nx hbw9 hb10
  clear Sa_9 Sp_9 Sq_9 Sc_9 Sd_9
  have hlq : np = nq + 1 := by
    rw [(Sp_10.out).1.len, (Sq_10.out).1.len]
    exact len_put (Sp_10.out).2.1 (Sq_10.out).2.1 (k : Int) ((hpp _).2 (.inl rfl)) hpq
  have hnq : nq ≤ 300 := by rw [(Sq_10.out).1.len]; exact (Sq_10.out).small
  subst hlq
  go_wp2_with fail
  refine (Check1 (Sp_10.out)).mono ?_
  rintro e w11 ⟨rfl, hb11⟩
  have Sa_11 := Lib.hid (Sa_10.out.below hb11)
  have Sp_11 := Lib.hid (Sp_10.out.below hb11)
  have Sq_11 := Lib.hid (Sq_10.out.below hb11)
  have Sc_11 := Lib.hid (Sc_10.out.below hb11)
  have Sd_11 := Lib.hid (Sd_10.out.below hb11)
  have hbw11 := nx hbw10 hb11
  clear Sa_10 Sp_10 Sq_10 Sc_10 Sd_10
  go_wp2_with fail
  go_ret
  exact ⟨rfl, hbw11⟩
end Go.Proofs.Ythikhoamodcggaa
