/- The walk of the law PostsLaws. No conditions. -/
import Derived.Test.YthikhoamodcggaaPoM
set_option linter.unusedSimpArgs false
set_option linter.unusedVariables false
namespace Go.Proofs.Ythikhoamodcggaa
open Go.RowKit

theorem pl_and {a b c : Prop} : (a ∧ b) ∧ c ↔ c ∧ b ∧ a := ⟨fun h => ⟨h.2, h.1.2, h.1.1⟩, fun h => ⟨⟨h.2.2, h.2.1⟩, h.1⟩⟩
theorem pl_or {a b c : Prop} : a ∨ (b ∨ c) ↔ c ∨ b ∨ a := ⟨fun h => h.elim (fun h => .inr (.inr h)) (fun h => h.elim (fun h => .inr (.inl h)) .inl), fun h => h.elim (fun h => .inr (.inr h)) (fun h => h.elim (fun h => .inr (.inl h)) .inl)⟩
theorem pl_back {a b : Prop} : (a ∧ ¬ b) ∨ (a ∧ b) ↔ a := ⟨fun h => h.elim (·.1) (·.1), fun h => by
  by_cases hb : b
  · exact .inr ⟨h, hb⟩
  · exact .inl ⟨h, hb⟩⟩
theorem pl_rest {a b : Prop} : (a ∨ b) ∧ ¬ b ↔ a ∧ ¬ b := ⟨fun h => ⟨h.1.resolve_right h.2, h.2⟩, fun h => ⟨.inl h.1, h.2⟩⟩
set_option maxHeartbeats 32000000 in
set_option maxRecDepth 100000 in
theorem postsLaws_walk (A : Option Addr) (ca : Nat) (l : List Int) (B : Option Addr) (cb : Nat) (m : List Int) (C : Option Addr) (cc : Nat) (k : List Int) (w : World) (hA : IS w A ca l) (hB : IS w B cb m) (hC : IS w C cc k) :
    Calls Try.prog 4 #[.slice A l.length ca, .slice B m.length cb, .slice C k.length cc] w fun e w' => e = .returned (.bool true) ∧ Below w.heap.size w w' := by
  go_enter Try.func4, Try.ntmps4
  have LA_0 := Lib.hid (IL.ofIS hA)
  have LB_0 := Lib.hid (IL.ofIS hB)
  have LC_0 := Lib.hid (IL.ofIS hC)
  clear hA hB hC
  go_wp2_with fail
  refine (works21_any _).mono ?_
  rintro e w1 ⟨rfl, hb1⟩
  have LA_1 := Lib.hid (LA_0.out.below hb1)
  have LB_1 := Lib.hid (LB_0.out.below hb1)
  have LC_1 := Lib.hid (LC_0.out.below hb1)
  have hbw1 := hb1
  clear LA_0 LB_0 LC_0
  go_wp2_with fail
  refine (near1 (LA_1.out)).mono ?_
  rintro e w2 ⟨Aa, na, ca, la, rfl, hs, hqa, hb2⟩
  have LA_2 := Lib.hid (LA_1.out.below hb2)
  have LB_2 := Lib.hid (LB_1.out.below hb2)
  have LC_2 := Lib.hid (LC_1.out.below hb2)
  have hbw2 := nx hbw1 hb2
  clear LA_1 LB_1 LC_1
  have Sa_2 := Lib.hid (hs)
  clear hs
  go_wp2_with fail
  clear LA_2
  refine (near1 (LB_2.out)).mono ?_
  rintro e w3 ⟨Ab, nb, cb, lb, rfl, hs, hqb, hb3⟩
  have LB_3 := Lib.hid (LB_2.out.below hb3)
  have LC_3 := Lib.hid (LC_2.out.below hb3)
  have Sa_3 := Lib.hid (Sa_2.out.below hb3)
  have hbw3 := nx hbw2 hb3
  clear LB_2 LC_2 Sa_2
  have Sb_3 := Lib.hid (hs)
  clear hs
  go_wp2_with fail
  clear LB_3
  refine (near1 (LC_3.out)).mono ?_
  rintro e w4 ⟨Ac, nc, cc, lc, rfl, hs, hqc, hb4⟩
  have LC_4 := Lib.hid (LC_3.out.below hb4)
  have Sa_4 := Lib.hid (Sa_3.out.below hb4)
  have Sb_4 := Lib.hid (Sb_3.out.below hb4)
  have hbw4 := nx hbw3 hb4
  clear LC_3 Sa_3 Sb_3
  have Sc_4 := Lib.hid (hs)
  clear hs
  go_wp2_with fail
  clear LC_4
  clear hqa hqb hqc
  as_aux_lemma =>
    refine (And2 (Sa_4.out) (Sb_4.out)).mono ?_
    rintro e w5 ⟨Aab, nab, cab, lab, rfl, hs, hpab, hb5⟩
    have Sa_5 := Lib.hid (Sa_4.out.below hb5)
    have Sb_5 := Lib.hid (Sb_4.out.below hb5)
    have Sc_5 := Lib.hid (Sc_4.out.below hb5)
    have hbw5 := nx hbw4 hb5
    clear Sa_4 Sb_4 Sc_4
    have Sab_5 := Lib.hid (hs)
    clear hs
    go_wp2_with fail
    refine (And2 (Sab_5.out) (Sc_5.out)).mono ?_
    rintro e w6 ⟨Aabc, nabc, cabc, labc, rfl, hs, hpabc, hb6⟩
    have Sa_6 := Lib.hid (Sa_5.out.below hb6)
    have Sb_6 := Lib.hid (Sb_5.out.below hb6)
    have Sc_6 := Lib.hid (Sc_5.out.below hb6)
    have Sab_6 := Lib.hid (Sab_5.out.below hb6)
    have hbw6 := nx hbw5 hb6
    clear Sa_5 Sb_5 Sc_5 Sab_5
    have Sabc_6 := Lib.hid (hs)
    clear hs
    go_wp2_with fail
    refine (And3 (Sc_6.out) (Sb_6.out) (Sa_6.out)).mono ?_
    rintro e w7 ⟨Acba, ncba, ccba, lcba, rfl, hs, hpcba, hb7⟩
    have Sa_7 := Lib.hid (Sa_6.out.below hb7)
    have Sb_7 := Lib.hid (Sb_6.out.below hb7)
    have Sc_7 := Lib.hid (Sc_6.out.below hb7)
    have Sab_7 := Lib.hid (Sab_6.out.below hb7)
    have Sabc_7 := Lib.hid (Sabc_6.out.below hb7)
    have hbw7 := nx hbw6 hb7
    clear Sa_6 Sb_6 Sc_6 Sab_6 Sabc_6
    have Scba_7 := Lib.hid (hs)
    clear hs
    go_wp2_with fail
    as_aux_lemma =>
      refine (Or2 (Sb_7.out) (Sc_7.out)).mono ?_
      rintro e w8 ⟨Ao, no, co, lo, rfl, hs, hpo, hb8⟩
      have Sa_8 := Lib.hid (Sa_7.out.below hb8)
      have Sb_8 := Lib.hid (Sb_7.out.below hb8)
      have Sc_8 := Lib.hid (Sc_7.out.below hb8)
      have Sab_8 := Lib.hid (Sab_7.out.below hb8)
      have Sabc_8 := Lib.hid (Sabc_7.out.below hb8)
      have Scba_8 := Lib.hid (Scba_7.out.below hb8)
      have hbw8 := nx hbw7 hb8
      clear Sa_7 Sb_7 Sc_7 Sab_7 Sabc_7 Scba_7
      have So_8 := Lib.hid (hs)
      clear hs
      go_wp2_with fail
      refine (Or2 (Sa_8.out) (So_8.out)).mono ?_
      rintro e w9 ⟨Aabo, nabo, cabo, labo, rfl, hs, hpabo, hb9⟩
      have Sa_9 := Lib.hid (Sa_8.out.below hb9)
      have Sb_9 := Lib.hid (Sb_8.out.below hb9)
      have Sc_9 := Lib.hid (Sc_8.out.below hb9)
      have Sab_9 := Lib.hid (Sab_8.out.below hb9)
      have Sabc_9 := Lib.hid (Sabc_8.out.below hb9)
      have Scba_9 := Lib.hid (Scba_8.out.below hb9)
      have So_9 := Lib.hid (So_8.out.below hb9)
      have hbw9 := nx hbw8 hb9
      clear Sa_8 Sb_8 Sc_8 Sab_8 Sabc_8 Scba_8 So_8
      have Sabo_9 := Lib.hid (hs)
      clear hs
      go_wp2_with fail
      refine (Or3 (Sc_9.out) (Sb_9.out) (Sa_9.out)).mono ?_
      rintro e w10 ⟨Acbo, ncbo, ccbo, lcbo, rfl, hs, hpcbo, hb10⟩
      have Sa_10 := Lib.hid (Sa_9.out.below hb10)
      have Sb_10 := Lib.hid (Sb_9.out.below hb10)
      have Sc_10 := Lib.hid (Sc_9.out.below hb10)
      have Sab_10 := Lib.hid (Sab_9.out.below hb10)
      have Sabc_10 := Lib.hid (Sabc_9.out.below hb10)
      have Scba_10 := Lib.hid (Scba_9.out.below hb10)
      have So_10 := Lib.hid (So_9.out.below hb10)
      have Sabo_10 := Lib.hid (Sabo_9.out.below hb10)
      have hbw10 := nx hbw9 hb10
      clear Sa_9 Sb_9 Sc_9 Sab_9 Sabc_9 Scba_9 So_9 Sabo_9
      have Scbo_10 := Lib.hid (hs)
      clear hs
      go_wp2_with fail
      as_aux_lemma =>
        refine (But2 (Sa_10.out) (Sb_10.out)).mono ?_
        rintro e w11 ⟨Abut, nbut, cbut, lbut, rfl, hs, hpbut, hb11⟩
        have Sa_11 := Lib.hid (Sa_10.out.below hb11)
        have Sb_11 := Lib.hid (Sb_10.out.below hb11)
        have Sc_11 := Lib.hid (Sc_10.out.below hb11)
        have Sab_11 := Lib.hid (Sab_10.out.below hb11)
        have Sabc_11 := Lib.hid (Sabc_10.out.below hb11)
        have Scba_11 := Lib.hid (Scba_10.out.below hb11)
        have So_11 := Lib.hid (So_10.out.below hb11)
        have Sabo_11 := Lib.hid (Sabo_10.out.below hb11)
        have Scbo_11 := Lib.hid (Scbo_10.out.below hb11)
        have hbw11 := nx hbw10 hb11
        clear Sa_10 Sb_10 Sc_10 Sab_10 Sabc_10 Scba_10 So_10 Sabo_10 Scbo_10
        have Sbut_11 := Lib.hid (hs)
        clear hs
        go_wp2_with fail
        refine (Or2 (Sbut_11.out) (Sab_11.out)).mono ?_
        rintro e w12 ⟨Aback, nback, cback, lback, rfl, hs, hpback, hb12⟩
        have Sa_12 := Lib.hid (Sa_11.out.below hb12)
        have Sb_12 := Lib.hid (Sb_11.out.below hb12)
        have Sc_12 := Lib.hid (Sc_11.out.below hb12)
        have Sab_12 := Lib.hid (Sab_11.out.below hb12)
        have Sabc_12 := Lib.hid (Sabc_11.out.below hb12)
        have Scba_12 := Lib.hid (Scba_11.out.below hb12)
        have So_12 := Lib.hid (So_11.out.below hb12)
        have Sabo_12 := Lib.hid (Sabo_11.out.below hb12)
        have Scbo_12 := Lib.hid (Scbo_11.out.below hb12)
        have Sbut_12 := Lib.hid (Sbut_11.out.below hb12)
        have hbw12 := nx hbw11 hb12
        clear Sa_11 Sb_11 Sc_11 Sab_11 Sabc_11 Scba_11 So_11 Sabo_11 Scbo_11 Sbut_11
        have Sback_12 := Lib.hid (hs)
        clear hs
        go_wp2_with fail
        refine (Or2 (Sa_12.out) (Sb_12.out)).mono ?_
        rintro e w13 ⟨Aall, nall, call, lall, rfl, hs, hpall, hb13⟩
        have Sa_13 := Lib.hid (Sa_12.out.below hb13)
        have Sb_13 := Lib.hid (Sb_12.out.below hb13)
        have Sc_13 := Lib.hid (Sc_12.out.below hb13)
        have Sab_13 := Lib.hid (Sab_12.out.below hb13)
        have Sabc_13 := Lib.hid (Sabc_12.out.below hb13)
        have Scba_13 := Lib.hid (Scba_12.out.below hb13)
        have So_13 := Lib.hid (So_12.out.below hb13)
        have Sabo_13 := Lib.hid (Sabo_12.out.below hb13)
        have Scbo_13 := Lib.hid (Scbo_12.out.below hb13)
        have Sbut_13 := Lib.hid (Sbut_12.out.below hb13)
        have Sback_13 := Lib.hid (Sback_12.out.below hb13)
        have hbw13 := nx hbw12 hb13
        clear Sa_12 Sb_12 Sc_12 Sab_12 Sabc_12 Scba_12 So_12 Sabo_12 Scbo_12 Sbut_12 Sback_12
        have Sall_13 := Lib.hid (hs)
        clear hs
        go_wp2_with fail
        refine (But2 (Sall_13.out) (Sb_13.out)).mono ?_
        rintro e w14 ⟨Arest, nrest, crest, lrest, rfl, hs, hprest, hb14⟩
        have Sa_14 := Lib.hid (Sa_13.out.below hb14)
        have Sb_14 := Lib.hid (Sb_13.out.below hb14)
        have Sc_14 := Lib.hid (Sc_13.out.below hb14)
        have Sab_14 := Lib.hid (Sab_13.out.below hb14)
        have Sabc_14 := Lib.hid (Sabc_13.out.below hb14)
        have Scba_14 := Lib.hid (Scba_13.out.below hb14)
        have So_14 := Lib.hid (So_13.out.below hb14)
        have Sabo_14 := Lib.hid (Sabo_13.out.below hb14)
        have Scbo_14 := Lib.hid (Scbo_13.out.below hb14)
        have Sbut_14 := Lib.hid (Sbut_13.out.below hb14)
        have Sback_14 := Lib.hid (Sback_13.out.below hb14)
        have Sall_14 := Lib.hid (Sall_13.out.below hb14)
        have hbw14 := nx hbw13 hb14
        clear Sa_13 Sb_13 Sc_13 Sab_13 Sabc_13 Scba_13 So_13 Sabo_13 Scbo_13 Sbut_13 Sback_13 Sall_13
        have Srest_14 := Lib.hid (hs)
        clear hs
        go_wp2_with fail
        as_aux_lemma =>
          refine (Eq1 (Sabc_14.out) (Scba_14.out) (by intro x; rw [hpabc, hpab, hpcba]; exact pl_and)).mono ?_
          rintro e w15 ⟨rfl, hb15⟩
          have Sa_15 := Lib.hid (Sa_14.out.below hb15)
          have Sb_15 := Lib.hid (Sb_14.out.below hb15)
          have Sc_15 := Lib.hid (Sc_14.out.below hb15)
          have Sab_15 := Lib.hid (Sab_14.out.below hb15)
          have Sabc_15 := Lib.hid (Sabc_14.out.below hb15)
          have Scba_15 := Lib.hid (Scba_14.out.below hb15)
          have So_15 := Lib.hid (So_14.out.below hb15)
          have Sabo_15 := Lib.hid (Sabo_14.out.below hb15)
          have Scbo_15 := Lib.hid (Scbo_14.out.below hb15)
          have Sbut_15 := Lib.hid (Sbut_14.out.below hb15)
          have Sback_15 := Lib.hid (Sback_14.out.below hb15)
          have Sall_15 := Lib.hid (Sall_14.out.below hb15)
          have Srest_15 := Lib.hid (Srest_14.out.below hb15)
          have hbw15 := nx hbw14 hb15
          clear Sa_14 Sb_14 Sc_14 Sab_14 Sabc_14 Scba_14 So_14 Sabo_14 Scbo_14 Sbut_14 Sback_14 Sall_14 Srest_14
          go_wp2_with fail
          refine (Eq1 (Sabo_15.out) (Scbo_15.out) (by intro x; rw [hpabo, hpo, hpcbo]; exact pl_or)).mono ?_
          rintro e w16 ⟨rfl, hb16⟩
          have Sa_16 := Lib.hid (Sa_15.out.below hb16)
          have Sb_16 := Lib.hid (Sb_15.out.below hb16)
          have Sc_16 := Lib.hid (Sc_15.out.below hb16)
          have Sab_16 := Lib.hid (Sab_15.out.below hb16)
          have Sabc_16 := Lib.hid (Sabc_15.out.below hb16)
          have Scba_16 := Lib.hid (Scba_15.out.below hb16)
          have So_16 := Lib.hid (So_15.out.below hb16)
          have Sabo_16 := Lib.hid (Sabo_15.out.below hb16)
          have Scbo_16 := Lib.hid (Scbo_15.out.below hb16)
          have Sbut_16 := Lib.hid (Sbut_15.out.below hb16)
          have Sback_16 := Lib.hid (Sback_15.out.below hb16)
          have Sall_16 := Lib.hid (Sall_15.out.below hb16)
          have Srest_16 := Lib.hid (Srest_15.out.below hb16)
          have hbw16 := nx hbw15 hb16
          clear Sa_15 Sb_15 Sc_15 Sab_15 Sabc_15 Scba_15 So_15 Sabo_15 Scbo_15 Sbut_15 Sback_15 Sall_15 Srest_15
          go_wp2_with fail
          refine (Eq1 (Sback_16.out) (Sa_16.out) (by intro x; rw [hpback, hpbut, hpab]; exact pl_back)).mono ?_
          rintro e w17 ⟨rfl, hb17⟩
          have Sa_17 := Lib.hid (Sa_16.out.below hb17)
          have Sb_17 := Lib.hid (Sb_16.out.below hb17)
          have Sc_17 := Lib.hid (Sc_16.out.below hb17)
          have Sab_17 := Lib.hid (Sab_16.out.below hb17)
          have Sabc_17 := Lib.hid (Sabc_16.out.below hb17)
          have Scba_17 := Lib.hid (Scba_16.out.below hb17)
          have So_17 := Lib.hid (So_16.out.below hb17)
          have Sabo_17 := Lib.hid (Sabo_16.out.below hb17)
          have Scbo_17 := Lib.hid (Scbo_16.out.below hb17)
          have Sbut_17 := Lib.hid (Sbut_16.out.below hb17)
          have Sback_17 := Lib.hid (Sback_16.out.below hb17)
          have Sall_17 := Lib.hid (Sall_16.out.below hb17)
          have Srest_17 := Lib.hid (Srest_16.out.below hb17)
          have hbw17 := nx hbw16 hb17
          clear Sa_16 Sb_16 Sc_16 Sab_16 Sabc_16 Scba_16 So_16 Sabo_16 Scbo_16 Sbut_16 Sback_16 Sall_16 Srest_16
          go_wp2_with fail
          refine (Eq1 (Srest_17.out) (Sbut_17.out) (by intro x; rw [hprest, hpall, hpbut]; exact pl_rest)).mono ?_
          rintro e w18 ⟨rfl, hb18⟩
          have Sa_18 := Lib.hid (Sa_17.out.below hb18)
          have Sb_18 := Lib.hid (Sb_17.out.below hb18)
          have Sc_18 := Lib.hid (Sc_17.out.below hb18)
          have Sab_18 := Lib.hid (Sab_17.out.below hb18)
          have Sabc_18 := Lib.hid (Sabc_17.out.below hb18)
          have Scba_18 := Lib.hid (Scba_17.out.below hb18)
          have So_18 := Lib.hid (So_17.out.below hb18)
          have Sabo_18 := Lib.hid (Sabo_17.out.below hb18)
          have Scbo_18 := Lib.hid (Scbo_17.out.below hb18)
          have Sbut_18 := Lib.hid (Sbut_17.out.below hb18)
          have Sback_18 := Lib.hid (Sback_17.out.below hb18)
          have Sall_18 := Lib.hid (Sall_17.out.below hb18)
          have Srest_18 := Lib.hid (Srest_17.out.below hb18)
          have hbw18 := nx hbw17 hb18
          clear Sa_17 Sb_17 Sc_17 Sab_17 Sabc_17 Scba_17 So_17 Sabo_17 Scbo_17 Sbut_17 Sback_17 Sall_17 Srest_17
          go_wp2_with fail
          go_ret
          exact ⟨rfl, hbw18⟩
end Go.Proofs.Ythikhoamodcggaa
