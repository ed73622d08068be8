/- The walk of the law PostsSets. No conditions. -/
import Derived.Test.YthikhoamodcggaaPoM
set_option linter.unusedSimpArgs false
set_option linter.unusedVariables false
namespace Go.Proofs.Ythikhoamodcggaa
open Go.RowKit

set_option maxHeartbeats 32000000 in
set_option maxRecDepth 100000 in
theorem postsSets_walk (A : Option Addr) (ca : Nat) (l : List Int) (B : Option Addr) (cb : Nat) (m : List Int) (C : Option Addr) (cc : Nat) (k : List Int) (w : World) (hA : IS w A ca l) (hB : IS w B cb m) (hC : IS w C cc k) :
    Calls Try.prog 7 #[.slice A l.length ca, .slice B m.length cb, .slice C k.length cc] w fun e w' => e = .returned (.bool true) ∧ Below w.heap.size w w' := by
  go_enter Try.func7, Try.ntmps7
  have LA_0 := Lib.hid (IL.ofIS hA)
  have LB_0 := Lib.hid (IL.ofIS hB)
  have LC_0 := Lib.hid (IL.ofIS hC)
  clear hA hB hC
  go_wp2_with fail
  refine (works21_any _).mono ?_
  rintro e w1 ⟨rfl, hb1⟩
  have LA_1 := Lib.hid (LA_0.out.below hb1)
  have LB_1 := Lib.hid (LB_0.out.below hb1)
  have LC_1 := Lib.hid (LC_0.out.below hb1)
  have hbw1 := hb1
  clear LA_0 LB_0 LC_0
  go_wp2_with fail
  refine (near1 (LA_1.out)).mono ?_
  rintro e w2 ⟨Aa, na, ca, la, rfl, hs, hqa, hb2⟩
  have LA_2 := Lib.hid (LA_1.out.below hb2)
  have LB_2 := Lib.hid (LB_1.out.below hb2)
  have LC_2 := Lib.hid (LC_1.out.below hb2)
  have hbw2 := nx hbw1 hb2
  clear LA_1 LB_1 LC_1
  have Sa_2 := Lib.hid (hs)
  clear hs
  go_wp2_with fail
  clear LA_2
  refine (near1 (LB_2.out)).mono ?_
  rintro e w3 ⟨Ab, nb, cb, lb, rfl, hs, hqb, hb3⟩
  have LB_3 := Lib.hid (LB_2.out.below hb3)
  have LC_3 := Lib.hid (LC_2.out.below hb3)
  have Sa_3 := Lib.hid (Sa_2.out.below hb3)
  have hbw3 := nx hbw2 hb3
  clear LB_2 LC_2 Sa_2
  have Sb_3 := Lib.hid (hs)
  clear hs
  go_wp2_with fail
  clear LB_3
  refine (near1 (LC_3.out)).mono ?_
  rintro e w4 ⟨Ac, nc, cc, lc, rfl, hs, hqc, hb4⟩
  have LC_4 := Lib.hid (LC_3.out.below hb4)
  have Sa_4 := Lib.hid (Sa_3.out.below hb4)
  have Sb_4 := Lib.hid (Sb_3.out.below hb4)
  have hbw4 := nx hbw3 hb4
  clear LC_3 Sa_3 Sb_3
  have Sc_4 := Lib.hid (hs)
  clear hs
  go_wp2_with fail
  clear LC_4
  clear hqa hqb hqc
  as_aux_lemma =>
    refine (And3 (Sa_4.out) (Sb_4.out) (Sc_4.out)).mono ?_
    rintro e w5 ⟨Aand, nand, cand, land, rfl, hs, hpand, hb5⟩
    have Sa_5 := Lib.hid (Sa_4.out.below hb5)
    have Sb_5 := Lib.hid (Sb_4.out.below hb5)
    have Sc_5 := Lib.hid (Sc_4.out.below hb5)
    have hbw5 := nx hbw4 hb5
    clear Sa_4 Sb_4 Sc_4
    have Sand_5 := Lib.hid (hs)
    clear hs
    go_wp2_with fail
    refine (Or3 (Sa_5.out) (Sb_5.out) (Sc_5.out)).mono ?_
    rintro e w6 ⟨Aor, nor, cor, lor, rfl, hs, hpor, hb6⟩
    have Sa_6 := Lib.hid (Sa_5.out.below hb6)
    have Sb_6 := Lib.hid (Sb_5.out.below hb6)
    have Sc_6 := Lib.hid (Sc_5.out.below hb6)
    have Sand_6 := Lib.hid (Sand_5.out.below hb6)
    have hbw6 := nx hbw5 hb6
    clear Sa_5 Sb_5 Sc_5 Sand_5
    have Sor_6 := Lib.hid (hs)
    clear hs
    go_wp2_with fail
    refine (But2 (Sa_6.out) (Sb_6.out)).mono ?_
    rintro e w7 ⟨Abut, nbut, cbut, lbut, rfl, hs, hpbut, hb7⟩
    have Sa_7 := Lib.hid (Sa_6.out.below hb7)
    have Sb_7 := Lib.hid (Sb_6.out.below hb7)
    have Sc_7 := Lib.hid (Sc_6.out.below hb7)
    have Sand_7 := Lib.hid (Sand_6.out.below hb7)
    have Sor_7 := Lib.hid (Sor_6.out.below hb7)
    have hbw7 := nx hbw6 hb7
    clear Sa_6 Sb_6 Sc_6 Sand_6 Sor_6
    have Sbut_7 := Lib.hid (hs)
    clear hs
    go_wp2_with fail
    as_aux_lemma =>
      refine (Check1 (Sand_7.out)).mono ?_
      rintro e w8 ⟨rfl, hb8⟩
      have Sa_8 := Lib.hid (Sa_7.out.below hb8)
      have Sb_8 := Lib.hid (Sb_7.out.below hb8)
      have Sc_8 := Lib.hid (Sc_7.out.below hb8)
      have Sand_8 := Lib.hid (Sand_7.out.below hb8)
      have Sor_8 := Lib.hid (Sor_7.out.below hb8)
      have Sbut_8 := Lib.hid (Sbut_7.out.below hb8)
      have hbw8 := nx hbw7 hb8
      clear Sa_7 Sb_7 Sc_7 Sand_7 Sor_7 Sbut_7
      go_wp2_with fail
      refine (Check1 (Sor_8.out)).mono ?_
      rintro e w9 ⟨rfl, hb9⟩
      have Sa_9 := Lib.hid (Sa_8.out.below hb9)
      have Sb_9 := Lib.hid (Sb_8.out.below hb9)
      have Sc_9 := Lib.hid (Sc_8.out.below hb9)
      have Sand_9 := Lib.hid (Sand_8.out.below hb9)
      have Sor_9 := Lib.hid (Sor_8.out.below hb9)
      have Sbut_9 := Lib.hid (Sbut_8.out.below hb9)
      have hbw9 := nx hbw8 hb9
      clear Sa_8 Sb_8 Sc_8 Sand_8 Sor_8 Sbut_8
      go_wp2_with fail
      refine (Check1 (Sbut_9.out)).mono ?_
      rintro e w10 ⟨rfl, hb10⟩
      have Sa_10 := Lib.hid (Sa_9.out.below hb10)
      have Sb_10 := Lib.hid (Sb_9.out.below hb10)
      have Sc_10 := Lib.hid (Sc_9.out.below hb10)
      have Sand_10 := Lib.hid (Sand_9.out.below hb10)
      have Sor_10 := Lib.hid (Sor_9.out.below hb10)
      have Sbut_10 := Lib.hid (Sbut_9.out.below hb10)
      have hbw10 := nx hbw9 hb10
      clear Sa_9 Sb_9 Sc_9 Sand_9 Sor_9 Sbut_9
      go_wp2_with fail
      have HB := Lib.hid hbw10
      clear hbw1 hbw2 hbw3 hbw4 hbw5 hbw6 hbw7 hbw8 hbw9 hbw10
      go_loopw [16] (fun i wr => ∃ k : Nat, k ≤ 202 ∧ i = .int .i64 ((k : Int) - 1) ∧ Hid (ST wr Aa na ca la) ∧ Hid (ST wr Ab nb cb lb) ∧ Hid (ST wr Ac nc cc lc) ∧ Hid (ST wr Aand nand cand land) ∧ Hid (ST wr Aor nor cor lor) ∧ Hid (ST wr Abut nbut cbut lbut) ∧ Hid (Below w.heap.size w wr)) (fun i _ => 202 - (intOf i + 1).toNat)
      case atStart => exact ⟨0, Nat.zero_le _, rfl, Sa_10, Sb_10, Sc_10, Sand_10, Sor_10, Sbut_10, HB⟩
      case round =>
        clear Sa_10 Sb_10 Sc_10 Sand_10 Sor_10 Sbut_10 HB
        obtain ⟨k, hk, rfl, HSa, HSb, HSc, HSand, HSor, HSbut, HB⟩ := hrel
        by_cases hlt : k < 202
        · have hk3 : ((k : Int) - 1) ≤ 200 := by omega
          have h1 := hpand ((k : Int) - 1)
          have h2 := hpor ((k : Int) - 1)
          have h3 := hpbut ((k : Int) - 1)
          have hda : ∃ b, b = decide ((k : Int) - 1 ∈ la) := ⟨_, rfl⟩
          obtain ⟨ba, hda⟩ := hda
          have hdb : ∃ b, b = decide ((k : Int) - 1 ∈ lb) := ⟨_, rfl⟩
          obtain ⟨bb, hdb⟩ := hdb
          have hdc : ∃ b, b = decide ((k : Int) - 1 ∈ lc) := ⟨_, rfl⟩
          obtain ⟨bc, hdc⟩ := hdc
          have hdand : ∃ b, b = decide ((k : Int) - 1 ∈ land) := ⟨_, rfl⟩
          obtain ⟨band, hdand⟩ := hdand
          have hdor : ∃ b, b = decide ((k : Int) - 1 ∈ lor) := ⟨_, rfl⟩
          obtain ⟨bor, hdor⟩ := hdor
          have hdbut : ∃ b, b = decide ((k : Int) - 1 ∈ lbut) := ⟨_, rfl⟩
          obtain ⟨bbut, hdbut⟩ := hdbut
          have E1 : band = (ba && bb && bc) := by rw [hdand, hda, hdb, hdc]; simp [h1, Bool.and_assoc]
          have E2 : bor = (ba || bb || bc) := by rw [hdor, hda, hdb, hdc]; simp [h2, Bool.or_assoc]
          have E3 : bbut = (ba && !bb) := by rw [hdbut, hda, hdb]; simp [h3]
          have Ca : Hid (∀ w, ST w Aa na ca la → Calls Try.prog 29 #[.slice Aa na ca, .int .i64 ((k : Int) - 1)] w fun e w' => e = .returned (.bool ba) ∧ Below w.heap.size w w') := Lib.hid (fun w h => by rw [hda]; exact Has1 h _)
          have Cb : Hid (∀ w, ST w Ab nb cb lb → Calls Try.prog 29 #[.slice Ab nb cb, .int .i64 ((k : Int) - 1)] w fun e w' => e = .returned (.bool bb) ∧ Below w.heap.size w w') := Lib.hid (fun w h => by rw [hdb]; exact Has1 h _)
          have Cc : Hid (∀ w, ST w Ac nc cc lc → Calls Try.prog 29 #[.slice Ac nc cc, .int .i64 ((k : Int) - 1)] w fun e w' => e = .returned (.bool bc) ∧ Below w.heap.size w w') := Lib.hid (fun w h => by rw [hdc]; exact Has1 h _)
          have Cand : Hid (∀ w, ST w Aand nand cand land → Calls Try.prog 29 #[.slice Aand nand cand, .int .i64 ((k : Int) - 1)] w fun e w' => e = .returned (.bool band) ∧ Below w.heap.size w w') := Lib.hid (fun w h => by rw [hdand]; exact Has1 h _)
          have Cor : Hid (∀ w, ST w Aor nor cor lor → Calls Try.prog 29 #[.slice Aor nor cor, .int .i64 ((k : Int) - 1)] w fun e w' => e = .returned (.bool bor) ∧ Below w.heap.size w w') := Lib.hid (fun w h => by rw [hdor]; exact Has1 h _)
          have Cbut : Hid (∀ w, ST w Abut nbut cbut lbut → Calls Try.prog 29 #[.slice Abut nbut cbut, .int .i64 ((k : Int) - 1)] w fun e w' => e = .returned (.bool bbut) ∧ Below w.heap.size w w') := Lib.hid (fun w h => by rw [hdbut]; exact Has1 h _)
          clear h1 h2 h3 hda hdb hdc hdand hdor hdbut
          subst E1 E2 E3
          go_wp2_with fail
          refine (Ca.out _ (HSa.out)).mono ?_
          rintro e w101 ⟨rfl, hb101⟩
          have Sa_101 := Lib.hid (HSa.out.below hb101)
          have Sb_101 := Lib.hid (HSb.out.below hb101)
          have Sc_101 := Lib.hid (HSc.out.below hb101)
          have Sand_101 := Lib.hid (HSand.out.below hb101)
          have Sor_101 := Lib.hid (HSor.out.below hb101)
          have Sbut_101 := Lib.hid (HSbut.out.below hb101)
          have B_101 := Lib.hid (nx HB.out hb101)
          have hbw101 := hb101
          clear HSa HSb HSc HSand HSor HSbut HB
          go_wp2_with fail
          refine (Cb.out _ (Sb_101.out)).mono ?_
          rintro e w102 ⟨rfl, hb102⟩
          have Sa_102 := Lib.hid (Sa_101.out.below hb102)
          have Sb_102 := Lib.hid (Sb_101.out.below hb102)
          have Sc_102 := Lib.hid (Sc_101.out.below hb102)
          have Sand_102 := Lib.hid (Sand_101.out.below hb102)
          have Sor_102 := Lib.hid (Sor_101.out.below hb102)
          have Sbut_102 := Lib.hid (Sbut_101.out.below hb102)
          have B_102 := Lib.hid (nx B_101.out hb102)
          have hbw102 := nx hbw101 hb102
          clear Sa_101 Sb_101 Sc_101 Sand_101 Sor_101 Sbut_101 B_101
          go_wp2_with fail
          refine (Cc.out _ (Sc_102.out)).mono ?_
          rintro e w103 ⟨rfl, hb103⟩
          have Sa_103 := Lib.hid (Sa_102.out.below hb103)
          have Sb_103 := Lib.hid (Sb_102.out.below hb103)
          have Sc_103 := Lib.hid (Sc_102.out.below hb103)
          have Sand_103 := Lib.hid (Sand_102.out.below hb103)
          have Sor_103 := Lib.hid (Sor_102.out.below hb103)
          have Sbut_103 := Lib.hid (Sbut_102.out.below hb103)
          have B_103 := Lib.hid (nx B_102.out hb103)
          have hbw103 := nx hbw102 hb103
          clear Sa_102 Sb_102 Sc_102 Sand_102 Sor_102 Sbut_102 B_102
          go_wp2_with fail
          cases ba <;> cases bb <;> cases bc
          all_goals
            simp only [Bool.and_true, Bool.and_false, Bool.or_true, Bool.or_false, Bool.false_and, Bool.true_and, Bool.true_or, Bool.false_or, Bool.not_true, Bool.not_false, Bool.and_self, Bool.or_self] at Cand Cor Cbut
            go_wp2_with fail
            refine (Cand.out _ (Sand_103.out)).mono ?_
            rintro e w104 ⟨rfl, hb104⟩
            have Sa_104 := Lib.hid (Sa_103.out.below hb104)
            have Sb_104 := Lib.hid (Sb_103.out.below hb104)
            have Sc_104 := Lib.hid (Sc_103.out.below hb104)
            have Sand_104 := Lib.hid (Sand_103.out.below hb104)
            have Sor_104 := Lib.hid (Sor_103.out.below hb104)
            have Sbut_104 := Lib.hid (Sbut_103.out.below hb104)
            have B_104 := Lib.hid (nx B_103.out hb104)
            have hbw104 := nx hbw103 hb104
            clear Sa_103 Sb_103 Sc_103 Sand_103 Sor_103 Sbut_103 B_103
            go_wp2_with fail
            refine (Cor.out _ (Sor_104.out)).mono ?_
            rintro e w105 ⟨rfl, hb105⟩
            have Sa_105 := Lib.hid (Sa_104.out.below hb105)
            have Sb_105 := Lib.hid (Sb_104.out.below hb105)
            have Sc_105 := Lib.hid (Sc_104.out.below hb105)
            have Sand_105 := Lib.hid (Sand_104.out.below hb105)
            have Sor_105 := Lib.hid (Sor_104.out.below hb105)
            have Sbut_105 := Lib.hid (Sbut_104.out.below hb105)
            have B_105 := Lib.hid (nx B_104.out hb105)
            have hbw105 := nx hbw104 hb105
            clear Sa_104 Sb_104 Sc_104 Sand_104 Sor_104 Sbut_104 B_104
            go_wp2_with fail
            refine (Cbut.out _ (Sbut_105.out)).mono ?_
            rintro e w106 ⟨rfl, hb106⟩
            have Sa_106 := Lib.hid (Sa_105.out.below hb106)
            have Sb_106 := Lib.hid (Sb_105.out.below hb106)
            have Sc_106 := Lib.hid (Sc_105.out.below hb106)
            have Sand_106 := Lib.hid (Sand_105.out.below hb106)
            have Sor_106 := Lib.hid (Sor_105.out.below hb106)
            have Sbut_106 := Lib.hid (Sbut_105.out.below hb106)
            have B_106 := Lib.hid (nx B_105.out hb106)
            have hbw106 := nx hbw105 hb106
            clear Sa_105 Sb_105 Sc_105 Sand_105 Sor_105 Sbut_105 B_105
            go_wp2_with fail
            exact ⟨⟨k + 1, by omega, by go_num, Sa_106, Sb_106, Sc_106, Sand_106, Sor_106, Sbut_106, B_106⟩, by simp [intOf]; omega⟩
        · obtain rfl : k = 202 := by omega
          go_wp2_with fail
          go_ret
          exact ⟨rfl, HB.out⟩
end Go.Proofs.Ythikhoamodcggaa
