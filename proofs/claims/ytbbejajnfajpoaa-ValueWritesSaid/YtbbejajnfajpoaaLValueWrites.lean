/- The walk of the law ValueWrites. No conditions. -/
import Derived.Test.YtbbejajnfajpoaaVW
import Derived.Test.YtbbejajnfajpoaaRCmp
import Derived.Test.YtbbejajnfajpoaaRAttrs
import Derived.Test.YtbbejajnfajpoaaAtP
import Derived.Test.YtbbejajnfajpoaaRowA
import Derived.Test.YtbbejajnfajpoaaRowV
set_option linter.unusedSimpArgs false
set_option linter.unusedVariables false
namespace Go.Proofs.Ytbbejajnfajpoaa
open Go.RowKit

theorem vw_keep {W a : World} {g1 g2 : Nat} {x y : Val} (h1 : BV W g1 x) (h2 : BV W g2 y) (hb : Below W.heap.size W a) :
    Below W.heap.size W a ∧ a.cell? ⟨g1, 0, none⟩ = some (.int .i64 x.k) ∧ a.cell? ⟨g1, 1, none⟩ = some (.int .i64 x.n) ∧ a.cell? ⟨g1, 2, none⟩ = some (.string x.b) ∧
      a.cell? ⟨g2, 0, none⟩ = some (.int .i64 y.k) ∧ a.cell? ⟨g2, 1, none⟩ = some (.int .i64 y.n) ∧ a.cell? ⟨g2, 2, none⟩ = some (.string y.b) := by
  have e1 := (h1.below hb).cells
  have e2 := (h2.below hb).cells
  exact ⟨hb, e1.1, e1.2.1, e1.2.2, e2.1, e2.2.1, e2.2.2⟩
theorem at_keep {W wr a : World} {A : Option Addr} {n c : Nat} {l : List Att} (h : AS W A n c l) (hw : Below W.heap.size W wr) {k g o : Nat} (hk : k < l.length) (hA : A = some ⟨g, o, none⟩) (hb : Below wr.heap.size wr a) :
    Below wr.heap.size wr a ∧ a.cell? ⟨g, o + k * 6, none⟩ = some (.string l[k].name) ∧ a.cell? ⟨g, o + k * 6 + 1, none⟩ = some (.int .i64 l[k].lab.l) ∧ a.cell? ⟨g, o + k * 6 + 2, none⟩ = some (.int .u32 (l[k].lab.p : Int)) ∧
      a.cell? ⟨g, o + k * 6 + 3, none⟩ = some (.int .i64 l[k].val.k) ∧ a.cell? ⟨g, o + k * 6 + 4, none⟩ = some (.int .i64 l[k].val.n) ∧ a.cell? ⟨g, o + k * 6 + 5, none⟩ = some (.string l[k].val.b) := by
  obtain ⟨g', o', e, hc⟩ := h.cellsAt (nx hw hb) hk
  rw [hA] at e
  cases e
  exact ⟨hb, hc 0 _ rfl, hc 1 _ rfl, hc 2 _ rfl, hc 3 _ rfl, hc 4 _ rfl, hc 5 _ rfl⟩

set_option maxHeartbeats 16000000 in
set_option maxRecDepth 100000 in
theorem valueWrites_walk (y z : Val) (A : Option Addr) (c : Nat) (l : List Att) (w : World) (hy : I64 y.k ∧ I64 y.n) (hz : I64 z.k ∧ I64 z.n) (hA : AS w A l.length c l) (hok : ∀ x ∈ l, AttOk x) :
    Calls Try.prog 14 #[y.v, z.v, .slice A l.length c] w fun e w' => e = .returned (.bool true) ∧ Below w.heap.size w w' := by
  clear hy hz hok
  have HL := Lib.hid hA
  have hlim := hA.lim
  have hle := hA.le
  have HPT := Lib.hid hA.pt
  have C1 := Lib.hid (bytesV_any y)
  have C2 := Lib.hid (refBytesV_any y)
  have K1 := Lib.hid (check_any y)
  have K2 := Lib.hid (refCheck_any y)
  have K3 := Lib.hid (compareV_any y z)
  have K4 := Lib.hid (refCompareV_any y z)
  have hvb := vb_ok y
  have hat := atP_ok hA.pt
  have D1 := Lib.hid (fun (w : World) (A : Option Addr) (n c : Nat) (h : AS w A n c l) => attrs_any h)
  have D2 := Lib.hid (fun (w : World) (A : Option Addr) (n c : Nat) (h : AS w A n c l) => refAttrs_any h)
  clear hA
  generalize vb y = X at *
  generalize chkV y = ck at *
  generalize cmpV y z = cm at *
  generalize atP l = Y at *
  obtain ⟨bl, be⟩ := X
  obtain ⟨al, ae⟩ := Y
  simp only at hvb hat
  have HVB := Lib.hid hvb
  have HAT := Lib.hid hat
  clear hvb hat
  obtain ⟨yk, yn, yb⟩ := y
  obtain ⟨zk, zn, zb⟩ := z
  unfold Val.v at *
  simp only at C1 C2 D1 D2
  obtain ⟨W0, hW0⟩ : ∃ W0, W0 = (w.alloc (.cells #[.int .i64 yk, .int .i64 yn, .string yb] 58)).alloc (.cells #[.int .i64 zk, .int .i64 zn, .string zb] 58) := ⟨_, rfl⟩
  have hb0 : Below w.heap.size w W0 := by rw [hW0]; exact ((bel0 w).alloc (Nat.le_refl _) _).alloc ((bel0 w).alloc (Nat.le_refl _) _).size _
  have X0 := Lib.hid (show BV W0 w.heap.size ⟨yk, yn, yb⟩ by rw [hW0]; exact (BV.new w ⟨yk, yn, yb⟩).below ((bel0 _).alloc (Nat.le_refl _) _))
  have Z0 := Lib.hid (show BV W0 (w.heap.size + 1) ⟨zk, zn, zb⟩ by
    rw [hW0]
    have := BV.new (w.alloc (.cells #[.int .i64 yk, .int .i64 yn, .string yb] 58)) ⟨zk, zn, zb⟩
    simpa using this)
  obtain ⟨bn, hbn⟩ : ∃ n, n = l.length := ⟨_, rfl⟩
  have HN := Lib.hid hbn
  have HLn := Lib.hid (show AS w A bn c l by rw [hbn]; exact HL.out)
  rw [← hbn] at hlim hle ⊢
  clear hbn HL
  go_enter Try.func14, Try.ntmps14
  go_wp2_with (at_builtin; rw [← hW0]; refine append_atts rfl (.const (.slice none 0 0)) (.tmp 17) rfl w.heap.size rfl A bn c l rfl (HLn.out.below hb0) hb0.size ?_; intro v1 w1 ho1 hg1; have hb1 := nx hb0 (bel_none hg1); have O1 := Lib.hid ho1; have X1 := Lib.hid (X0.out.below (bel_none hg1)); have Z1 := Lib.hid (Z0.out.below (bel_none hg1)); clear ho1 hg1 hb0 X0 Z0 hW0; obtain ⟨A1, n1, c1, e1, S1⟩ := own_asL O1.out HPT.out (by rw [← HN.out]; exact hlim); subst e1; have S1 := Lib.hid S1; clear O1; obtain ⟨x0, x1, x2⟩ := X1.out.cells; simp only at x0 x1 x2)
  refine (C1.out _).mono ?_
  intro r hw hh
  obtain ⟨AP, nP, cP, rfl, hB, hbn⟩ := hh.open HVB.out.1 (by have := HVB.out.2; omega)
  clear hh
  have hb2 := nx hb1 hbn
  have X2 := Lib.hid (X1.out.below hbn)
  have Z2 := Lib.hid (Z1.out.below hbn)
  have S2 := Lib.hid (S1.out.below hbn)
  have P2 := Lib.hid hB
  clear X1 Z1 S1 x0 x1 x2
  obtain ⟨x0, x1, x2⟩ := X2.out.cells
  simp only at x0 x1 x2
  clear hB hbn
  go_wp2_with fail
  refine (C2.out _).mono ?_
  intro r hw hh
  obtain ⟨AQ, nQ, cQ, rfl, hB, hbn⟩ := hh.open HVB.out.1 (by have := HVB.out.2; omega)
  clear hh
  have hb3 := nx hb2 hbn
  have X3 := Lib.hid (X2.out.below hbn)
  have Z3 := Lib.hid (Z2.out.below hbn)
  have S3 := Lib.hid (S2.out.below hbn)
  have P3 := Lib.hid (P2.out.below hbn)
  have Q3 := Lib.hid hB
  clear X2 Z2 S2 P2 x0 x1 x2
  obtain ⟨x0, x1, x2⟩ := X3.out.cells
  simp only at x0 x1 x2
  clear hB hbn
  go_wp2_with fail
  refine (D1.out _ _ _ _ S3.out).mono ?_
  intro r hw hh
  obtain ⟨AR, nR, cR, rfl, hB, hbn⟩ := hh.open HAT.out.1 (by have := HAT.out.2; omega)
  clear hh
  have hb4 := nx hb3 hbn
  have X4 := Lib.hid (X3.out.below hbn)
  have Z4 := Lib.hid (Z3.out.below hbn)
  have S4 := Lib.hid (S3.out.below hbn)
  have P4 := Lib.hid (P3.out.below hbn)
  have Q4 := Lib.hid (Q3.out.below hbn)
  have R4 := Lib.hid hB
  clear X3 Z3 S3 P3 Q3 x0 x1 x2
  obtain ⟨x0, x1, x2⟩ := X4.out.cells
  simp only at x0 x1 x2
  clear hB hbn
  go_wp2_with fail
  refine (D2.out _ _ _ _ (HLn.out.below hb4)).mono ?_
  intro r hw hh
  obtain ⟨AT, nT, cT, rfl, hB, hbn⟩ := hh.open HAT.out.1 (by have := HAT.out.2; omega)
  clear hh
  have hb5 := nx hb4 hbn
  have X5 := Lib.hid (X4.out.below hbn)
  have Z5 := Lib.hid (Z4.out.below hbn)
  have S5 := Lib.hid (S4.out.below hbn)
  have P5 := Lib.hid (P4.out.below hbn)
  have Q5 := Lib.hid (Q4.out.below hbn)
  have R5 := Lib.hid (R4.out.below hbn)
  have T5 := Lib.hid hB
  clear X4 Z4 S4 P4 Q4 R4 x0 x1 x2
  obtain ⟨x0, x1, x2⟩ := X5.out.cells
  simp only at x0 x1 x2
  clear hB hbn
  go_wp2_with fail
  have KEEP := Lib.hid (fun (a : World) (h : Below hw.heap.size hw a) => show BV a w.heap.size ⟨yk, yn, yb⟩ ∧ BV a (w.heap.size + 1) ⟨zk, zn, zb⟩ ∧ AS a A1 n1 c1 l ∧ BS a AP nP cP bl ∧ BS a AQ nQ cQ bl ∧ BS a AR nR cR al ∧ BS a AT nT cT al from ⟨X5.out.below h, Z5.out.below h, S5.out.below h, P5.out.below h, Q5.out.below h, R5.out.below h, T5.out.below h⟩)
  have HB5 := Lib.hid hb5
  have hb6 := bel0 hw
  clear X5 Z5 S5 P5 Q5 R5 T5 x0 x1 x2 hb1 hb2 hb3 hb4 hb5
  go_loopw [16] (fun i wr => ∃ k : Nat, k ≤ bn ∧ i = .int .i64 k ∧ Below hw.heap.size hw wr) (fun i _ => bn - (intOf i).toNat)
  case atStart => exact ⟨0, Nat.zero_le _, rfl, hb6⟩
  case round =>
    clear hb6
    obtain ⟨k, hk, rfl, hbw⟩ := hrel
    have hb := nx HB5.out hbw
    by_cases hlt : k < bn
    · have hlt' : k < l.length := by rw [← HN.out]; exact hlt
      obtain ⟨g, o, hA, _⟩ := HLn.out.cellsAt hb hlt'
      have AK := Lib.hid (fun a h => at_keep (a := a) HLn.out hb hlt' hA h)
      have Q1 := Lib.hid (checkAttr_any l[k])
      have Q2 := Lib.hid (refCheckAttr_any l[k])
      subst hA
      have haa : (⟨g, o, none⟩ : Addr).add (k * 6) = ⟨g, o + k * 6, none⟩ := addr_add _ _ _
      have hk0 : (0 : Int) ≤ (k : Int) := by omega
      have hk1 : (k : Int) < (bn : Int) := by omega
      generalize l[k] = at0 at *
      generalize chkA at0 = ca at *
      obtain ⟨nm, ⟨ll, lp⟩, ⟨vk, vn, vbb⟩⟩ := at0
      unfold Att.v Att.cells at Q1 Q2
      simp only at AK Q1 Q2
      clear hlt'
      go_wp2_with fail
      refine wp_region_held_drew (S := (fun w' => Below wr.heap.size wr w' ∧ w'.cell? ⟨g, o + k * 6, none⟩ = some (.string nm) ∧ w'.cell? ⟨g, o + k * 6 + 1, none⟩ = some (.int .i64 ll) ∧ w'.cell? ⟨g, o + k * 6 + 2, none⟩ = some (.int .u32 (lp : Int)) ∧ w'.cell? ⟨g, o + k * 6 + 3, none⟩ = some (.int .i64 vk) ∧ w'.cell? ⟨g, o + k * 6 + 4, none⟩ = some (.int .i64 vn) ∧ w'.cell? ⟨g, o + k * 6 + 5, none⟩ = some (.string vbb))) (by kernel_rfl) (AK.out _ (bel0 _).drew) (fun hHeld => ?_)
      refine' take_val (i := 0) (d := 45) (v := _) rfl rfl (by kernel_rfl) (by kernel_rfl) (by kernel_rfl) (fun _ _ _ h => h) (by rfl) ?_ (by assumption) ?_
      rotate_left
      · (intro w hSw; (try dsimp only at hSw); go_simp; (try with_reducible rfl))
      (try simp only [Act.put, List.setIfInBounds_toArray, List.set_cons_zero, List.set_cons_succ])
      refine' take_val (i := 1) (d := 46) (v := _) rfl rfl (by kernel_rfl) (by kernel_rfl) (by kernel_rfl) (fun _ _ _ h => h) (by rfl) ?_ (by assumption) ?_
      rotate_left
      · (intro w hSw; (try dsimp only at hSw); go_simp; (try with_reducible rfl))
      (try simp only [Act.put, List.setIfInBounds_toArray, List.set_cons_zero, List.set_cons_succ])
      refine' take_val (i := 2) (d := 47) (v := _) rfl rfl (by kernel_rfl) (by kernel_rfl) (by kernel_rfl) (fun _ _ _ h => h) (by rfl) ?_ (by assumption) ?_
      rotate_left
      · (intro w hSw; (try dsimp only at hSw); go_simp; (try with_reducible rfl))
      (try simp only [Act.put, List.setIfInBounds_toArray, List.set_cons_zero, List.set_cons_succ])
      refine' take_val (i := 3) (d := 48) (v := _) rfl rfl (by kernel_rfl) (by kernel_rfl) (by kernel_rfl) (fun _ _ _ h => h) (by rfl) ?_ (by assumption) ?_
      rotate_left
      · (intro w hSw; (try dsimp only at hSw); go_simp; (try with_reducible rfl))
      (try simp only [Act.put, List.setIfInBounds_toArray, List.set_cons_zero, List.set_cons_succ])
      refine' take_val (i := 5) (d := 50) (v := _) rfl rfl (by kernel_rfl) (by kernel_rfl) (by kernel_rfl) (fun _ _ _ h => h) (by rfl) ?_ (by assumption) ?_
      rotate_left
      · (intro w hSw; (try dsimp only at hSw); go_simp; (try with_reducible rfl))
      (try simp only [Act.put, List.setIfInBounds_toArray, List.set_cons_zero, List.set_cons_succ])
      refine' take_val (i := 6) (d := 51) (v := _) rfl rfl (by kernel_rfl) (by kernel_rfl) (by kernel_rfl) (fun _ _ _ h => h) (by rfl) ?_ (by assumption) ?_
      rotate_left
      · (intro w hSw; (try dsimp only at hSw); go_simp; (try with_reducible rfl))
      (try simp only [Act.put, List.setIfInBounds_toArray, List.set_cons_zero, List.set_cons_succ])
      refine' take_val (i := 7) (d := 52) (v := _) rfl rfl (by kernel_rfl) (by kernel_rfl) (by kernel_rfl) (fun _ _ _ h => h) (by rfl) ?_ (by assumption) ?_
      rotate_left
      · (intro w hSw; (try dsimp only at hSw); go_simp; (try with_reducible rfl))
      (try simp only [Act.put, List.setIfInBounds_toArray, List.set_cons_zero, List.set_cons_succ])
      refine' take_val (i := 8) (d := 53) (v := _) rfl rfl (by kernel_rfl) (by kernel_rfl) (by kernel_rfl) (fun _ _ _ h => h) (by rfl) ?_ (by assumption) ?_
      rotate_left
      · (intro w hSw; (try dsimp only at hSw); go_simp; (try with_reducible rfl))
      (try simp only [Act.put, List.setIfInBounds_toArray, List.set_cons_zero, List.set_cons_succ])
      refine wpAnyH_ready (rs := [4]) (by kernel_rfl) (by simp) ?_
      refine AllReadyH.cons rfl (fun K hK => ?_) AllReadyH.nil
      go_simp
      go_at_call 55
      refine (Q1.out _).mono ?_
      rintro r wb ⟨rfl, hbb⟩
      go_wp2_with fail
      refine hK.out _ _ (AK.out _ (nx (And.left (b := _) hHeld) hbb)) (fun hHeld => ?_)
      clear hK K
      (try simp only [Act.put, List.setIfInBounds_toArray, List.set_cons_zero, List.set_cons_succ])
      refine wpAnyH_ready (rs := [9]) (by kernel_rfl) (by simp) ?_
      refine AllReadyH.cons rfl (fun K hK => ?_) AllReadyH.nil
      go_simp
      go_at_call 56
      refine (Q2.out _).mono ?_
      rintro r wb ⟨rfl, hbb⟩
      go_wp2_with fail
      refine hK.out _ _ (AK.out _ (nx (And.left (b := _) hHeld) hbb)) (fun hHeld => ?_)
      clear hK K
      (try simp only [Act.put, List.setIfInBounds_toArray, List.set_cons_zero, List.set_cons_succ])
      refine' take_val (i := 10) (d := 55) (v := _) rfl rfl (by kernel_rfl) (by kernel_rfl) (by kernel_rfl) (fun _ _ _ h => h) (by rfl) ?_ (by assumption) ?_
      rotate_left
      · (intro w hSw; (try dsimp only at hSw); go_simp; (try with_reducible rfl))
      (try simp only [Act.put, List.setIfInBounds_toArray, List.set_cons_zero, List.set_cons_succ])
      refine wpAnyH_done (by kernel_rfl) ?_ _
      go_wp2_with fail
      refine ⟨⟨k + 1, by omega, by go_num, nx hbw (And.left (b := _) hHeld)⟩, by simp [intOf]; omega⟩
    · obtain rfl : k = bn := by omega
      obtain ⟨X6, Z6, S6, P6, Q6, R6, T6⟩ := KEEP.out wr hbw
      have VK := Lib.hid (fun a h => vw_keep (a := a) X6 Z6 h)
      simp only at VK
      have S6 := Lib.hid S6
      have P6 := Lib.hid P6
      have Q6 := Lib.hid Q6
      have R6 := Lib.hid R6
      have T6 := Lib.hid T6
      clear X6 Z6
      go_wp2_with fail
      refine wp_region_held_drew (S := (fun w' => Below wr.heap.size wr w' ∧ w'.cell? ⟨w.heap.size, 0, none⟩ = some (.int .i64 yk) ∧ w'.cell? ⟨w.heap.size, 1, none⟩ = some (.int .i64 yn) ∧ w'.cell? ⟨w.heap.size, 2, none⟩ = some (.string yb) ∧ w'.cell? ⟨w.heap.size + 1, 0, none⟩ = some (.int .i64 zk) ∧ w'.cell? ⟨w.heap.size + 1, 1, none⟩ = some (.int .i64 zn) ∧ w'.cell? ⟨w.heap.size + 1, 2, none⟩ = some (.string zb))) (by kernel_rfl) (VK.out _ (bel0 _).drew) (fun hHeld => ?_)
      refine' take_val (i := 0) (d := 56) (v := _) rfl rfl (by kernel_rfl) (by kernel_rfl) (by kernel_rfl) (fun _ _ _ h => h) (by rfl) ?_ (by assumption) ?_
      rotate_left
      · (intro w hSw; (try dsimp only at hSw); go_simp; (try with_reducible rfl))
      (try simp only [Act.put, List.setIfInBounds_toArray, List.set_cons_zero, List.set_cons_succ])
      refine' take_val (i := 2) (d := 58) (v := _) rfl rfl (by kernel_rfl) (by kernel_rfl) (by kernel_rfl) (fun _ _ _ h => h) (by rfl) ?_ (by assumption) ?_
      rotate_left
      · (intro w hSw; (try dsimp only at hSw); go_simp; (try with_reducible rfl))
      (try simp only [Act.put, List.setIfInBounds_toArray, List.set_cons_zero, List.set_cons_succ])
      refine wpAnyH_ready (rs := [1]) (by kernel_rfl) (by simp) ?_
      refine AllReadyH.cons rfl (fun K hK => ?_) AllReadyH.nil
      go_simp
      go_at_call 52
      refine (K1.out _).mono ?_
      rintro r wb ⟨rfl, hbb⟩
      go_wp2_with fail
      refine hK.out _ _ (VK.out _ (nx (And.left (b := _) hHeld) hbb)) (fun hHeld => ?_)
      clear hK K
      (try simp only [Act.put, List.setIfInBounds_toArray, List.set_cons_zero, List.set_cons_succ])
      refine wpAnyH_ready (rs := [3]) (by kernel_rfl) (by simp) ?_
      refine AllReadyH.cons rfl (fun K hK => ?_) AllReadyH.nil
      go_simp
      go_at_call 57
      refine (K2.out _).mono ?_
      rintro r wb ⟨rfl, hbb⟩
      go_wp2_with fail
      refine hK.out _ _ (VK.out _ (nx (And.left (b := _) hHeld) hbb)) (fun hHeld => ?_)
      clear hK K
      (try simp only [Act.put, List.setIfInBounds_toArray, List.set_cons_zero, List.set_cons_succ])
      refine' take_val (i := 4) (d := 60) (v := _) rfl rfl (by kernel_rfl) (by kernel_rfl) (by kernel_rfl) (fun _ _ _ h => h) (by rfl) ?_ (by assumption) ?_
      rotate_left
      · (intro w hSw; (try dsimp only at hSw); go_simp; (try with_reducible rfl))
      (try simp only [Act.put, List.setIfInBounds_toArray, List.set_cons_zero, List.set_cons_succ])
      refine' take_val (i := 5) (d := 61) (v := _) rfl rfl (by kernel_rfl) (by kernel_rfl) (by kernel_rfl) (fun _ _ _ h => h) (by rfl) ?_ (by assumption) ?_
      rotate_left
      · (intro w hSw; (try dsimp only at hSw); go_simp; (try with_reducible rfl))
      (try simp only [Act.put, List.setIfInBounds_toArray, List.set_cons_zero, List.set_cons_succ])
      refine' take_val (i := 6) (d := 62) (v := _) rfl rfl (by kernel_rfl) (by kernel_rfl) (by kernel_rfl) (fun _ _ _ h => h) (by rfl) ?_ (by assumption) ?_
      rotate_left
      · (intro w hSw; (try dsimp only at hSw); go_simp; (try with_reducible rfl))
      (try simp only [Act.put, List.setIfInBounds_toArray, List.set_cons_zero, List.set_cons_succ])
      refine' take_val (i := 7) (d := 63) (v := _) rfl rfl (by kernel_rfl) (by kernel_rfl) (by kernel_rfl) (fun _ _ _ h => h) (by rfl) ?_ (by assumption) ?_
      rotate_left
      · (intro w hSw; (try dsimp only at hSw); go_simp; (try with_reducible rfl))
      (try simp only [Act.put, List.setIfInBounds_toArray, List.set_cons_zero, List.set_cons_succ])
      refine' take_val (i := 9) (d := 65) (v := _) rfl rfl (by kernel_rfl) (by kernel_rfl) (by kernel_rfl) (fun _ _ _ h => h) (by rfl) ?_ (by assumption) ?_
      rotate_left
      · (intro w hSw; (try dsimp only at hSw); go_simp; (try with_reducible rfl))
      (try simp only [Act.put, List.setIfInBounds_toArray, List.set_cons_zero, List.set_cons_succ])
      refine' take_val (i := 10) (d := 66) (v := _) rfl rfl (by kernel_rfl) (by kernel_rfl) (by kernel_rfl) (fun _ _ _ h => h) (by rfl) ?_ (by assumption) ?_
      rotate_left
      · (intro w hSw; (try dsimp only at hSw); go_simp; (try with_reducible rfl))
      (try simp only [Act.put, List.setIfInBounds_toArray, List.set_cons_zero, List.set_cons_succ])
      refine wpAnyH_ready (rs := [8]) (by kernel_rfl) (by simp) ?_
      refine AllReadyH.cons rfl (fun K hK => ?_) AllReadyH.nil
      go_simp
      go_at_call 58
      refine (K3.out _).mono ?_
      rintro r wb ⟨rfl, hbb⟩
      go_wp2_with fail
      refine hK.out _ _ (VK.out _ (nx (And.left (b := _) hHeld) hbb)) (fun hHeld => ?_)
      clear hK K
      (try simp only [Act.put, List.setIfInBounds_toArray, List.set_cons_zero, List.set_cons_succ])
      refine wpAnyH_ready (rs := [11]) (by kernel_rfl) (by simp) ?_
      refine AllReadyH.cons rfl (fun K hK => ?_) AllReadyH.nil
      go_simp
      go_at_call 59
      refine (K4.out _).mono ?_
      rintro r wb ⟨rfl, hbb⟩
      go_wp2_with fail
      refine hK.out _ _ (VK.out _ (nx (And.left (b := _) hHeld) hbb)) (fun hHeld => ?_)
      clear hK K
      (try simp only [Act.put, List.setIfInBounds_toArray, List.set_cons_zero, List.set_cons_succ])
      refine' take_val (i := 12) (d := 68) (v := _) rfl rfl (by kernel_rfl) (by kernel_rfl) (by kernel_rfl) (fun _ _ _ h => h) (by rfl) ?_ (by assumption) ?_
      rotate_left
      · (intro w hSw; (try dsimp only at hSw); go_simp; (try with_reducible rfl))
      (try simp only [Act.put, List.setIfInBounds_toArray, List.set_cons_zero, List.set_cons_succ])
      refine' take_val (i := 13) (d := 69) (v := _) rfl rfl (by kernel_rfl) (by kernel_rfl) (by kernel_rfl) (fun _ _ _ h => h) (by rfl) ?_ (by assumption) ?_
      rotate_left
      · (intro w hSw; (try dsimp only at hSw); go_simp; (try with_reducible rfl))
      (try simp only [Act.put, List.setIfInBounds_toArray, List.set_cons_zero, List.set_cons_succ])
      refine' take_val (i := 14) (d := 70) (v := _) rfl rfl (by kernel_rfl) (by kernel_rfl) (by kernel_rfl) (fun _ _ _ h => h) (by rfl) ?_ (by assumption) ?_
      rotate_left
      · (intro w hSw; (try dsimp only at hSw); go_simp; (try with_reducible rfl))
      (try simp only [Act.put, List.setIfInBounds_toArray, List.set_cons_zero, List.set_cons_succ])
      refine' take_val (i := 15) (d := 71) (v := _) rfl rfl (by kernel_rfl) (by kernel_rfl) (by kernel_rfl) (fun _ _ _ h => h) (by rfl) ?_ (by assumption) ?_
      rotate_left
      · (intro w hSw; (try dsimp only at hSw); go_simp; (try with_reducible rfl))
      (try simp only [Act.put, List.setIfInBounds_toArray, List.set_cons_zero, List.set_cons_succ])
      refine' take_val (i := 16) (d := 72) (v := _) rfl rfl (by kernel_rfl) (by kernel_rfl) (by kernel_rfl) (fun _ _ _ h => h) (by rfl) ?_ (by assumption) ?_
      rotate_left
      · (intro w hSw; (try dsimp only at hSw); go_simp; (try with_reducible rfl))
      (try simp only [Act.put, List.setIfInBounds_toArray, List.set_cons_zero, List.set_cons_succ])
      refine wpAnyH_ready (rs := [17]) (by kernel_rfl) (by simp) ?_
      refine AllReadyH.cons rfl (fun K hK => ?_) AllReadyH.nil
      go_simp
      go_at_call 29
      refine (eqBytes_any AP AQ nP cP nQ cQ bl bl _ (P6.out.below (And.left (b := _) hHeld)) (Q6.out.below (And.left (b := _) hHeld))).mono ?_
      rintro r wb ⟨rfl, hbb⟩
      (try rw [show decide (bl = bl) = true from decide_eq_true rfl])
      go_wp2_with fail
      refine hK.out _ _ (VK.out _ (nx (And.left (b := _) hHeld) hbb)) (fun hHeld => ?_)
      clear hK K
      (try simp only [Act.put, List.setIfInBounds_toArray, List.set_cons_zero, List.set_cons_succ])
      refine' take_val (i := 18) (d := 74) (v := _) rfl rfl (by kernel_rfl) (by kernel_rfl) (by kernel_rfl) (fun _ _ _ h => h) (by rfl) ?_ (by assumption) ?_
      rotate_left
      · (intro w hSw; (try dsimp only at hSw); go_simp; (try with_reducible rfl))
      (try simp only [Act.put, List.setIfInBounds_toArray, List.set_cons_zero, List.set_cons_succ])
      refine' take_val (i := 19) (d := 75) (v := _) rfl rfl (by kernel_rfl) (by kernel_rfl) (by kernel_rfl) (fun _ _ _ h => h) (by rfl) ?_ (by assumption) ?_
      rotate_left
      · (intro w hSw; (try dsimp only at hSw); go_simp; (try with_reducible rfl))
      (try simp only [Act.put, List.setIfInBounds_toArray, List.set_cons_zero, List.set_cons_succ])
      refine' take_val (i := 20) (d := 76) (v := _) rfl rfl (by kernel_rfl) (by kernel_rfl) (by kernel_rfl) (fun _ _ _ h => h) (by rfl) ?_ (by assumption) ?_
      rotate_left
      · (intro w hSw; (try dsimp only at hSw); go_simp; (try with_reducible rfl))
      (try simp only [Act.put, List.setIfInBounds_toArray, List.set_cons_zero, List.set_cons_succ])
      refine' take_val (i := 21) (d := 77) (v := _) rfl rfl (by kernel_rfl) (by kernel_rfl) (by kernel_rfl) (fun _ _ _ h => h) (by rfl) ?_ (by assumption) ?_
      rotate_left
      · (intro w hSw; (try dsimp only at hSw); go_simp; (try with_reducible rfl))
      (try simp only [Act.put, List.setIfInBounds_toArray, List.set_cons_zero, List.set_cons_succ])
      refine' take_val (i := 22) (d := 78) (v := _) rfl rfl (by kernel_rfl) (by kernel_rfl) (by kernel_rfl) (fun _ _ _ h => h) (by rfl) ?_ (by assumption) ?_
      rotate_left
      · (intro w hSw; (try dsimp only at hSw); go_simp; (try with_reducible rfl))
      (try simp only [Act.put, List.setIfInBounds_toArray, List.set_cons_zero, List.set_cons_succ])
      refine' take_val (i := 23) (d := 79) (v := _) rfl rfl (by kernel_rfl) (by kernel_rfl) (by kernel_rfl) (fun _ _ _ h => h) (by rfl) ?_ (by assumption) ?_
      rotate_left
      · (intro w hSw; (try dsimp only at hSw); go_simp; (try with_reducible rfl))
      (try simp only [Act.put, List.setIfInBounds_toArray, List.set_cons_zero, List.set_cons_succ])
      refine' take_val (i := 24) (d := 80) (v := _) rfl rfl (by kernel_rfl) (by kernel_rfl) (by kernel_rfl) (fun _ _ _ h => h) (by rfl) ?_ (by assumption) ?_
      rotate_left
      · (intro w hSw; (try dsimp only at hSw); go_simp; (try with_reducible rfl))
      (try simp only [Act.put, List.setIfInBounds_toArray, List.set_cons_zero, List.set_cons_succ])
      refine' take_val (i := 25) (d := 81) (v := _) rfl rfl (by kernel_rfl) (by kernel_rfl) (by kernel_rfl) (fun _ _ _ h => h) (by rfl) ?_ (by assumption) ?_
      rotate_left
      · (intro w hSw; (try dsimp only at hSw); go_simp; (try with_reducible rfl))
      (try simp only [Act.put, List.setIfInBounds_toArray, List.set_cons_zero, List.set_cons_succ])
      refine' take_val (i := 26) (d := 82) (v := _) rfl rfl (by kernel_rfl) (by kernel_rfl) (by kernel_rfl) (fun _ _ _ h => h) (by rfl) ?_ (by assumption) ?_
      rotate_left
      · (intro w hSw; (try dsimp only at hSw); go_simp; (try with_reducible rfl))
      (try simp only [Act.put, List.setIfInBounds_toArray, List.set_cons_zero, List.set_cons_succ])
      refine wpAnyH_ready (rs := [27]) (by kernel_rfl) (by simp) ?_
      refine AllReadyH.cons rfl (fun K hK => ?_) AllReadyH.nil
      go_simp
      go_at_call 29
      refine (eqBytes_any AR AT nR cR nT cT al al _ (R6.out.below (And.left (b := _) hHeld)) (T6.out.below (And.left (b := _) hHeld))).mono ?_
      rintro r wb ⟨rfl, hbb⟩
      (try rw [show decide (al = al) = true from decide_eq_true rfl])
      go_wp2_with fail
      refine hK.out _ _ (VK.out _ (nx (And.left (b := _) hHeld) hbb)) (fun hHeld => ?_)
      clear hK K
      (try simp only [Act.put, List.setIfInBounds_toArray, List.set_cons_zero, List.set_cons_succ])
      refine' take_val (i := 28) (d := 84) (v := _) rfl rfl (by kernel_rfl) (by kernel_rfl) (by kernel_rfl) (fun _ _ _ h => h) (by rfl) ?_ (by assumption) ?_
      rotate_left
      · (intro w hSw; (try dsimp only at hSw); go_simp; (try with_reducible rfl))
      (try simp only [Act.put, List.setIfInBounds_toArray, List.set_cons_zero, List.set_cons_succ])
      refine' take_val (i := 29) (d := 85) (v := _) rfl rfl (by kernel_rfl) (by kernel_rfl) (by kernel_rfl) (fun _ _ _ h => h) (by rfl) ?_ (by assumption) ?_
      rotate_left
      · (intro w hSw; (try dsimp only at hSw); go_simp; (try with_reducible rfl))
      (try simp only [Act.put, List.setIfInBounds_toArray, List.set_cons_zero, List.set_cons_succ])
      refine' take_val (i := 30) (d := 86) (v := _) rfl rfl (by kernel_rfl) (by kernel_rfl) (by kernel_rfl) (fun _ _ _ h => h) (by rfl) ?_ (by assumption) ?_
      rotate_left
      · (intro w hSw; (try dsimp only at hSw); go_simp; (try with_reducible rfl))
      (try simp only [Act.put, List.setIfInBounds_toArray, List.set_cons_zero, List.set_cons_succ])
      refine' take_val (i := 31) (d := 87) (v := _) rfl rfl (by kernel_rfl) (by kernel_rfl) (by kernel_rfl) (fun _ _ _ h => h) (by rfl) ?_ (by assumption) ?_
      rotate_left
      · (intro w hSw; (try dsimp only at hSw); go_simp; (try with_reducible rfl))
      (try simp only [Act.put, List.setIfInBounds_toArray, List.set_cons_zero, List.set_cons_succ])
      refine' take_val (i := 32) (d := 88) (v := _) rfl rfl (by kernel_rfl) (by kernel_rfl) (by kernel_rfl) (fun _ _ _ h => h) (by rfl) ?_ (by assumption) ?_
      rotate_left
      · (intro w hSw; (try dsimp only at hSw); go_simp; (try with_reducible rfl))
      (try simp only [Act.put, List.setIfInBounds_toArray, List.set_cons_zero, List.set_cons_succ])
      refine' take_val (i := 33) (d := 89) (v := _) rfl rfl (by kernel_rfl) (by kernel_rfl) (by kernel_rfl) (fun _ _ _ h => h) (by rfl) ?_ (by assumption) ?_
      rotate_left
      · (intro w hSw; (try dsimp only at hSw); go_simp; (try with_reducible rfl))
      (try simp only [Act.put, List.setIfInBounds_toArray, List.set_cons_zero, List.set_cons_succ])
      refine' take_val (i := 34) (d := 90) (v := _) rfl rfl (by kernel_rfl) (by kernel_rfl) (by kernel_rfl) (fun _ _ _ h => h) (by rfl) ?_ (by assumption) ?_
      rotate_left
      · (intro w hSw; (try dsimp only at hSw); go_simp; (try with_reducible rfl))
      (try simp only [Act.put, List.setIfInBounds_toArray, List.set_cons_zero, List.set_cons_succ])
      refine' take_val (i := 35) (d := 91) (v := _) rfl rfl (by kernel_rfl) (by kernel_rfl) (by kernel_rfl) (fun _ _ _ h => h) (by rfl) ?_ (by assumption) ?_
      rotate_left
      · (intro w hSw; (try dsimp only at hSw); go_simp; (try with_reducible rfl))
      (try simp only [Act.put, List.setIfInBounds_toArray, List.set_cons_zero, List.set_cons_succ])
      refine' take_val (i := 36) (d := 92) (v := _) rfl rfl (by kernel_rfl) (by kernel_rfl) (by kernel_rfl) (fun _ _ _ h => h) (by rfl) ?_ (by assumption) ?_
      rotate_left
      · (intro w hSw; (try dsimp only at hSw); go_simp; (try with_reducible rfl))
      (try simp only [Act.put, List.setIfInBounds_toArray, List.set_cons_zero, List.set_cons_succ])
      refine wpAnyH_ready (rs := [37]) (by kernel_rfl) (by simp) ?_
      refine AllReadyH.cons rfl (fun K hK => ?_) AllReadyH.nil
      go_simp
      go_at_call 48
      refine (same_any (S6.out.below (And.left (b := _) hHeld)) ((HLn.out.below hb).below (And.left (b := _) hHeld))).mono ?_
      rintro r wb ⟨bb, rfl, hbe, hbb⟩
      obtain rfl : bb = true := hbe.2 rfl
      clear hbe
      go_wp2_with fail
      refine hK.out _ _ (VK.out _ (nx (And.left (b := _) hHeld) hbb)) (fun hHeld => ?_)
      clear hK K
      (try simp only [Act.put, List.setIfInBounds_toArray, List.set_cons_zero, List.set_cons_succ])
      refine' take_val (i := 38) (d := 94) (v := _) rfl rfl (by kernel_rfl) (by kernel_rfl) (by kernel_rfl) (fun _ _ _ h => h) (by rfl) ?_ (by assumption) ?_
      rotate_left
      · (intro w hSw; (try dsimp only at hSw); go_simp; (try with_reducible rfl))
      (try simp only [Act.put, List.setIfInBounds_toArray, List.set_cons_zero, List.set_cons_succ])
      refine' take_val (i := 39) (d := 95) (v := _) rfl rfl (by kernel_rfl) (by kernel_rfl) (by kernel_rfl) (fun _ _ _ h => h) (by rfl) ?_ (by assumption) ?_
      rotate_left
      · (intro w hSw; (try dsimp only at hSw); go_simp; (try with_reducible rfl))
      (try simp only [Act.put, List.setIfInBounds_toArray, List.set_cons_zero, List.set_cons_succ])
      refine wpAnyH_ready (rs := [40]) (by kernel_rfl) (by simp) ?_
      refine AllReadyH.cons rfl (fun K hK => ?_) AllReadyH.nil
      go_simp
      go_at_call 49
      refine (works08_any _).mono ?_
      rintro r wb ⟨rfl, hbb⟩
      go_wp2_with fail
      refine hK.out _ _ (VK.out _ (nx (And.left (b := _) hHeld) hbb)) (fun hHeld => ?_)
      clear hK K
      (try simp only [Act.put, List.setIfInBounds_toArray, List.set_cons_zero, List.set_cons_succ])
      refine' take_val (i := 41) (d := 97) (v := _) rfl rfl (by kernel_rfl) (by kernel_rfl) (by kernel_rfl) (fun _ _ _ h => h) (by rfl) ?_ (by assumption) ?_
      rotate_left
      · (intro w hSw; (try dsimp only at hSw); go_simp; (try with_reducible rfl))
      (try simp only [Act.put, List.setIfInBounds_toArray, List.set_cons_zero, List.set_cons_succ])
      refine' take_val (i := 42) (d := 6) (v := _) rfl rfl (by kernel_rfl) (by kernel_rfl) (by kernel_rfl) (fun _ _ _ h => h) (by rfl) ?_ (by assumption) ?_
      rotate_left
      · (intro w hSw; (try dsimp only at hSw); go_simp; (try with_reducible rfl))
      (try simp only [Act.put, List.setIfInBounds_toArray, List.set_cons_zero, List.set_cons_succ])
      refine wpAnyH_done (by kernel_rfl) ?_ _
      go_wp2_with fail
      go_ret
      exact ⟨rfl, nx hb (And.left (b := _) hHeld)⟩
end Go.Proofs.Ytbbejajnfajpoaa
