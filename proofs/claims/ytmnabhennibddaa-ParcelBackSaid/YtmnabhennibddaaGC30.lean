/- The document's Next: its contract. No conditions. -/
import Derived.Test.YtmnabhennibddaaGC20
import Derived.Test.YtmnabhennibddaaGC29
import Derived.Deep.RegionHeld3
import Derived.WalkMore
set_option linter.unusedSimpArgs false
set_option linter.unusedVariables false
namespace Go.Proofs.Ytmnabhennibddaa
open Go.RowKit

theorem nx_a {l m : List Nat} {k : Nat} {e : Int} (h : nb 9007199254740991 0 l = (k, e, m)) :
    (e = 3 → nxP l = (0, [], [], 3)) ∧ (e ≠ 3 → (e ≠ 0 ∨ 127 < k) → nxP l = (0, [], [], 30)) ∧ (e = 0 → k ≤ 127 → numP 127 l = (k, 0, m)) := by
  have hn : numP 127 l = if e = 3 then (0, 3, m) else if e ≠ 0 ∨ 127 < k then (0, 30, m) else (k, 0, m) := by unfold numP; rw [h]
  refine ⟨fun h1 => ?_, fun h1 h2 => ?_, fun h1 h2 => ?_⟩
  · rw [if_pos h1] at hn
    unfold nxP fstP
    rw [hn]
    simp
  · rw [if_neg h1, if_pos h2] at hn
    unfold nxP fstP
    rw [hn]
    simp
  · rw [if_neg (by omega), if_neg (by omega)] at hn
    exact hn
theorem nx_b {l m m2 : List Nat} {k n : Nat} {e : Int} (h1 : numP 127 l = (k, 0, m)) (h : nb 9007199254740991 0 m = (n, e, m2)) :
    (e = 3 → nxP l = (0, [], [], 3)) ∧ (e ≠ 3 → (e ≠ 0 ∨ 65536 < n) → nxP l = (0, [], [], 30)) ∧ (e = 0 → n ≤ 65536 → numP 65536 m = (n, 0, m2)) := by
  have hn : numP 65536 m = if e = 3 then (0, 3, m2) else if e ≠ 0 ∨ 65536 < n then (0, 30, m2) else (n, 0, m2) := by unfold numP; rw [h]
  refine ⟨fun h2 => ?_, fun h2 h3 => ?_, fun h2 h3 => ?_⟩
  · rw [if_pos h2] at hn
    unfold nxP fstP
    rw [h1]
    simp only [if_true]
    unfold fstQ
    rw [hn]
    simp
  · rw [if_neg h2, if_pos h3] at hn
    unfold nxP fstP
    rw [h1]
    simp only [if_true]
    unfold fstQ
    rw [hn]
    simp
  · rw [if_neg (by omega), if_neg (by omega)] at hn
    exact hn
theorem nx_c {l m m2 : List Nat} {k n : Nat} (h1 : numP 127 l = (k, 0, m)) (h : numP 65536 m = (n, 0, m2)) :
    (m2.length < n + 4 → nxP l = (0, [], [], 3)) ∧
    (¬ m2.length < n + 4 → (l.drop (l.length - m2.length + n)).take 4 = Crc.row (Crc.on 0 (l.take (l.length - m2.length + n))) → nxP l = (k, m2.take n, l.drop (l.length - m2.length + n + 4), 0)) ∧
    (¬ m2.length < n + 4 → ¬ (l.drop (l.length - m2.length + n)).take 4 = Crc.row (Crc.on 0 (l.take (l.length - m2.length + n))) → nxP l = (0, [], [], 30)) := by
  have hf : fstP l = fstR l k n m2 := by
    unfold fstP
    rw [h1]
    simp only [if_true]
    unfold fstQ
    rw [h]
    simp only [if_true]
  unfold nxP
  rw [hf]
  unfold fstR
  refine ⟨fun h2 => ?_, fun h2 h3 => ?_, fun h2 h3 => ?_⟩
  · rw [if_pos h2]; simp
  · rw [if_neg h2, if_pos h3]; simp
  · rw [if_neg h2, if_neg h3]; simp

set_option maxHeartbeats 8000000 in
set_option maxRecDepth 100000 in
theorem refNext_any {A : Option Addr} {n c : Nat} {l : List Nat} {w : World} (h : BS w A n c l) :
    Calls Try.prog 9 #[.slice A n c] w fun r w' => NextR w w' r (nxP l) := by
  obtain ⟨X, hX⟩ : ∃ X, X = nxP l := ⟨_, rfl⟩
  rw [← hX]
  have HX := Lib.hid hX
  have hbl := h.byt
  obtain rfl := h.len
  have hcl := h.le
  have hlim := h.lim
  have HL := Lib.hid h
  have HB := Lib.hid hbl
  clear h hX hbl
  generalize hx1 : nb 9007199254740991 0 l = x1 at *
  obtain ⟨k, e1, m⟩ := x1
  have HN1 := Lib.hid hx1
  have HA := Lib.hid (nx_a hx1)
  have hk0 := nb_le 9007199254740991 0 l
  rw [hx1] at hk0
  simp only at hk0
  clear hx1
  go_enter Try.func9, Try.ntmps9
  go_wp2_with fail
  refine (refNew_any A _ c l _ HL.out).mono ?_
  rintro r w1 ⟨g, rfl, hr, hb1⟩
  have R1 := Lib.hid hr
  have B1 := Lib.hid hb1
  have GB := Lib.hid hr.lt.1
  clear hr hb1
  go_wp2_with fail
  refine (rfU_any R1.out).mono ?_
  rw [HN1.out]
  rintro r w2 ⟨rfl, hr, hg⟩
  have B2 := Lib.hid (grown_bel B1.out hg GB.out)
  obtain ⟨_, _, _, _, c20, c21, f20, f21, _⟩ := hr.open
  have R2 := Lib.hid hr
  clear hr hg R1 B1
  simp only at c21 ⊢
  by_cases h1 : e1 = 3
  · subst h1
    have HX0 := Lib.hid (HX.out.trans (HA.out.1 rfl))
    clear HX HA
    go_wp2_with fail
    refine bodyPost_ret (by simp [results, Try.results9, go_sem]; try rfl) rfl ?_
    rw [HX0.out]
    exact ⟨_, _, rfl, World.ownsRow_nil _ _ _ _, World.ownsRow_nil _ _ _ _, B2.out⟩
  · by_cases h2 : e1 ≠ 0 ∨ 127 < k
    · have HX0 := Lib.hid (HX.out.trans (HA.out.2.1 h1 h2))
      have h1' : (e1 == 3) = false := by simp; exact h1
      clear HX HA
      by_cases h3 : e1 = 0
      · subst h3
        have h2' : (127 : Int) < (k : Int) := by omega
        go_wp2_with fail
        refine bodyPost_ret (by simp [results, Try.results9, go_sem]; try rfl) rfl ?_
        rw [HX0.out]
        exact ⟨_, _, rfl, World.ownsRow_nil _ _ _ _, World.ownsRow_nil _ _ _ _, B2.out⟩
      · have h3' : (e1 != 0) = true := by simp; exact h3
        go_wp2_with fail
        refine bodyPost_ret (by simp [results, Try.results9, go_sem]; try rfl) rfl ?_
        rw [HX0.out]
        exact ⟨_, _, rfl, World.ownsRow_nil _ _ _ _, World.ownsRow_nil _ _ _ _, B2.out⟩
    · obtain rfl : e1 = 0 := by omega
      have hk127 : ¬ (127 : Int) < (k : Int) := by omega
      have hnp := HA.out.2.2 rfl (by omega)
      have hok := numP_ok (most := 127) HB.out
      rw [hnp] at hok
      have hkm := (hok rfl).1
      simp only at hkm
      generalize hx2 : nb 9007199254740991 0 m = x2 at *
      obtain ⟨n, e2, m2⟩ := x2
      have HN2 := Lib.hid hx2
      have HA2 := Lib.hid (nx_b hnp hx2)
      have hk0 := nb_le 9007199254740991 0 m
      rw [hx2] at hk0
      simp only at hk0
      have HNP := Lib.hid hnp
      have HKM := Lib.hid hkm
      clear hx2 hnp hok hkm HA h1 h2
      go_wp2_with fail
      refine (rfU_any R2.out).mono ?_
      rw [HN2.out]
      rintro r w3 ⟨rfl, hr, hg⟩
      have B3 := Lib.hid (grown_bel B2.out hg GB.out)
      clear c20 c21 f20 f21
      obtain ⟨_, _, _, _, c20, c21, f20, f21, _⟩ := hr.open
      have R3 := Lib.hid hr
      clear hr hg R2 B2
      simp only at c21 ⊢
      by_cases h1 : e2 = 3
      · subst h1
        have HX0 := Lib.hid (HX.out.trans (HA2.out.1 rfl))
        clear HX HA2
        go_wp2_with fail
        refine bodyPost_ret (by simp [results, Try.results9, go_sem]; try rfl) rfl ?_
        rw [HX0.out]
        exact ⟨_, _, rfl, World.ownsRow_nil _ _ _ _, World.ownsRow_nil _ _ _ _, B3.out⟩
      · by_cases h2 : e2 ≠ 0 ∨ 65536 < n
        · have HX0 := Lib.hid (HX.out.trans (HA2.out.2.1 h1 h2))
          have h1' : (e2 == 3) = false := by simp; exact h1
          clear HX HA2
          by_cases h3 : e2 = 0
          · subst h3
            have h2' : (65536 : Int) < (n : Int) := by omega
            go_wp2_with fail
            refine bodyPost_ret (by simp [results, Try.results9, go_sem]; try rfl) rfl ?_
            rw [HX0.out]
            exact ⟨_, _, rfl, World.ownsRow_nil _ _ _ _, World.ownsRow_nil _ _ _ _, B3.out⟩
          · have h3' : (e2 != 0) = true := by simp; exact h3
            go_wp2_with fail
            refine bodyPost_ret (by simp [results, Try.results9, go_sem]; try rfl) rfl ?_
            rw [HX0.out]
            exact ⟨_, _, rfl, World.ownsRow_nil _ _ _ _, World.ownsRow_nil _ _ _ _, B3.out⟩
        · obtain rfl : e2 = 0 := by omega
          have hn65 : ¬ (65536 : Int) < (n : Int) := by omega
          have hnp2 := HA2.out.2.2 rfl (by omega)
          have hok := numP_ok (most := 65536) (l := m) (by have h := HB.out; rw [HKM.out] at h; exact fun x hx => h x (List.mem_append_right _ hx))
          rw [hnp2] at hok
          have hnm := (hok rfl).1
          simp only at hnm
          have HC := Lib.hid (nx_c HNP.out hnp2)
          obtain ⟨H, hHe⟩ : ∃ H, H = l.length - m2.length := ⟨_, rfl⟩
          have hHl : H + m2.length = l.length := by
            have := congrArg List.length HKM.out
            have := congrArg List.length hnm
            simp only [List.length_append] at *
            omega
          have hdr : l.drop H = m2 := by
            have e : l = (Dig.enc k ++ Dig.enc n) ++ m2 := by rw [List.append_assoc, ← hnm]; exact HKM.out
            have e2 : H = (Dig.enc k ++ Dig.enc n).length := by
              have := congrArg List.length e
              rw [List.length_append] at this
              omega
            rw [e2]
            conv => lhs; rw [e]
            exact List.drop_left
          have HDR := Lib.hid hdr
          rw [← hHe] at HC
          clear hok hnm hnp2 hHe hdr HA2 h1 h2 HNP HKM
          go_wp2_with fail
          refine (refLeft_any R3.out).mono ?_
          rintro r w4 ⟨rfl, rfl⟩
          rw [if_pos rfl]
          have hh1 : (l.length : Int) - (m2.length : Int) = (H : Int) := by omega
          by_cases h3 : m2.length < n + 4
          · have h3' : (m2.length : Int) < (n : Int) + 4 := by omega
            have HX0 := Lib.hid (HX.out.trans (HC.out.1 h3))
            clear HX HC
            go_wp2_with fail
            refine (refLeft_any R3.out).mono ?_
            rintro r w4 ⟨rfl, rfl⟩
            rw [if_pos rfl]
            go_wp2_with fail
            refine bodyPost_ret (by simp [results, Try.results9, go_sem]; try rfl) rfl ?_
            rw [HX0.out]
            exact ⟨_, _, rfl, World.ownsRow_nil _ _ _ _, World.ownsRow_nil _ _ _ _, B3.out⟩
          · have h3' : ¬ (m2.length : Int) < (n : Int) + 4 := by omega
            have HC2 := Lib.hid (HC.out.2.1 h3)
            have HC3 := Lib.hid (HC.out.2.2 h3)
            clear HC
            obtain ⟨E, hE⟩ : ∃ E, E = H + n := ⟨_, rfl⟩
            obtain ⟨E4, hE4⟩ : ∃ E4, E4 = E + 4 := ⟨_, rfl⟩
            have hEl : E4 ≤ l.length := by omega
            have hh2 : (H : Int) + (n : Int) = (E : Int) := by omega
            have hh3 : (E : Int) + 4 = (E4 : Int) := by omega
            rw [← hE] at HC2 HC3
            rw [← hE4] at HC2
            have hs1 : ∀ w : World, (Instr.slice 22 (.slice A l.length c) (some (.int .i64 (E : Int))) (some (.int .i64 (E4 : Int))) none).run Try.prog w = .ok (.slice (dropA A c E) 4 (c - E)) w := fun w => by
              rw [slice_mid (by omega) (by omega), show E4 - E = 4 by omega]
            have hs2 : ∀ w : World, (Instr.slice 22 (.slice A l.length c) none (some (.int .i64 (E : Int))) none).run Try.prog w = .ok (.slice A E c) w := fun w => slice_take (by omega)
            have hs3 : ∀ w : World, (Instr.slice 22 (.slice A l.length c) (some (.int .i64 (H : Int))) (some (.int .i64 (E : Int))) none).run Try.prog w = .ok (.slice (dropA A c H) n (c - H)) w := fun w => by
              rw [slice_mid (by omega) (by omega), show E - H = n by omega]
            have hs4 : ∀ w : World, (Instr.slice 22 (.slice A l.length c) (some (.int .i64 (E4 : Int))) none none).run Try.prog w = .ok (.slice (dropA A c E4) (l.length - E4) (c - E4)) w := fun w => slice_drop hEl hcl
            have K1 := Lib.hid ((HL.out.below B3.out).mid (i := E) (j := E4) (by omega) hEl)
            have K2 := Lib.hid ((HL.out.below B3.out).cutN (k := E) (by omega))
            have K3 := Lib.hid ((HL.out.below B3.out).mid (i := H) (j := E) (by omega) (by omega))
            have K4 := Lib.hid ((HL.out.below B3.out).dropA (k := E4) hEl)
            rw [show E4 - E = 4 by omega] at K1
            rw [show E - H = n by omega, HDR.out] at K3
            have zb7 : (E4 : Int) ≤ 140737488354304 := by omega
            have zb8 : IntKind.i64.wrap (E4 : Int) = (E4 : Int) := by rw [IntKind.wrap_i64]; omega
            have zb9 : IntKind.i64.wrap (E : Int) = (E : Int) := by rw [IntKind.wrap_i64]; omega
            clear hE4 hE
            generalize dropA A c E = D at *
            generalize dropA A c H = D3 at *
            generalize dropA A c E4 = D4 at *
            generalize l.length - E4 = n4 at *
            go_wp2_with fail
            refine (refLeft_any R3.out).mono ?_
            rintro r w6 ⟨rfl, rfl⟩
            rw [if_pos rfl]
            go_wp2_with fail
            go_region_held3 (fun w' => Below w3.heap.size w3 w')
              (first | exact (bel0 _).drew | exact nx (by assumption) (by assumption) | assumption)
              (first
                | (go_at_call 33; (with_reducible refine (refOf_any A E c (l.take E) _ (K2.out.below (by assumption))).mono ?_); rintro e wb ⟨rfl, rfl⟩)
                | (go_at_call 32; (with_reducible refine (refRow_any (Crc.on 0 (l.take E)) (Crc.on_lt _ _) _).mono ?_); rintro e wc ⟨u, rfl, hoc, hbc⟩; obtain ⟨A2, n2, c2, rfl, hs5, _⟩ := ownsRow_bs hoc (Crc.row_byt _) (by rw [Crc.length_row]; decide))
                | (go_at_call 12; (with_reducible refine (eqBytes_any D A2 4 (c - E) n2 c2 _ _ _ (K1.out.below (by assumption)) hs5).mono ?_); rintro e wd ⟨rfl, hbd⟩))
            rename_i hK6
            have B6 := Lib.hid (nx B3.out hK6)
            have HK6 := Lib.hid hK6
            clear K1 K2 R3 B3 hbc hbd hoc hs1 hs2 hs5 hK6 c20 c21 f20 f21
            by_cases hs : List.take 4 (List.drop E l) = Crc.row (Crc.on 0 (List.take E l))
            · have HX3 := Lib.hid (HX.out.trans (HC2.out hs))
              rw [show decide (List.take 4 (List.drop E l) = Crc.row (Crc.on 0 (List.take E l))) = true from decide_eq_true hs]
              clear HX HC2 HC3 hs
              go_wp2_with fail
              go_region_held3 (fun w' => Below w3.heap.size w3 w')
                (first | exact HK6.out.drew | exact nx (by assumption) (by assumption))
                (first
                  | (go_at_call 7; (with_reducible refine (copyBytes_any D3 n (c - H) (m2.take n) _ (K3.out.below (by assumption))).mono ?_); rintro e wa ⟨v, rfl, hov, hbv⟩)
                  | (go_at_call 7; (with_reducible refine (copyBytes_any D4 n4 (c - E4) (l.drop E4) _ (K4.out.below (by assumption))).mono ?_); rintro e wa ⟨u, rfl, hou, hbu⟩))
              have hb7 := nx B6.out.drew hbv
              go_wp2_with fail
              refine bodyPost_ret (by simp [results, Try.results9, go_sem]; try rfl) rfl ?_
              rw [HX3.out]
              exact ⟨_, _, rfl, ownsRow_below (ownsRow_base hov B6.out.drew.size) hbu, ownsRow_base hou hb7.size, nx hb7 hbu⟩
            · have HX3 := Lib.hid (HX.out.trans (HC3.out hs))
              rw [show decide (List.take 4 (List.drop E l) = Crc.row (Crc.on 0 (List.take E l))) = false from decide_eq_false hs]
              clear HX HC2 HC3 hs
              go_wp2_with fail
              refine bodyPost_ret (by simp [results, Try.results9, go_sem]; try rfl) rfl ?_
              rw [HX3.out]
              exact ⟨_, _, rfl, World.ownsRow_nil _ _ _ _, World.ownsRow_nil _ _ _ _, B6.out⟩
end Go.Proofs.Ytmnabhennibddaa
