/- Lists of bytes compared by the document: its contract. No conditions. -/
import Derived.Test.YtmnabhennibddaaGC33
set_option linter.unusedSimpArgs false
set_option linter.unusedVariables false
namespace Go.Proofs.Ytmnabhennibddaa
open Go.RowKit

theorem AllR.open {w w' : World} {r : Ending} {F : List (Nat × List Nat)} {t : List Nat} {e : Int} (h : AllR w w' r (F, t, e)) (hF : F.length ≤ 1000000000) (hk : ∀ x ∈ F, Byt x.2 ∧ x.2.length ≤ 65536 ∧ x.1 ≤ 127) (ht : Byt t) (htl : t.length ≤ 140737488354304) :
    ∃ A c B d D k g, r = .returned (.tuple #[.slice A F.length c, .slice B F.length d, .slice D k g, .int .i64 e]) ∧ IL w' A F.length c (F.map fun f => (f.1 : Int)) ∧ EL blR w' B F.length d (F.map (·.2)) ∧ BS w' D k g t ∧ w'.ownsRow w.heap.size 5 1 (.slice D k g) t.length (bv t) ∧ Below w.heap.size w w' := by
  obtain ⟨v, u, z, rfl, h1, h2, h3, hb⟩ := h
  obtain ⟨A, c, rfl, hI⟩ := ino_il h1 (by
    intro x hx
    obtain ⟨f, hf, rfl⟩ := List.mem_map.1 hx
    have := (hk f hf).2.2
    unfold I64
    omega) (by simp; omega)
  obtain ⟨B, d, rfl, hE, _⟩ := h2.el (p := fun x : List Nat => Byt x ∧ x.length ≤ 140737488354304) blO_rd (by
    intro x hx
    obtain ⟨f, hf, rfl⟩ := List.mem_map.1 hx
    have := hk f hf
    exact ⟨this.1, by omega⟩) (by simp; omega)
  obtain ⟨D, k, g, rfl, hD, _⟩ := ownsRow_bs h3 ht htl
  simp only [List.length_map] at hI hE ⊢
  exact ⟨_, _, _, _, _, _, _, rfl, hI, hE, hD, h3, hb⟩
theorem alP_ok {l : List Nat} (hl : Byt l) : (alP l).1.length ≤ l.length ∧ (∀ x ∈ (alP l).1, Byt x.2 ∧ x.2.length ≤ 65536 ∧ x.1 ≤ 127) ∧ Byt (alP l).2.1 ∧ (alP l).2.1.length ≤ l.length := by
  have h1 := allN_le (l.length + 1) hl
  have h2 := allN_len (l.length + 1) hl
  unfold alP
  simp only
  split
  · exact ⟨Nat.zero_le _, (by intro x hx; cases hx), (by intro x hx; cases hx), Nat.zero_le _⟩
  · exact ⟨h2, h1.2, fun x hx => hl x (List.mem_of_mem_drop hx), by simp⟩
theorem take_snocL {α : Type} {l : List α} {k : Nat} (h : k < l.length) : l.take (k + 1) = l.take k ++ [l[k]] := List.take_succ_eq_append_getElem h
set_option maxHeartbeats 16000000 in
set_option maxRecDepth 100000 in
theorem sameList_any {A B : Option Addr} {n c k0 d : Nat} {l m : List (List Nat)} {w : World} (hl : EL blR w A n c l) (hm : EL blR w B k0 d m) :
    Calls Try.prog 14 #[.slice A n c, .slice B k0 d] w fun e w' => e = .returned (.bool (decide (l = m))) ∧ Below w.heap.size w w' := by
  obtain rfl := hl.len
  obtain rfl := hm.len
  have HL := Lib.hid hl
  have HM := Lib.hid hm
  have hll := hl.lim
  have hmm := hm.lim
  clear hl hm
  by_cases hlen : l.length = m.length
  · have hd : ((l.length : Int) != (m.length : Int)) = false := by simp [hlen]
    have HLEN := Lib.hid hlen
    clear hlen
    go_enter Try.func14, Try.ntmps14
    go_wp2_with fail
    go_loopw [5] (fun i wr => ∃ k : Nat, k ≤ l.length ∧ i = .int .i64 k ∧ Hid (l.take k = m.take k) ∧ Hid (Below w.heap.size w wr)) (fun i _ => l.length - (intOf i).toNat)
    case atStart => exact ⟨0, Nat.zero_le _, rfl, Lib.hid rfl, Lib.hid (bel0 _)⟩
    case round =>
      obtain ⟨k, hk, rfl, HE, HB⟩ := hrel
      by_cases hlt : k < l.length
      · have hlt' : k < m.length := by rw [← HLEN.out]; exact hlt
        have hki : (k : Int) < (l.length : Int) := by omega
        have hki2 : (k : Int) < (m.length : Int) := by omega
        obtain ⟨g1, o1, cs1, hA, ⟨P1, m1, d1, rfl, hs1⟩, hc1⟩ := HL.out.cellsAt HB.out hlt
        obtain ⟨g2, o2, cs2, hB, ⟨P2, m2, d2, rfl, hs2⟩, hc2⟩ := HM.out.cellsAt HB.out hlt'
        subst hA hB
        have e1 : wr.cell? ⟨g1, o1 + k, none⟩ = some (.slice P1 m1 d1) := by have := hc1 0 _ rfl; simpa [blR] using this
        have e2 : wr.cell? ⟨g2, o2 + k, none⟩ = some (.slice P2 m2 d2) := by have := hc2 0 _ rfl; simpa [blR] using this
        have a1 : (⟨g1, o1, none⟩ : Addr).add k = ⟨g1, o1 + k, none⟩ := addr_add _ _ _
        have a2 : (⟨g2, o2, none⟩ : Addr).add k = ⟨g2, o2 + k, none⟩ := addr_add _ _ _
        have HL1 := Lib.hid (take_snocL hlt)
        have HM1 := Lib.hid (take_snocL hlt')
        have HNE := Lib.hid (fun (h : l[k] ≠ m[k]) (e : l = m) => h (by subst e; rfl))
        have KP := Lib.hid (fun (X : World) (h : Below wr.heap.size wr X) => show Below wr.heap.size wr X ∧ X.cell? ⟨g1, o1 + k, none⟩ = some (.slice P1 m1 d1) ∧ X.cell? ⟨g2, o2 + k, none⟩ = some (.slice P2 m2 d2) from ⟨h, (h.cell (p := ⟨g1, o1 + k, none⟩) (World.block_lt_of_cell? _ _ e1)).trans e1, (h.cell (p := ⟨g2, o2 + k, none⟩) (World.block_lt_of_cell? _ _ e2)).trans e2⟩)
        have HEQ := Lib.hid (fun (X : World) (h : Below wr.heap.size wr X) => eqBytes_any P1 P2 m1 d1 m2 d2 l[k] m[k] X (hs1.below h) (hs2.below h))
        clear hc1 hc2 hs1 hs2 e1 e2
        generalize l[k] = x at *
        generalize m[k] = y at *
        go_upto_region 6 with (fail)
        have hdw := (bel0 wr).drew
        refine wp_region_held_drew (S := (fun w' => Below wr.heap.size wr w' ∧ w'.cell? ⟨g1, o1 + k, none⟩ = some (.slice P1 m1 d1) ∧ w'.cell? ⟨g2, o2 + k, none⟩ = some (.slice P2 m2 d2))) (by kernel_rfl) (KP.out _ hdw) (fun hHeld => ?_)
        refine' take_val (i := 0) (d := 17) (v := _) rfl rfl (by kernel_rfl) (by kernel_rfl) (by kernel_rfl) (fun _ _ _ h => h) (by rfl) ?_ (by assumption) ?_
        rotate_left
        · (intro w hSw; (try dsimp only at hSw); go_simp; (try with_reducible rfl))
        (try simp only [Act.put, List.setIfInBounds_toArray, List.set_cons_zero, List.set_cons_succ])
        refine' take_val (i := 1) (d := 18) (v := _) rfl rfl (by kernel_rfl) (by kernel_rfl) (by kernel_rfl) (fun _ _ _ h => h) (by rfl) ?_ (by assumption) ?_
        rotate_left
        · (intro w hSw; (try dsimp only at hSw); go_simp; (try with_reducible rfl))
        (try simp only [Act.put, List.setIfInBounds_toArray, List.set_cons_zero, List.set_cons_succ])
        refine' take_val (i := 2) (d := 19) (v := _) rfl rfl (by kernel_rfl) (by kernel_rfl) (by kernel_rfl) (fun _ _ _ h => h) (by rfl) ?_ (by assumption) ?_
        rotate_left
        · (intro w hSw; (try dsimp only at hSw); go_simp; (try with_reducible rfl))
        (try simp only [Act.put, List.setIfInBounds_toArray, List.set_cons_zero, List.set_cons_succ])
        refine' take_val (i := 3) (d := 20) (v := _) rfl rfl (by kernel_rfl) (by kernel_rfl) (by kernel_rfl) (fun _ _ _ h => h) (by rfl) ?_ (by assumption) ?_
        rotate_left
        · (intro w hSw; (try dsimp only at hSw); go_simp; (try with_reducible rfl))
        (try simp only [Act.put, List.setIfInBounds_toArray, List.set_cons_zero, List.set_cons_succ])
        refine' take_val (i := 4) (d := 21) (v := _) rfl rfl (by kernel_rfl) (by kernel_rfl) (by kernel_rfl) (fun _ _ _ h => h) (by rfl) ?_ (by assumption) ?_
        rotate_left
        · (intro w hSw; (try dsimp only at hSw); go_simp; (try with_reducible rfl))
        (try simp only [Act.put, List.setIfInBounds_toArray, List.set_cons_zero, List.set_cons_succ])
        refine' take_val (i := 5) (d := 22) (v := _) rfl rfl (by kernel_rfl) (by kernel_rfl) (by kernel_rfl) (fun _ _ _ h => h) (by rfl) ?_ (by assumption) ?_
        rotate_left
        · (intro w hSw; (try dsimp only at hSw); go_simp; (try with_reducible rfl))
        (try simp only [Act.put, List.setIfInBounds_toArray, List.set_cons_zero, List.set_cons_succ])
        refine' take_val (i := 6) (d := 23) (v := _) rfl rfl (by kernel_rfl) (by kernel_rfl) (by kernel_rfl) (fun _ _ _ h => h) (by rfl) ?_ (by assumption) ?_
        rotate_left
        · (intro w hSw; (try dsimp only at hSw); go_simp; (try with_reducible rfl))
        (try simp only [Act.put, List.setIfInBounds_toArray, List.set_cons_zero, List.set_cons_succ])
        refine' take_val (i := 7) (d := 24) (v := _) rfl rfl (by kernel_rfl) (by kernel_rfl) (by kernel_rfl) (fun _ _ _ h => h) (by rfl) ?_ (by assumption) ?_
        rotate_left
        · (intro w hSw; (try dsimp only at hSw); go_simp; (try with_reducible rfl))
        (try simp only [Act.put, List.setIfInBounds_toArray, List.set_cons_zero, List.set_cons_succ])
        refine wpAnyH_ready (rs := [8]) (by kernel_rfl) (by simp) ?_
        refine AllReadyH.cons rfl (fun K hK => ?_) AllReadyH.nil
        go_simp
        go_at_call 12
        refine (HEQ.out _ hHeld.1).mono ?_
        rintro r w2 ⟨rfl, hb⟩
        have hb2 := nx hHeld.1 hb
        clear hb
        go_wp2_with fail
        refine hK.out _ _ (KP.out _ hb2) (fun hHeld => ?_)
        clear hK K
        (try simp only [Act.put, List.setIfInBounds_toArray, List.set_cons_zero, List.set_cons_succ])
        refine' take_val (i := 9) (d := 26) (v := _) rfl rfl (by kernel_rfl) (by kernel_rfl) (by kernel_rfl) (fun _ _ _ h => h) (by rfl) ?_ (by assumption) ?_
        rotate_left
        · (intro w hSw; (try dsimp only at hSw); go_simp; (try with_reducible rfl))
        (try simp only [Act.put, List.setIfInBounds_toArray, List.set_cons_zero, List.set_cons_succ])
        refine wpAnyH_done (by kernel_rfl) ?_ _
        have HB2 := Lib.hid (nx HB.out hHeld.1)
        clear hHeld hb2 KP HEQ hdw HB
        by_cases he : x = y
        · rw [decide_eq_true he]
          have HXY := Lib.hid he
          clear he HNE
          go_wp2_with fail
          exact ⟨⟨k + 1, by omega, by go_num, Lib.hid (by rw [HL1.out, HM1.out, HE.out, HXY.out]), HB2⟩, by simp [intOf]; omega⟩
        · rw [decide_eq_false he]
          have HNO := Lib.hid (HNE.out he)
          clear he
          go_wp2_with fail
          go_ret
          exact ⟨by rw [decide_eq_false HNO.out]; rfl, HB2.out⟩
      · have hki : ¬ (k : Int) < (l.length : Int) := by omega
        have HY := Lib.hid (show l = m by
          have h1 := HE.out
          rw [List.take_of_length_le (by omega), List.take_of_length_le (by rw [← HLEN.out]; omega)] at h1
          exact h1)
        clear HE
        go_wp2_with fail
        go_ret
        exact ⟨by rw [decide_eq_true HY.out]; rfl, HB.out⟩
  · have hd : ((l.length : Int) != (m.length : Int)) = true := by simp; omega
    have HNE := Lib.hid (show ¬ l = m from fun h => hlen (by rw [h]))
    clear hlen
    go_enter Try.func14, Try.ntmps14
    go_wp2_with fail
    go_ret
    exact ⟨by rw [decide_eq_false HNE.out]; rfl, bel0 _⟩
end Go.Proofs.Ytmnabhennibddaa
