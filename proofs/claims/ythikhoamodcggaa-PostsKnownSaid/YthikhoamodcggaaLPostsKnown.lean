/- The walk of the law PostsKnown. No conditions. -/
import Derived.Test.YthikhoamodcggaaPoM
set_option linter.unusedSimpArgs false
set_option linter.unusedVariables false
namespace Go.Proofs.Ythikhoamodcggaa
open Go.RowKit

def bads : List (List Int) := [[-1], [1, 1], [2, 1], [0, 5, 3]]
/-- An error in front of which something stands. -/
def BadR (w w' : World) (e : Ending) (k : Int) : Prop := ∃ v, e = .returned (.tuple #[v, .int .i64 k]) ∧ Below w.heap.size w w'
theorem BadR.of {w w' : World} {e : Ending} {q : List Int × Int} (h : TwoI w w' e q.1 q.2) {k : Int} (hk : q.2 = k) : BadR w w' e k := by
  obtain ⟨v, he, _, hb⟩ := h
  exact ⟨v, by rw [← hk]; exact he, hb⟩
theorem BadR.alloc {w w' : World} {o : Obj} {e : Ending} {k : Int} (h : BadR (w.alloc o) w' e k) : BadR w w' e k := by
  obtain ⟨v, he, hb⟩ := h
  exact ⟨v, he, nx ((bel0 w).alloc (Nat.le_refl _) _) hb⟩
section
variable {A : Option Addr} {n c : Nat} {l : List Int} {w : World}
theorem badPut (h : IL w A n c l) (hn : ¬ Inc l) (hl : l.length ≤ 3) : Calls Try.prog 22 #[.slice A n c, .int .i64 (-1)] w fun e w' => BadR w w' e 2 :=
  (Put_any (-1) ⟨by omega, by omega⟩ h (by omega)).mono fun e w' hT => BadR.of hT (by unfold putP; rw [if_neg hn])
theorem badCut (h : IL w A n c l) (hn : ¬ Inc l) : Calls Try.prog 24 #[.slice A n c, .int .i64 1] w fun e w' => BadR w w' e 2 :=
  (Cut_any 1 h).mono fun e w' hT => BadR.of hT (by unfold cutP; rw [if_neg hn])
theorem badAnd (h : IL w A n c l) (hn : ¬ Inc l) : Calls Try.prog 11 #[.slice (some ⟨w.heap.size, 0, none⟩) 2 2] (w.alloc (.cells #[.slice none 0 0, .slice A n c] 23)) fun e w' => BadR w w' e 2 :=
  (And_any (LL.two (IL.empty w) h 23)).mono fun e w' hT => BadR.alloc (BadR.of hT (by unfold andP; rw [if_neg (by simp [allI, hn])]))
theorem badOr (h : IL w A n c l) (hn : ¬ Inc l) (hl : l.length ≤ 3) : Calls Try.prog 13 #[.slice (some ⟨w.heap.size + 1, 0, none⟩) 2 2] ((w.alloc (.cells #[.int .i64 1] 3)).alloc (.cells #[.slice (some ⟨w.heap.size, 0, none⟩) 1 1, .slice A n c] 23)) fun e w' => BadR w w' e 2 := by
  have h1 := IL.new w [1] 3 (0, 0) (fitD (by decide +kernel)) (by simp)
  have h2 := LL.two h1 (h.below ((bel0 w).alloc (Nat.le_refl _) _)) 23
  rw [World.size_alloc] at h2
  exact (Or_any h2 (by simp; omega)).mono fun e w' hT => BadR.alloc (BadR.alloc (BadR.of hT (by unfold orP; rw [if_neg (by simp [allI, hn])])))
theorem badBut1 (h : IL w A n c l) (hn : ¬ Inc l) : Calls Try.prog 15 #[.slice A n c, .slice none 0 0] w fun e w' => BadR w w' e 2 :=
  (But_any h (IL.empty w)).mono fun e w' hT => BadR.of hT (by unfold butP; rw [if_neg (by simp [allI, hn])])
theorem badBut2 (h : IL w A n c l) (hn : ¬ Inc l) : Calls Try.prog 15 #[.slice none 0 0, .slice A n c] w fun e w' => BadR w w' e 2 :=
  (But_any (IL.empty w) h).mono fun e w' hT => BadR.of hT (by unfold butP; rw [if_neg (by simp [allI, hn])])
theorem badPage (h : IL w A n c l) (hn : ¬ Inc l) : Calls Try.prog 21 #[.slice A n c, .int .i64 0, .int .i64 0] w fun e w' => ∃ v, e = .returned (.tuple #[v, .int .i64 0, .int .i64 2]) ∧ Below w.heap.size w w' := by
  have hp : pageP l 0 0 = ([], 0, 2) := by unfold pageP; rw [if_neg hn]
  refine (Page_any 0 0 ⟨by omega, by omega⟩ h).mono fun e w' hT => ?_
  rw [hp] at hT
  obtain ⟨v, he, _, hb⟩ := hT
  exact ⟨v, he, hb⟩
theorem badCheck (h : IL w A n c l) (hn : ¬ Inc l) : Calls Try.prog 27 #[.slice A n c] w fun e w' => e = .returned (.int .i64 2) ∧ Below w.heap.size w w' := by
  have h2 := checkI_any h
  rw [show chkI l = 2 from by unfold chkI; rw [if_neg hn]] at h2
  exact h2
theorem badHas (x : Int) (h : IL w A n c l) (hn : ¬ Inc l) : Calls Try.prog 29 #[.slice A n c, .int .i64 x] w fun e w' => e = .returned (.bool false) ∧ Below w.heap.size w w' := by
  have h2 := Has_any x h
  rw [show decide (Inc l ∧ x ∈ l) = false from by simp [hn]] at h2
  exact h2
end
theorem bads_ok : ∀ k, (hk : k < 4) → ¬ Inc (bads[k]'hk) ∧ 0 < (bads[k]'hk).length ∧ (bads[k]'hk).length ≤ 3
  | 0, _ => by
    show ¬ Inc ([-1] : List Int) ∧ 0 < ([-1] : List Int).length ∧ ([-1] : List Int).length ≤ 3
    decide +kernel
  | 1, _ => by
    show ¬ Inc ([1, 1] : List Int) ∧ 0 < ([1, 1] : List Int).length ∧ ([1, 1] : List Int).length ≤ 3
    decide +kernel
  | 2, _ => by
    show ¬ Inc ([2, 1] : List Int) ∧ 0 < ([2, 1] : List Int).length ∧ ([2, 1] : List Int).length ≤ 3
    decide +kernel
  | 3, _ => by
    show ¬ Inc ([0, 5, 3] : List Int) ∧ 0 < ([0, 5, 3] : List Int).length ∧ ([0, 5, 3] : List Int).length ≤ 3
    decide +kernel
theorem LL.four {w : World} {A B C D : Option Addr} {n c m d j e p q : Nat} {l k i' o : List Int} (h : IL w A n c l) (h2 : IL w B m d k) (h3 : IL w C j e i') (h4 : IL w D p q o) (t : TypeId) : LL (w.alloc (.cells #[.slice A n c, .slice B m d, .slice C j e, .slice D p q] t)) (some ⟨w.heap.size, 0, none⟩) 4 4 [l, k, i', o] := by
  refine ⟨rfl, Nat.le_refl _, (by intro h; cases h), fun i hi => ?_, by simp⟩
  have hi2 : i < 4 := by simpa using hi
  match i, hi2 with
  | 0, _ => exact ⟨_, _, A, n, c, rfl, by rw [World.cell?_alloc_mark]; simp, h.below ((bel0 w).alloc (Nat.le_refl _) _)⟩
  | 1, _ => exact ⟨_, _, B, m, d, rfl, by rw [World.cell?_alloc_mark]; simp, h2.below ((bel0 w).alloc (Nat.le_refl _) _)⟩
  | 2, _ => exact ⟨_, _, C, j, e, rfl, by rw [World.cell?_alloc_mark]; simp, h3.below ((bel0 w).alloc (Nat.le_refl _) _)⟩
  | 3, _ => exact ⟨_, _, D, p, q, rfl, by rw [World.cell?_alloc_mark]; simp, h4.below ((bel0 w).alloc (Nat.le_refl _) _)⟩
def badW (w : World) : World := ((((w.alloc (.cells #[.int .i64 (-1)] 3)).alloc (.cells #[.int .i64 1, .int .i64 1] 3)).alloc (.cells #[.int .i64 2, .int .i64 1] 3)).alloc (.cells #[.int .i64 0, .int .i64 5, .int .i64 3] 3)).alloc (.cells #[.slice (some ⟨w.heap.size, 0, none⟩) 1 1, .slice (some ⟨w.heap.size + 1, 0, none⟩) 2 2, .slice (some ⟨w.heap.size + 1 + 1, 0, none⟩) 2 2, .slice (some ⟨w.heap.size + 1 + 1 + 1, 0, none⟩) 3 3] 23)
theorem bads_made (w : World) : LL (badW w) (some ⟨w.heap.size + 1 + 1 + 1 + 1, 0, none⟩) 4 4 bads ∧ Below w.heap.size w (badW w) := by
  have b1 : ∀ (w : World) (o : Obj), Below w.heap.size w (w.alloc o) := fun w o => (bel0 w).alloc (Nat.le_refl _) o
  have h1 := IL.new w [-1] 3 (0, 0) (fitD (by decide +kernel)) (by simp)
  have h2 := IL.new (w.alloc (.cells #[.int .i64 (-1)] 3)) [1, 1] 3 (0, 0) (fitD (by decide +kernel)) (by simp)
  have h3 := IL.new ((w.alloc (.cells #[.int .i64 (-1)] 3)).alloc (.cells #[.int .i64 1, .int .i64 1] 3)) [2, 1] 3 (0, 0) (fitD (by decide +kernel)) (by simp)
  have h4 := IL.new (((w.alloc (.cells #[.int .i64 (-1)] 3)).alloc (.cells #[.int .i64 1, .int .i64 1] 3)).alloc (.cells #[.int .i64 2, .int .i64 1] 3)) [0, 5, 3] 3 (0, 0) (fitD (by decide +kernel)) (by simp)
  have h5 := LL.four (((h1.below (b1 _ _)).below (b1 _ _)).below (b1 _ _)) ((h2.below (b1 _ _)).below (b1 _ _)) (h3.below (b1 _ _)) h4 23
  simp only [World.size_alloc] at h5
  exact ⟨h5, nx (nx (nx (nx (b1 _ _) (b1 _ _)) (b1 _ _)) (b1 _ _)) (b1 _ _)⟩
theorem LL.at2 {w wr : World} {A : Option Addr} {n c : Nat} {ls : List (List Int)} (h : LL w A n c ls) (hb : Below w.heap.size w wr) {q : Nat} (hA : A = some ⟨q, 0, none⟩) {i : Nat} (hi : i < ls.length) (h0 : 0 < ls[i].length) :
    ∃ g p m d, wr.cell? ⟨q, i, none⟩ = some (.slice (some ⟨g, p, none⟩) m d) ∧ 0 < m ∧ IL wr (some ⟨g, p, none⟩) m d ls[i] ∧ wr.cell? ⟨g, p, none⟩ = some (.int .i64 (ls[i][0]'h0)) := by
  obtain ⟨b, o, B, m, d, e, hc, hI⟩ := (h.below hb).at' i hi
  rw [hA] at e
  injection e with e
  injection e with e1 e2
  subst e1 e2
  obtain ⟨g, p, rfl⟩ := hI.plain h0
  have hc0 := hI.cells (bel0 wr) h0
  rw [Nat.add_zero] at hc0
  rw [Nat.zero_add] at hc
  exact ⟨g, p, m, d, hc, by rw [hI.len]; exact h0, hI, hc0⟩

theorem or_nil : orP [] = ([], 0) := by
  have h : allI [] = true := by decide +kernel
  unfold orP
  rw [if_pos h]
  congr 1
  obtain ⟨h1, h2⟩ := orL_ok h
  exact inc_ext h1 inc_nil (fun x => (h2 x).trans (by simp))
theorem LL.nothing (w : World) : LL w none 0 0 [] := ⟨rfl, Nat.le_refl _, fun _ => rfl, fun i hi => absurd hi (by simp), by simp⟩
set_option maxHeartbeats 32000000 in
set_option maxRecDepth 100000 in
theorem postsKnown_walk (w : World) :
    Calls Try.prog 9 #[] w fun e w' => e = .returned (.bool true) ∧ Below w.heap.size w w' := by
  have HB := bads_made w
  have HLL := Lib.hid HB.1
  have hbw := HB.2
  clear HB
  go_enter Try.func9, Try.ntmps9
  go_wp2_with fail
  unfold badW at HLL hbw
  generalize hW : World.alloc _ (.cells #[.slice (some ⟨w.heap.size, 0, none⟩) 1 1, .slice (some ⟨w.heap.size + 1, 0, none⟩) 2 2, .slice (some ⟨w.heap.size + 1 + 1, 0, none⟩) 2 2, .slice (some ⟨w.heap.size + 1 + 1 + 1, 0, none⟩) 3 3] 23) = W1 at *
  clear hW
  generalize w.heap.size + 1 + 1 + 1 + 1 = q at *
  have hb0 := bel0 W1
  go_loopw [2] (fun i wr => ∃ k : Nat, k ≤ 4 ∧ i = .int .i64 k ∧ Below W1.heap.size W1 wr) (fun i _ => 4 - (intOf i).toNat)
  case atStart => exact ⟨0, Nat.zero_le _, rfl, hb0⟩
  case round =>
    clear hb0
    obtain ⟨k, hk, rfl, hb⟩ := hrel
    by_cases hlt : k < 4
    · obtain ⟨hn, h0, h3⟩ := bads_ok k hlt
      obtain ⟨g, p, m, d, hc, hm, hI, hd⟩ := HLL.out.at2 hb rfl (i := k) hlt h0
      have haa : (⟨q, 0, none⟩ : Addr).add k = ⟨q, k, none⟩ := by rw [addr_add, Nat.zero_add]
      have hab : (⟨g, p, none⟩ : Addr).add 0 = ⟨g, p, none⟩ := by rw [addr_add, Nat.add_zero]
      have HN := Lib.hid hn
      have HI := Lib.hid hI
      have HC := Lib.hid (fun (a : World) (h : Below wr.heap.size wr a) => show a.cell? ⟨q, k, none⟩ = some (.slice (some ⟨g, p, none⟩) m d) ∧ a.cell? ⟨g, p, none⟩ = some (.int .i64 (bads[k][0]'h0)) from ⟨(h.cell (p := ⟨q, k, none⟩) (World.block_lt_of_cell? wr _ hc)).trans hc, (h.cell (p := ⟨g, p, none⟩) (World.block_lt_of_cell? wr _ hd)).trans hd⟩)
      generalize hbl : bads[k] = bl at *
      clear hn hI hbl hd
      generalize bl[0]'h0 = y at *
      have hk0 : (0 : Int) ≤ (k : Int) := by omega
      have hk1 : (k : Int) < 4 := by omega
      have hm1 : (0 : Int) < (m : Int) := by omega
      clear h0
      go_wp2_with fail
      refine (badPut HI.out HN.out h3).mono ?_
      rintro e u1 ⟨v1, rfl, hh⟩
      have hu1 := hh
      clear hh hc
      have hc := (HC.out _ hu1).1
      go_wp2_with fail
      refine (badCut (HI.out.below hu1) HN.out).mono ?_
      rintro e u2 ⟨v2, rfl, hh⟩
      have hu2 := nx hu1 hh
      clear hh hc
      have hc := (HC.out _ hu2).1
      go_wp2_with fail
      refine (badAnd (HI.out.below hu2) HN.out).mono ?_
      rintro e u3 ⟨v3, rfl, hh⟩
      have hu3 := nx hu2 hh
      clear hh hc
      have hc := (HC.out _ hu3).1
      have hc2 := (HC.out _ (nx hu3 ((bel0 u3).alloc (Nat.le_refl _) (.cells #[.int .i64 1] 3)))).1
      go_wp2_with fail
      refine (badOr (HI.out.below hu3) HN.out h3).mono ?_
      rintro e u4 ⟨v4, rfl, hh⟩
      have hu4 := nx hu3 hh
      clear hh hc
      have hc := (HC.out _ hu4).1
      clear hc2
      go_wp2_with fail
      refine (badBut1 (HI.out.below hu4) HN.out).mono ?_
      rintro e u5 ⟨v5, rfl, hh⟩
      have hu5 := nx hu4 hh
      clear hh hc
      have hc := (HC.out _ hu5).1
      go_wp2_with fail
      refine (badBut2 (HI.out.below hu5) HN.out).mono ?_
      rintro e u6 ⟨v6, rfl, hh⟩
      have hu6 := nx hu5 hh
      clear hh hc
      have hc := (HC.out _ hu6).1
      go_wp2_with fail
      refine (badPage (HI.out.below hu6) HN.out).mono ?_
      rintro e u7 ⟨v7, rfl, hh⟩
      have hu7 := nx hu6 hh
      clear hh hc
      have hc := (HC.out _ hu7).1
      go_wp2_with fail
      have HI7 := Lib.hid (HI.out.below hu7)
      have AK := Lib.hid (fun (a : World) (h : Below u7.heap.size u7 a) => And.intro h (HC.out a (nx hu7 h)))
      clear hc
      refine wp_region_held_drew (S := (fun w' => Below u7.heap.size u7 w' ∧ w'.cell? ⟨q, k, none⟩ = some (.slice (some ⟨g, p, none⟩) m d) ∧ w'.cell? ⟨g, p, none⟩ = some (.int .i64 y))) (by kernel_rfl) (AK.out _ (bel0 _).drew) (fun hHeld => ?_)
      refine' take_val (i := 0) (d := 103) (v := _) rfl rfl (by kernel_rfl) (by kernel_rfl) (by kernel_rfl) (fun _ _ _ h => h) (by rfl) ?_ (by assumption) ?_
      rotate_left
      · (intro w hSw; (try dsimp only at hSw); go_simp; (try with_reducible rfl))
      (try simp only [Act.put, List.setIfInBounds_toArray, List.set_cons_zero, List.set_cons_succ])
      refine' take_val (i := 1) (d := 104) (v := _) rfl rfl (by kernel_rfl) (by kernel_rfl) (by kernel_rfl) (fun _ _ _ h => h) (by rfl) ?_ (by assumption) ?_
      rotate_left
      · (intro w hSw; (try dsimp only at hSw); go_simp; (try with_reducible rfl))
      (try simp only [Act.put, List.setIfInBounds_toArray, List.set_cons_zero, List.set_cons_succ])
      refine' take_val (i := 2) (d := 105) (v := _) rfl rfl (by kernel_rfl) (by kernel_rfl) (by kernel_rfl) (fun _ _ _ h => h) (by rfl) ?_ (by assumption) ?_
      rotate_left
      · (intro w hSw; (try dsimp only at hSw); go_simp; (try with_reducible rfl))
      (try simp only [Act.put, List.setIfInBounds_toArray, List.set_cons_zero, List.set_cons_succ])
      refine' take_val (i := 3) (d := 106) (v := _) rfl rfl (by kernel_rfl) (by kernel_rfl) (by kernel_rfl) (fun _ _ _ h => h) (by rfl) ?_ (by assumption) ?_
      rotate_left
      · (intro w hSw; (try dsimp only at hSw); go_simp; (try with_reducible rfl))
      (try simp only [Act.put, List.setIfInBounds_toArray, List.set_cons_zero, List.set_cons_succ])
      refine wpAnyH_ready (rs := [4]) (by kernel_rfl) (by simp) ?_
      refine AllReadyH.cons rfl (fun K hK => ?_) AllReadyH.nil
      go_simp
      go_at_call 27
      refine (badCheck (HI7.out.below (And.left (b := _) hHeld)) HN.out).mono ?_
      rintro r wb ⟨rfl, hbb⟩
      go_wp2_with fail
      refine hK.out _ _ (AK.out _ (nx (And.left (b := _) hHeld) hbb)) (fun hHeld => ?_)
      clear hK K
      (try simp only [Act.put, List.setIfInBounds_toArray, List.set_cons_zero, List.set_cons_succ])
      refine' take_val (i := 5) (d := 108) (v := _) rfl rfl (by kernel_rfl) (by kernel_rfl) (by kernel_rfl) (fun _ _ _ h => h) (by rfl) ?_ (by assumption) ?_
      rotate_left
      · (intro w hSw; (try dsimp only at hSw); go_simp; (try with_reducible rfl))
      (try simp only [Act.put, List.setIfInBounds_toArray, List.set_cons_zero, List.set_cons_succ])
      refine' take_val (i := 6) (d := 109) (v := _) rfl rfl (by kernel_rfl) (by kernel_rfl) (by kernel_rfl) (fun _ _ _ h => h) (by rfl) ?_ (by assumption) ?_
      rotate_left
      · (intro w hSw; (try dsimp only at hSw); go_simp; (try with_reducible rfl))
      (try simp only [Act.put, List.setIfInBounds_toArray, List.set_cons_zero, List.set_cons_succ])
      refine' take_val (i := 7) (d := 110) (v := _) rfl rfl (by kernel_rfl) (by kernel_rfl) (by kernel_rfl) (fun _ _ _ h => h) (by rfl) ?_ (by assumption) ?_
      rotate_left
      · (intro w hSw; (try dsimp only at hSw); go_simp; (try with_reducible rfl))
      (try simp only [Act.put, List.setIfInBounds_toArray, List.set_cons_zero, List.set_cons_succ])
      refine' take_val (i := 8) (d := 111) (v := _) rfl rfl (by kernel_rfl) (by kernel_rfl) (by kernel_rfl) (fun _ _ _ h => h) (by rfl) ?_ (by assumption) ?_
      rotate_left
      · (intro w hSw; (try dsimp only at hSw); go_simp; (try with_reducible rfl))
      (try simp only [Act.put, List.setIfInBounds_toArray, List.set_cons_zero, List.set_cons_succ])
      refine' take_val (i := 9) (d := 112) (v := _) rfl rfl (by kernel_rfl) (by kernel_rfl) (by kernel_rfl) (fun _ _ _ h => h) (by rfl) ?_ (by assumption) ?_
      rotate_left
      · (intro w hSw; (try dsimp only at hSw); go_simp; (try with_reducible rfl))
      (try simp only [Act.put, List.setIfInBounds_toArray, List.set_cons_zero, List.set_cons_succ])
      refine' take_val (i := 10) (d := 113) (v := _) rfl rfl (by kernel_rfl) (by kernel_rfl) (by kernel_rfl) (fun _ _ _ h => h) (by rfl) ?_ (by assumption) ?_
      rotate_left
      · (intro w hSw; (try dsimp only at hSw); go_simp; (try with_reducible rfl))
      (try simp only [Act.put, List.setIfInBounds_toArray, List.set_cons_zero, List.set_cons_succ])
      refine' take_val (i := 11) (d := 114) (v := _) rfl rfl (by kernel_rfl) (by kernel_rfl) (by kernel_rfl) (fun _ _ _ h => h) (by rfl) ?_ (by assumption) ?_
      rotate_left
      · (intro w hSw; (try dsimp only at hSw); go_simp; (try with_reducible rfl))
      (try simp only [Act.put, List.setIfInBounds_toArray, List.set_cons_zero, List.set_cons_succ])
      refine' take_val (i := 12) (d := 115) (v := _) rfl rfl (by kernel_rfl) (by kernel_rfl) (by kernel_rfl) (fun _ _ _ h => h) (by rfl) ?_ (by assumption) ?_
      rotate_left
      · (intro w hSw; (try dsimp only at hSw); go_simp; (try with_reducible rfl))
      (try simp only [Act.put, List.setIfInBounds_toArray, List.set_cons_zero, List.set_cons_succ])
      refine' take_val (i := 13) (d := 116) (v := _) rfl rfl (by kernel_rfl) (by kernel_rfl) (by kernel_rfl) (fun _ _ _ h => h) (by rfl) ?_ (by assumption) ?_
      rotate_left
      · (intro w hSw; (try dsimp only at hSw); go_simp; (try with_reducible rfl))
      (try simp only [Act.put, List.setIfInBounds_toArray, List.set_cons_zero, List.set_cons_succ])
      refine' take_val (i := 14) (d := 117) (v := _) rfl rfl (by kernel_rfl) (by kernel_rfl) (by kernel_rfl) (fun _ _ _ h => h) (by rfl) ?_ (by assumption) ?_
      rotate_left
      · (intro w hSw; (try dsimp only at hSw); go_simp; (try with_reducible rfl))
      (try simp only [Act.put, List.setIfInBounds_toArray, List.set_cons_zero, List.set_cons_succ])
      refine' take_val (i := 15) (d := 118) (v := _) rfl rfl (by kernel_rfl) (by kernel_rfl) (by kernel_rfl) (fun _ _ _ h => h) (by rfl) ?_ (by assumption) ?_
      rotate_left
      · (intro w hSw; (try dsimp only at hSw); go_simp; (try with_reducible rfl))
      (try simp only [Act.put, List.setIfInBounds_toArray, List.set_cons_zero, List.set_cons_succ])
      refine' take_val (i := 16) (d := 119) (v := _) rfl rfl (by kernel_rfl) (by kernel_rfl) (by kernel_rfl) (fun _ _ _ h => h) (by rfl) ?_ (by assumption) ?_
      rotate_left
      · (intro w hSw; (try dsimp only at hSw); go_simp; (try with_reducible rfl))
      (try simp only [Act.put, List.setIfInBounds_toArray, List.set_cons_zero, List.set_cons_succ])
      refine' take_val (i := 17) (d := 120) (v := _) rfl rfl (by kernel_rfl) (by kernel_rfl) (by kernel_rfl) (fun _ _ _ h => h) (by rfl) ?_ (by assumption) ?_
      rotate_left
      · (intro w hSw; (try dsimp only at hSw); go_simp; (try with_reducible rfl))
      (try simp only [Act.put, List.setIfInBounds_toArray, List.set_cons_zero, List.set_cons_succ])
      refine' take_val (i := 18) (d := 121) (v := _) rfl rfl (by kernel_rfl) (by kernel_rfl) (by kernel_rfl) (fun _ _ _ h => h) (by rfl) ?_ (by assumption) ?_
      rotate_left
      · (intro w hSw; (try dsimp only at hSw); go_simp; (try with_reducible rfl))
      (try simp only [Act.put, List.setIfInBounds_toArray, List.set_cons_zero, List.set_cons_succ])
      refine' take_val (i := 19) (d := 122) (v := _) rfl rfl (by kernel_rfl) (by kernel_rfl) (by kernel_rfl) (fun _ _ _ h => h) (by rfl) ?_ (by assumption) ?_
      rotate_left
      · (intro w hSw; (try dsimp only at hSw); go_simp; (try with_reducible rfl))
      (try simp only [Act.put, List.setIfInBounds_toArray, List.set_cons_zero, List.set_cons_succ])
      refine' take_val (i := 20) (d := 123) (v := _) rfl rfl (by kernel_rfl) (by kernel_rfl) (by kernel_rfl) (fun _ _ _ h => h) (by rfl) ?_ (by assumption) ?_
      rotate_left
      · (intro w hSw; (try dsimp only at hSw); go_simp; (try with_reducible rfl))
      (try simp only [Act.put, List.setIfInBounds_toArray, List.set_cons_zero, List.set_cons_succ])
      refine' take_val (i := 21) (d := 124) (v := _) rfl rfl (by kernel_rfl) (by kernel_rfl) (by kernel_rfl) (fun _ _ _ h => h) (by rfl) ?_ (by assumption) ?_
      rotate_left
      · (intro w hSw; (try dsimp only at hSw); go_simp; (try with_reducible rfl))
      (try simp only [Act.put, List.setIfInBounds_toArray, List.set_cons_zero, List.set_cons_succ])
      refine' take_val (i := 22) (d := 125) (v := _) rfl rfl (by kernel_rfl) (by kernel_rfl) (by kernel_rfl) (fun _ _ _ h => h) (by rfl) ?_ (by assumption) ?_
      rotate_left
      · (intro w hSw; (try dsimp only at hSw); go_simp; (try with_reducible rfl))
      (try simp only [Act.put, List.setIfInBounds_toArray, List.set_cons_zero, List.set_cons_succ])
      refine' take_val (i := 23) (d := 126) (v := _) rfl rfl (by kernel_rfl) (by kernel_rfl) (by kernel_rfl) (fun _ _ _ h => h) (by rfl) ?_ (by assumption) ?_
      rotate_left
      · (intro w hSw; (try dsimp only at hSw); go_simp; (try with_reducible rfl))
      (try simp only [Act.put, List.setIfInBounds_toArray, List.set_cons_zero, List.set_cons_succ])
      refine' take_val (i := 24) (d := 127) (v := _) rfl rfl (by kernel_rfl) (by kernel_rfl) (by kernel_rfl) (fun _ _ _ h => h) (by rfl) ?_ (by assumption) ?_
      rotate_left
      · (intro w hSw; (try dsimp only at hSw); go_simp; (try with_reducible rfl))
      (try simp only [Act.put, List.setIfInBounds_toArray, List.set_cons_zero, List.set_cons_succ])
      refine' take_val (i := 25) (d := 128) (v := _) rfl rfl (by kernel_rfl) (by kernel_rfl) (by kernel_rfl) (fun _ _ _ h => h) (by rfl) ?_ (by assumption) ?_
      rotate_left
      · (intro w hSw; (try dsimp only at hSw); go_simp; (try with_reducible rfl))
      (try simp only [Act.put, List.setIfInBounds_toArray, List.set_cons_zero, List.set_cons_succ])
      refine' take_val (i := 26) (d := 129) (v := _) rfl rfl (by kernel_rfl) (by kernel_rfl) (by kernel_rfl) (fun _ _ _ h => h) (by rfl) ?_ (by assumption) ?_
      rotate_left
      · (intro w hSw; (try dsimp only at hSw); go_simp; (try with_reducible rfl))
      (try simp only [Act.put, List.setIfInBounds_toArray, List.set_cons_zero, List.set_cons_succ])
      refine' take_val (i := 27) (d := 130) (v := _) rfl rfl (by kernel_rfl) (by kernel_rfl) (by kernel_rfl) (fun _ _ _ h => h) (by rfl) ?_ (by assumption) ?_
      rotate_left
      · (intro w hSw; (try dsimp only at hSw); go_simp; (try with_reducible rfl))
      (try simp only [Act.put, List.setIfInBounds_toArray, List.set_cons_zero, List.set_cons_succ])
      refine' take_val (i := 28) (d := 131) (v := _) rfl rfl (by kernel_rfl) (by kernel_rfl) (by kernel_rfl) (fun _ _ _ h => h) (by rfl) ?_ (by assumption) ?_
      rotate_left
      · (intro w hSw; (try dsimp only at hSw); go_simp; (try with_reducible rfl))
      (try simp only [Act.put, List.setIfInBounds_toArray, List.set_cons_zero, List.set_cons_succ])
      refine' take_val (i := 29) (d := 132) (v := _) rfl rfl (by kernel_rfl) (by kernel_rfl) (by kernel_rfl) (fun _ _ _ h => h) (by rfl) ?_ (by assumption) ?_
      rotate_left
      · (intro w hSw; (try dsimp only at hSw); go_simp; (try with_reducible rfl))
      (try simp only [Act.put, List.setIfInBounds_toArray, List.set_cons_zero, List.set_cons_succ])
      refine' take_val (i := 30) (d := 133) (v := _) rfl rfl (by kernel_rfl) (by kernel_rfl) (by kernel_rfl) (fun _ _ _ h => h) (by rfl) ?_ (by assumption) ?_
      rotate_left
      · (intro w hSw; (try dsimp only at hSw); go_simp; (try with_reducible rfl))
      (try simp only [Act.put, List.setIfInBounds_toArray, List.set_cons_zero, List.set_cons_succ])
      refine' take_val (i := 31) (d := 134) (v := _) rfl rfl (by kernel_rfl) (by kernel_rfl) (by kernel_rfl) (fun _ _ _ h => h) (by rfl) ?_ (by assumption) ?_
      rotate_left
      · (intro w hSw; (try dsimp only at hSw); go_simp; (try with_reducible rfl))
      (try simp only [Act.put, List.setIfInBounds_toArray, List.set_cons_zero, List.set_cons_succ])
      refine' take_val (i := 32) (d := 135) (v := _) rfl rfl (by kernel_rfl) (by kernel_rfl) (by kernel_rfl) (fun _ _ _ h => h) (by rfl) ?_ (by assumption) ?_
      rotate_left
      · (intro w hSw; (try dsimp only at hSw); go_simp; (try with_reducible rfl))
      (try simp only [Act.put, List.setIfInBounds_toArray, List.set_cons_zero, List.set_cons_succ])
      refine' take_val (i := 33) (d := 136) (v := _) rfl rfl (by kernel_rfl) (by kernel_rfl) (by kernel_rfl) (fun _ _ _ h => h) (by rfl) ?_ (by assumption) ?_
      rotate_left
      · (intro w hSw; (try dsimp only at hSw); go_simp; (try with_reducible rfl))
      (try simp only [Act.put, List.setIfInBounds_toArray, List.set_cons_zero, List.set_cons_succ])
      refine' take_val (i := 34) (d := 137) (v := _) rfl rfl (by kernel_rfl) (by kernel_rfl) (by kernel_rfl) (fun _ _ _ h => h) (by rfl) ?_ (by assumption) ?_
      rotate_left
      · (intro w hSw; (try dsimp only at hSw); go_simp; (try with_reducible rfl))
      (try simp only [Act.put, List.setIfInBounds_toArray, List.set_cons_zero, List.set_cons_succ])
      refine' take_val (i := 35) (d := 138) (v := _) rfl rfl (by kernel_rfl) (by kernel_rfl) (by kernel_rfl) (fun _ _ _ h => h) (by rfl) ?_ (by assumption) ?_
      rotate_left
      · (intro w hSw; (try dsimp only at hSw); go_simp; (try with_reducible rfl))
      (try simp only [Act.put, List.setIfInBounds_toArray, List.set_cons_zero, List.set_cons_succ])
      refine' take_val (i := 36) (d := 139) (v := _) rfl rfl (by kernel_rfl) (by kernel_rfl) (by kernel_rfl) (fun _ _ _ h => h) (by rfl) ?_ (by assumption) ?_
      rotate_left
      · (intro w hSw; (try dsimp only at hSw); go_simp; (try with_reducible rfl))
      (try simp only [Act.put, List.setIfInBounds_toArray, List.set_cons_zero, List.set_cons_succ])
      refine' take_val (i := 37) (d := 140) (v := _) rfl rfl (by kernel_rfl) (by kernel_rfl) (by kernel_rfl) (fun _ _ _ h => h) (by rfl) ?_ (by assumption) ?_
      rotate_left
      · (intro w hSw; (try dsimp only at hSw); go_simp; (try with_reducible rfl))
      (try simp only [Act.put, List.setIfInBounds_toArray, List.set_cons_zero, List.set_cons_succ])
      refine' take_val (i := 38) (d := 141) (v := _) rfl rfl (by kernel_rfl) (by kernel_rfl) (by kernel_rfl) (fun _ _ _ h => h) (by rfl) ?_ (by assumption) ?_
      rotate_left
      · (intro w hSw; (try dsimp only at hSw); go_simp; (try with_reducible rfl))
      (try simp only [Act.put, List.setIfInBounds_toArray, List.set_cons_zero, List.set_cons_succ])
      refine' take_val (i := 39) (d := 142) (v := _) rfl rfl (by kernel_rfl) (by kernel_rfl) (by kernel_rfl) (fun _ _ _ h => h) (by rfl) ?_ (by assumption) ?_
      rotate_left
      · (intro w hSw; (try dsimp only at hSw); go_simp; (try with_reducible rfl))
      (try simp only [Act.put, List.setIfInBounds_toArray, List.set_cons_zero, List.set_cons_succ])
      refine' take_val (i := 40) (d := 143) (v := _) rfl rfl (by kernel_rfl) (by kernel_rfl) (by kernel_rfl) (fun _ _ _ h => h) (by rfl) ?_ (by assumption) ?_
      rotate_left
      · (intro w hSw; (try dsimp only at hSw); go_simp; (try with_reducible rfl))
      (try simp only [Act.put, List.setIfInBounds_toArray, List.set_cons_zero, List.set_cons_succ])
      refine' take_val (i := 41) (d := 144) (v := _) rfl rfl (by kernel_rfl) (by kernel_rfl) (by kernel_rfl) (fun _ _ _ h => h) (by rfl) ?_ (by assumption) ?_
      rotate_left
      · (intro w hSw; (try dsimp only at hSw); go_simp; (try with_reducible rfl))
      (try simp only [Act.put, List.setIfInBounds_toArray, List.set_cons_zero, List.set_cons_succ])
      refine' take_val (i := 42) (d := 145) (v := _) rfl rfl (by kernel_rfl) (by kernel_rfl) (by kernel_rfl) (fun _ _ _ h => h) (by rfl) ?_ (by assumption) ?_
      rotate_left
      · (intro w hSw; (try dsimp only at hSw); go_simp; (try with_reducible rfl))
      (try simp only [Act.put, List.setIfInBounds_toArray, List.set_cons_zero, List.set_cons_succ])
      refine' take_val (i := 43) (d := 146) (v := _) rfl rfl (by kernel_rfl) (by kernel_rfl) (by kernel_rfl) (fun _ _ _ h => h) (by rfl) ?_ (by assumption) ?_
      rotate_left
      · (intro w hSw; (try dsimp only at hSw); go_simp; (try with_reducible rfl))
      (try simp only [Act.put, List.setIfInBounds_toArray, List.set_cons_zero, List.set_cons_succ])
      refine' take_val (i := 44) (d := 147) (v := _) rfl rfl (by kernel_rfl) (by kernel_rfl) (by kernel_rfl) (fun _ _ _ h => h) (by rfl) ?_ (by assumption) ?_
      rotate_left
      · (intro w hSw; (try dsimp only at hSw); go_simp; (try with_reducible rfl))
      (try simp only [Act.put, List.setIfInBounds_toArray, List.set_cons_zero, List.set_cons_succ])
      refine wpAnyH_ready (rs := [45]) (by kernel_rfl) (by simp) ?_
      refine AllReadyH.cons rfl (fun K hK => ?_) AllReadyH.nil
      go_simp
      go_at_call 29
      refine (badHas y (HI7.out.below (And.left (b := _) hHeld)) HN.out).mono ?_
      rintro r wb ⟨rfl, hbb⟩
      go_wp2_with fail
      refine hK.out _ _ (AK.out _ (nx (And.left (b := _) hHeld) hbb)) (fun hHeld => ?_)
      clear hK K
      (try simp only [Act.put, List.setIfInBounds_toArray, List.set_cons_zero, List.set_cons_succ])
      refine' take_val (i := 46) (d := 149) (v := _) rfl rfl (by kernel_rfl) (by kernel_rfl) (by kernel_rfl) (fun _ _ _ h => h) (by rfl) ?_ (by assumption) ?_
      rotate_left
      · (intro w hSw; (try dsimp only at hSw); go_simp; (try with_reducible rfl))
      (try simp only [Act.put, List.setIfInBounds_toArray, List.set_cons_zero, List.set_cons_succ])
      refine wpAnyH_done (by kernel_rfl) ?_ _
      have hbz := nx hu7 (And.left (b := _) hHeld)
      go_wp2_with fail
      exact ⟨⟨k + 1, by omega, by go_num, nx hb hbz⟩, by simp [intOf]; omega⟩
    · obtain rfl : k = 4 := by omega
      have hbw0 := nx hbw hb
      clear hb hbw HLL hlt hk
      have P1 := Lib.hid (show andP [] = ([], 0) from by decide +kernel)
      have P2 := Lib.hid (show orP [] = ([], 0) from or_nil)
      have P3 := Lib.hid (show pageP [] 0 0 = ([], 0, 9) from by decide +kernel)
      have P4 := Lib.hid (show pageP [0, 9223372036854775807] (-9223372036854775808) 9223372036854775807 = ([0, 9223372036854775807], 0, 0) from by decide +kernel)
      have P5 := Lib.hid (show cutP [0, 1] (-1) = ([0, 1], 0) from by decide +kernel)
      have P6 := Lib.hid (show putP [5] 9223372036854775807 = ([5, 9223372036854775807], 0) from by decide +kernel)
      have P7 := Lib.hid (show chkI [] = 0 from by decide +kernel)
      go_wp2_with fail
      refine (And_any (LL.nothing _)).mono ?_
      intro e w1 hh
      rw [P1.out] at hh
      obtain ⟨A1, n1, c1, rfl, hI, _, hq⟩ := hh.open (fitD (by decide +kernel)) (by simp)
      obtain rfl : n1 = 0 := hI.len
      have hbw1 := nx hbw0 hq
      clear hI hq hh
      go_wp2_with fail
      refine (Or_any (LL.nothing _) (by simp)).mono ?_
      intro e w2 hh
      rw [P2.out] at hh
      obtain ⟨A2, n2, c2, rfl, hI, _, hq⟩ := hh.open (fitD (by decide +kernel)) (by simp)
      obtain rfl : n2 = 0 := hI.len
      have hbw2 := nx hbw1 hq
      clear hI hq hh
      go_wp2_with fail
      refine (Page_any 0 0 ⟨by omega, by omega⟩ (IL.empty _)).mono ?_
      intro e w3 hh
      rw [P3.out] at hh
      obtain ⟨A3, n3, c3, rfl, hI, _, hq⟩ := hh.open (fitD (by decide +kernel)) (by simp)
      have hbw3 := nx hbw2 hq
      clear hI hq hh
      go_wp2_with fail
      refine (Page_any (-9223372036854775808) 9223372036854775807 ⟨by omega, by omega⟩ (IL.new w3 [0, 9223372036854775807] 3 (0, 0) (fitD (by decide +kernel)) (by simp))).mono ?_
      intro e w4 hh
      rw [P4.out] at hh
      obtain ⟨A4, n4, c4, rfl, hI, _, hq⟩ := hh.open (fitD (by decide +kernel)) (by simp)
      obtain rfl : n4 = 2 := hI.len
      have hbw4 := nx hbw3 (nx ((bel0 w3).alloc (Nat.le_refl _) _) hq)
      clear hI hq hh
      go_wp2_with fail
      refine (Cut_any (-1) (IL.new w4 [0, 1] 3 (0, 0) (fitD (by decide +kernel)) (by simp))).mono ?_
      intro e w5 hh
      rw [P5.out] at hh
      obtain ⟨A5, n5, c5, rfl, hI, _, hq⟩ := hh.open (fitD (by decide +kernel)) (by simp)
      have R5 := Lib.hid hI
      have hbw5 := nx hbw4 (nx ((bel0 w4).alloc (Nat.le_refl _) _) hq)
      clear hI hq hh
      go_wp2_with fail
      refine (Put_any 9223372036854775807 ⟨by omega, by omega⟩ (IL.new w5 [5] 3 (0, 0) (fitD (by decide +kernel)) (by simp)) (by simp)).mono ?_
      intro e w6 hh
      rw [P6.out] at hh
      obtain ⟨A6, n6, c6, rfl, hI, _, hq⟩ := hh.open (fitD (by decide +kernel)) (by simp)
      have R6 := Lib.hid hI
      have hb6 := nx ((bel0 w5).alloc (Nat.le_refl _) _) hq
      have S5 := Lib.hid (R5.out.below hb6)
      have hbw6 := nx hbw5 hb6
      clear hI hq hh hb6 R5
      go_wp2_with fail
      refine (works21_any _).mono ?_
      rintro e w7 ⟨rfl, hq⟩
      have S6 := Lib.hid (R6.out.below hq)
      have T5 := Lib.hid (S5.out.below hq)
      have hbw7 := nx hbw6 hq
      clear hq R6 S5
      go_wp2_with fail
      refine (is21_any (T5.out.below ((bel0 w7).alloc (Nat.le_refl _) _)) (IL.new w7 [0, 1] 3 (0, 0) (fitD (by decide +kernel)) (by simp)) rfl).mono ?_
      rintro e w8 ⟨rfl, hq⟩
      have hb8 := nx ((bel0 w7).alloc (Nat.le_refl _) _) hq
      have T6 := Lib.hid (S6.out.below hb8)
      have hbw8 := nx hbw7 hb8
      clear hq hb8 S6 T5
      go_wp2_with fail
      refine (is21_any (T6.out.below ((bel0 w8).alloc (Nat.le_refl _) _)) (IL.new w8 [5, 9223372036854775807] 3 (0, 0) (fitD (by decide +kernel)) (by simp)) rfl).mono ?_
      rintro e w9 ⟨rfl, hq⟩
      have hbw9 := nx hbw8 (nx ((bel0 w8).alloc (Nat.le_refl _) _) hq)
      clear hq T6
      go_wp2_with fail
      refine (checkI_any (IL.empty _)).mono ?_
      rw [P7.out]
      rintro e w10 ⟨rfl, hq⟩
      go_wp2_with fail
      go_ret
      exact ⟨rfl, nx hbw9 hq⟩
end Go.Proofs.Ythikhoamodcggaa
