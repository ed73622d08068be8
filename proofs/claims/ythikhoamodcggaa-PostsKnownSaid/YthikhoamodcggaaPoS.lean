/- The document's one, Put, But, Cut, Has, Page of lists of numbers: contracts. No conditions. -/
import Derived.Test.YthikhoamodcggaaPoR
set_option linter.unusedSimpArgs false
set_option linter.unusedVariables false
namespace Go.Proofs.Ythikhoamodcggaa
open Go.RowKit

theorem chkI_cases (l : List Int) : (Inc l ∧ chkI l = 0) ∨ (¬ Inc l ∧ chkI l = 2) := by
  unfold chkI
  by_cases h : Inc l
  · exact .inl ⟨h, if_pos h⟩
  · exact .inr ⟨h, if_neg h⟩
def oneL (x : Int) : List Int := if x < 0 then [] else [x]
theorem inc_one (x : Int) : Inc (oneL x) := by
  unfold oneL
  split
  · exact inc_nil
  · exact ⟨by intro y hy; simp only [List.mem_singleton] at hy; omega, List.pairwise_singleton _ _⟩
theorem ins_eq {l : List Int} (h : Inc l) (x : Int) : insI l x = l.filter (· < x) ++ x :: l.filter (fun y => !decide (y < x)) := by
  unfold insI
  rw [(countP_take h x).1, (countP_take h x).2]
theorem ins_mem {l : List Int} (h : Inc l) (x z : Int) : z ∈ insI l x ↔ z ∈ l ∨ z = x := by
  rw [ins_eq h, List.mem_append, List.mem_cons, List.mem_filter, List.mem_filter]
  constructor
  · rintro (⟨h, _⟩ | h | ⟨h, _⟩)
    · exact .inl h
    · exact .inr h
    · exact .inl h
  · rintro (h | h)
    · by_cases hz : z < x
      · exact .inl ⟨h, decide_eq_true hz⟩
      · exact .inr (.inr ⟨h, by simp; omega⟩)
    · exact .inr (.inl h)
theorem ins_inc {l : List Int} (h : Inc l) {x : Int} (hx : 0 ≤ x) (hn : ¬ x ∈ l) : Inc (insI l x) := by
  refine ⟨fun z hz => ?_, ?_⟩
  · rcases (ins_mem h x z).1 hz with hz | rfl
    · exact h.1 z hz
    · exact hx
  · rw [ins_eq h, List.pairwise_append]
    refine ⟨h.2.sublist List.filter_sublist, List.pairwise_cons.2 ⟨fun y hy => ?_, h.2.sublist List.filter_sublist⟩, fun a ha b hb => ?_⟩
    · have h1 := List.mem_filter.1 hy
      have h2 : ¬ y < x := by simpa using h1.2
      have h3 : ¬ y = x := fun e => hn (e ▸ h1.1)
      omega
    · have h1 : a < x := by simpa using (List.mem_filter.1 ha).2
      rcases List.mem_cons.1 hb with rfl | hb
      · exact h1
      · have h2 : ¬ b < x := by simpa using (List.mem_filter.1 hb).2
        omega
theorem put_mrg {l : List Int} (h : Inc l) {x : Int} (hx : 0 ≤ x) : mrg l [x] = if x ∈ l then l else insI l x := by
  have hs : Inc [x] := ⟨by intro y hy; simp only [List.mem_singleton] at hy; omega, List.pairwise_singleton _ _⟩
  split
  · rename_i hm
    refine inc_ext (mrg_inc _ _ h hs) h (fun z => ?_)
    rw [mrg_mem, List.mem_singleton]
    constructor
    · rintro (h | rfl); exact h; exact hm
    · exact fun h => .inl h
  · rename_i hm
    refine inc_ext (mrg_inc _ _ h hs) (ins_inc h hx hm) (fun z => ?_)
    rw [mrg_mem, List.mem_singleton, ins_mem h]

set_option maxHeartbeats 4000000 in
theorem refone_any (x : Int) (hx : I64 x) (w : World) :
    Calls Try.prog 48 #[.int .i64 x] w fun e w' => (∃ A n c, e = .returned (.slice A n c) ∧ IL w' A n c (oneL x)) ∧ Below w.heap.size w w' := by
  unfold oneL
  by_cases h : x < 0
  · rw [if_pos h]
    go_enter Try.func48, Try.ntmps48
    go_wp2
    go_ret
    exact ⟨⟨_, _, _, rfl, IL.empty _⟩, bel0 w⟩
  · rw [if_neg h]
    have HN := Lib.hid (IL.new w [x] 3 (0, 0) (by intro z hz; simp at hz; subst hz; exact hx) (by simp))
    clear hx
    go_enter Try.func48, Try.ntmps48
    go_wp2
    go_ret
    exact ⟨⟨_, _, _, rfl, HN.out⟩, (bel0 w).alloc (Nat.le_refl _) _⟩

set_option maxHeartbeats 8000000 in
theorem refPut_any {A : Option Addr} {n c : Nat} {l : List Int} {w : World} (x : Int) (hx : I64 x) (h : IL w A n c l) (hll : l.length < 17592186044416) :
    Calls Try.prog 23 #[.slice A n c, .int .i64 x] w fun e w' => TwoI w w' e (putP l x).1 (putP l x).2 := by
  have HL := Lib.hid h
  have HM := Lib.hid (refCheckI_any h)
  have HX := Lib.hid hx
  have hx1 := hx.1
  have hx2 := hx.2
  clear h hx
  unfold putP
  rcases chkI_cases l with ⟨hi, hc⟩ | ⟨hi, hc⟩
  · rw [if_pos hi]
    rw [hc] at HM
    by_cases hneg : x < 0
    · rw [if_pos hneg]
      clear hi hc
      go_enter Try.func23, Try.ntmps23
      go_wp2_with fail
      refine HM.out.mono ?_
      rintro e w1 ⟨rfl, hb1⟩
      go_wp2_with fail
      go_ret2
      exact ⟨_, rfl, World.ownsRow_nil _ _ _ _, hb1⟩
    · rw [if_neg hneg]
      have HP := Lib.hid (put_mrg hi (x := x) (by omega))
      have hpp : (if x ∈ l then (l, (0 : Int)) else (insI l x, 0)) = (mrg l [x], 0) := by rw [HP.out]; split <;> rfl
      rw [hpp]
      have HLL := Lib.hid hll
      clear hi hc hpp HP hll
      go_enter Try.func23, Try.ntmps23
      go_wp2_with fail
      refine HM.out.mono ?_
      rintro e w1 ⟨rfl, hb1⟩
      have HN := Lib.hid (IL.new w1 [x] 3 (0, 0) (by intro z hz; simp at hz; subst hz; exact HX.out) (by simp))
      have hba : Below w1.heap.size w1 (w1.alloc (.cells (iv [x]).toArray 3)) := (bel0 w1).alloc (Nat.le_refl _) _
      have HO := Lib.hid (refor_any (HL.out.below (nx hb1 hba)) HN.out (by have := HLL.out; simp; omega))
      have hz1 := hb1.size
      go_wp2_with fail
      refine HO.out.mono ?_
      rintro e w2 ⟨v, rfl, ho, hb2⟩
      have HO2 := Lib.hid ho
      clear ho
      go_wp2_with fail
      go_ret2
      exact ⟨v, rfl, ownsRow_base HO2.out (by rw [World.size_alloc]; omega), nx (nx hb1 hba) hb2⟩
  · rw [if_neg hi]
    rw [hc] at HM
    clear hi hc
    go_enter Try.func23, Try.ntmps23
    go_wp2_with fail
    refine HM.out.mono ?_
    rintro e w1 ⟨rfl, hb1⟩
    go_wp2_with fail
    go_ret2
    exact ⟨_, rfl, World.ownsRow_nil _ _ _ _, hb1⟩

set_option maxHeartbeats 8000000 in
theorem refBut_any {A B : Option Addr} {n c m d : Nat} {l k : List Int} {w : World} (h : IL w A n c l) (h2 : IL w B m d k) :
    Calls Try.prog 16 #[.slice A n c, .slice B m d] w fun e w' => TwoI w w' e (butP l k).1 (butP l k).2 := by
  have HL := Lib.hid h
  have HK := Lib.hid h2
  have HM := Lib.hid (refCheckI_any h)
  have HM2 := Lib.hid (fun (w' : World) (hb : Below w.heap.size w w') => refCheckI_any (h2.below hb))
  obtain ⟨L, rfl⟩ : ∃ L, L = n := ⟨_, rfl⟩
  have HLL := Lib.hid h.len
  have hlim : L ≤ 17592186044416 := by rw [h.len]; exact h.lim
  clear h h2
  obtain ⟨X, hX⟩ : ∃ X, X = butP l k := ⟨_, rfl⟩
  rw [← hX]
  unfold butP allI at hX
  have HX := Lib.hid hX
  clear hX
  rcases chkI_cases l with ⟨hi, hc⟩ | ⟨hi, hc⟩
  · rw [hc] at HM
    rcases chkI_cases k with ⟨hi2, hc2⟩ | ⟨hi2, hc2⟩
    · rw [hc2] at HM2
      have HX1 : Hid (X = (l.filter (fun y => !decide (y ∈ k)), 0)) := Lib.hid (by rw [HX.out]; simp [hi, hi2])
      have CK := Lib.hid (fun (wr : World) (hb : Below w.heap.size w wr) (y : Int) (hy : I64 y) => refIs_any y hy (HK.out.below hb))
      clear hi hc hi2 hc2 HX
      obtain ⟨p, hp⟩ : ∃ p : Int → Bool, p = fun y => !decide (y ∈ k) := ⟨_, rfl⟩
      rw [← hp] at HX1
      have HPP : Hid (∀ y, (!decide (y ∈ k)) = p y) := Lib.hid (fun y => by rw [hp])
      clear hp
      go_enter Try.func16, Try.ntmps16
      go_wp2_with fail
      refine HM.out.mono ?_
      rintro e w1 ⟨rfl, hb1⟩
      go_wp2_with fail
      refine (HM2.out _ hb1).mono ?_
      rintro e w2 ⟨rfl, hb2⟩
      have hb12 := nx hb1 hb2
      go_wp2_with fail
      go_loopw [6, 7] (fun v i wr => ∃ (vo : Value) (k : Nat), vo = v ∧ k ≤ L ∧ i = .int .i64 k ∧ Hid (wr.ownsRow w.heap.size 3 1 vo ((l.take k).filter p).length (iv ((l.take k).filter p))) ∧ Below w.heap.size w wr) (fun _ i _ => L - (intOf i).toNat)
      case atStart => exact ⟨_, 0, rfl, Nat.zero_le _, rfl, Lib.hid (World.ownsRow_nil _ _ _ _), hb12⟩
      case round =>
        obtain ⟨vo, j, rfl, hk, rfl, HO, hb⟩ := hrel
        by_cases hlt : j < L
        · have hlt' : j < l.length := by rw [← HLL.out]; exact hlt
          obtain ⟨b, o, rfl⟩ := HL.out.plain (by omega)
          have hc := HL.out.cells hb hlt'
          have haa : (⟨b, o, none⟩ : Addr).add j = ⟨b, o + j, none⟩ := addr_add _ _ _
          have hcb := Lib.hid (fun (w' : World) (hb' : Below wr.heap.size wr w') => HL.out.cells (nx hb hb') hlt')
          have CK1 := Lib.hid (CK.out wr hb l[j] (HL.out.fit _ (List.getElem_mem hlt')))
          have FS := Lib.hid (filter_snoc (p := p) hlt')
          have hfl := filter_len p l j
          have HFI := Lib.hid (HL.out.fit _ (List.getElem_mem hlt'))
          have hpy := HPP.out l[j]
          generalize l[j] = y at *
          generalize decide (y ∈ k) = dd at *
          obtain ⟨bb, hbb⟩ : ∃ bb, bb = p y := ⟨_, rfl⟩
          rw [← hbb] at hpy FS
          clear hbb hlt'
          cases dd with
          | false =>
            obtain rfl : true = bb := hpy
            go_wp2_with fail
            refine CK1.out.mono ?_
            rintro e w1 ⟨rfl, hb1⟩
            have HO1 := Lib.hid (ownsRow_below HO.out hb1)
            have hb2 := nx hb hb1
            have hc1 := hcb.out w1 hb1
            clear hc
            go_wp2_with (at_builtin; refine append_int rfl (.tmp 29) (.tmp 34) rfl w.heap.size vo ((l.take j).filter p) y w1 rfl HFI.out rfl HO1.out rfl (by omega) hb2.size ?_; intro v3 w3 ho3 hg3 hv3; have hb3 := grown_below hb2 hg3 (own_block HO1.out); have HO3 := Lib.hid ho3; clear ho3 hg3 hv3)
            exact ⟨⟨_, j + 1, rfl, by omega, by go_num, Lib.hid (by rw [FS.out]; exact HO3.out), hb3⟩, by simp [intOf]; omega⟩
          | true =>
            obtain rfl : false = bb := hpy
            go_wp2_with fail
            refine CK1.out.mono ?_
            rintro e w1 ⟨rfl, hb1⟩
            have HO1 := Lib.hid (ownsRow_below HO.out hb1)
            go_wp2_with fail
            exact ⟨⟨_, j + 1, rfl, by omega, by go_num, Lib.hid (by rw [FS.out]; simpa using HO1.out), nx hb hb1⟩, by simp [intOf]; omega⟩
        · obtain rfl : j = L := by omega
          rw [HLL.out, List.take_length] at HO
          go_wp2_with fail
          go_ret2
          rw [HX1.out]
          exact ⟨_, rfl, HO.out, hb⟩
    · rw [hc2] at HM2
      have HX1 : Hid (X = ([], 2)) := Lib.hid (by rw [HX.out]; simp [hi2])
      clear hi hc hi2 hc2 HX
      go_enter Try.func16, Try.ntmps16
      go_wp2_with fail
      refine HM.out.mono ?_
      rintro e w1 ⟨rfl, hb1⟩
      go_wp2_with fail
      refine (HM2.out _ hb1).mono ?_
      rintro e w2 ⟨rfl, hb2⟩
      go_wp2_with fail
      go_ret2
      rw [HX1.out]
      exact ⟨_, rfl, World.ownsRow_nil _ _ _ _, nx hb1 hb2⟩
  · rw [hc] at HM
    have HX1 : Hid (X = ([], 2)) := Lib.hid (by rw [HX.out]; simp [hi])
    clear hi hc HX
    go_enter Try.func16, Try.ntmps16
    go_wp2_with fail
    refine HM.out.mono ?_
    rintro e w1 ⟨rfl, hb1⟩
    go_wp2_with fail
    go_ret2
    rw [HX1.out]
    exact ⟨_, rfl, World.ownsRow_nil _ _ _ _, hb1⟩

theorem cut_but (l : List Int) (x : Int) : butP l (oneL x) = cutP l x := by
  unfold butP cutP allI
  have h1 := inc_one x
  by_cases hi : Inc l
  · simp only [List.all_cons, List.all_nil, decide_eq_true hi, decide_eq_true h1, Bool.and_self, if_true, if_pos hi]
    congr 1
    apply List.filter_congr
    intro y hy
    have h0 := hi.1 y hy
    unfold oneL
    by_cases hx : x < 0
    · rw [if_pos hx]
      have : y ≠ x := by omega
      simp [this]
    · rw [if_neg hx]
      by_cases hyx : y = x <;> simp [hyx]
  · simp only [List.all_cons, decide_eq_false hi, Bool.false_and, if_neg hi]
    rfl
set_option maxHeartbeats 8000000 in
theorem refCut_any {A : Option Addr} {n c : Nat} {l : List Int} {w : World} (x : Int) (hx : I64 x) (h : IL w A n c l) :
    Calls Try.prog 25 #[.slice A n c, .int .i64 x] w fun e w' => TwoI w w' e (cutP l x).1 (cutP l x).2 := by
  have HL := Lib.hid h
  have H1 := Lib.hid (refone_any x hx)
  clear h hx
  rw [← cut_but]
  go_enter Try.func25, Try.ntmps25
  go_wp2_with fail
  refine (H1.out _).mono ?_
  rintro e w1 ⟨⟨B, m, d, rfl, hI⟩, hb1⟩
  have HI := Lib.hid hI
  clear hI
  go_wp2_with fail
  refine (refBut_any (HL.out.below hb1) HI.out).mono ?_
  rintro e w2 ⟨v, rfl, ho, hb2⟩
  have HO2 := Lib.hid ho
  clear ho
  go_wp2_with fail
  go_ret2
  exact ⟨v, rfl, ownsRow_base HO2.out hb1.size, nx hb1 hb2⟩
set_option maxHeartbeats 8000000 in
theorem refHas_any {A : Option Addr} {n c : Nat} {l : List Int} {w : World} (x : Int) (hx : I64 x) (h : IL w A n c l) :
    Calls Try.prog 30 #[.slice A n c, .int .i64 x] w fun e w' => e = .returned (.bool (decide (Inc l ∧ x ∈ l))) ∧ Below w.heap.size w w' := by
  have HM := Lib.hid (refCheckI_any h)
  have HI := Lib.hid (fun (w' : World) (hb : Below w.heap.size w w') => refIs_any x hx (h.below hb))
  clear h hx
  rcases chkI_cases l with ⟨hi, hc⟩ | ⟨hi, hc⟩
  · rw [hc] at HM
    rw [show decide (Inc l ∧ x ∈ l) = decide (x ∈ l) from by simp [hi]]
    clear hi hc
    generalize decide (x ∈ l) = bb at *
    go_enter Try.func30, Try.ntmps30
    go_wp2_with fail
    refine HM.out.mono ?_
    rintro e w3 ⟨rfl, hb3⟩
    go_wp2_with fail
    refine (HI.out _ hb3).mono ?_
    rintro e w4 ⟨rfl, hb4⟩
    go_wp2_with fail
    go_ret
    exact ⟨rfl, nx hb3 hb4⟩
  · rw [hc] at HM
    rw [show decide (Inc l ∧ x ∈ l) = false from by simp [hi]]
    clear hi hc
    go_enter Try.func30, Try.ntmps30
    go_wp2_with fail
    refine HM.out.mono ?_
    rintro e w3 ⟨rfl, hb3⟩
    go_wp2_with fail
    go_ret
    exact ⟨rfl, hb3⟩
end Go.Proofs.Ythikhoamodcggaa
