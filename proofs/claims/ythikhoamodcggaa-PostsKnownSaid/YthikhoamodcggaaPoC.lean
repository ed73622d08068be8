/- posts.pick at its closures; posts.Cut, But, And: contracts. No conditions. -/
import Derived.Test.YthikhoamodcggaaPoB
set_option linter.unusedSimpArgs false
set_option linter.unusedVariables false
namespace Go.Proofs.Ythikhoamodcggaa
open Go.RowKit

/-- A new list of numbers; with an error. -/
def OneI (w w' : World) (e : Ending) (l : List Int) : Prop := ∃ v, e = .returned v ∧ w'.ownsRow w.heap.size 3 1 v l.length (iv l) ∧ Below w.heap.size w w'
def TwoI (w w' : World) (e : Ending) (l : List Int) (k : Int) : Prop := ∃ v, e = .returned (.tuple #[v, .int .i64 k]) ∧ w'.ownsRow w.heap.size 3 1 v l.length (iv l) ∧ Below w.heap.size w w'
theorem filter_snoc {p : Int → Bool} {l : List Int} {k : Nat} (hk : k < l.length) : (l.take (k + 1)).filter p = (l.take k).filter p ++ (if p l[k] then [l[k]] else []) := by
  rw [List.take_succ_eq_append_getElem hk, List.filter_append]
  congr 1
  simp [List.filter_cons]
theorem filter_len (p : Int → Bool) (l : List Int) (k : Nat) : ((l.take k).filter p).length ≤ k := Nat.le_trans (List.length_filter_le _ _) (List.length_take_le _ _)
theorem fit_filter {l : List Int} (h : Fit l) (p : Int → Bool) : Fit (l.filter p) := fun x hx => h x (List.mem_filter.1 hx).1

set_option maxHeartbeats 4000000 in
theorem cut1_any (y x : Int) (q : Nat) (w : World) (hq : w.cell? ⟨q, 0, none⟩ = some (.int .i64 x)) :
    Calls Try.prog 47 #[.int .i64 y, .pointer (some ⟨q, 0, none⟩)] w fun e w' => e = .returned (.bool (y != x)) ∧ Below w.heap.size w w' := by
  go_enter Try.func47, Try.ntmps47
  go_wp2
  go_ret
  exact ⟨rfl, bel0 w⟩
set_option maxHeartbeats 4000000 in
theorem but1_any (y : Int) (q : Nat) {B : Option Addr} {m d : Nat} {k : List Int} (w : World) (hq : w.cell? ⟨q, 0, none⟩ = some (.slice B m d)) (h : IL w B m d k) (hi : Inc k) :
    Calls Try.prog 44 #[.int .i64 y, .pointer (some ⟨q, 0, none⟩)] w fun e w' => e = .returned (.bool (!decide (y ∈ k))) ∧ Below w.heap.size w w' := by
  have HC := Lib.hid (in_any y h hi)
  clear h hi
  generalize decide (y ∈ k) = bb at *
  go_enter Try.func44, Try.ntmps44
  go_wp2_with fail
  refine HC.out.mono ?_
  rintro e w1 ⟨rfl, hb⟩
  go_wp2_with fail
  go_ret
  exact ⟨rfl, hb⟩
/-- Is it in all but the first? -/
def restI (ls : List (List Int)) (y : Int) : Bool := !(ls.drop 1).any (fun l => !decide (y ∈ l))
theorem LL.drop1' {w : World} {b o n c : Nat} {ls : List (List Int)} (h : LL w (some ⟨b, o, none⟩) n c ls) (h0 : 1 ≤ ls.length) (hc : c = 1) : LL w (some ⟨b, o, none⟩) 0 0 (ls.drop 1) := by
  have hle := h.le
  have : ls.drop 1 = [] := by rw [List.drop_eq_nil_iff]; omega
  rw [this]
  exact ⟨rfl, Nat.le_refl _, fun _ => rfl, fun i hi => absurd hi (by simp), by simp⟩
set_option maxHeartbeats 8000000 in
theorem and1_any (y : Int) (q : Nat) {A : Option Addr} {n c : Nat} {ls : List (List Int)} (w : World) (hq : w.cell? ⟨q, 0, none⟩ = some (.slice A n c)) (h : LL w A n c ls) (h1 : 1 ≤ ls.length) (hi : ∀ l ∈ ls, Inc l) :
    Calls Try.prog 34 #[.int .i64 y, .pointer (some ⟨q, 0, none⟩)] w fun e w' => e = .returned (.bool (restI ls y)) ∧ Below w.heap.size w w' := by
  obtain ⟨b, o, hA⟩ : ∃ b o, A = some ⟨b, o, none⟩ := by
    obtain ⟨b, o, _, _, _, e, _, _⟩ := h.at' 0 (by omega)
    exact ⟨b, o, e⟩
  subst hA
  have hle := h.le
  have hlim := h.lim
  obtain rfl := h.len
  have hid : ∀ l ∈ ls.drop 1, Inc l := fun l hl => hi l (List.mem_of_mem_drop hl)
  have hbw : Below w.heap.size w (w.alloc (.cells #[.int .i64 y] 3)) := (bel0 w).alloc (Nat.le_refl _) _
  have hq1 : (w.alloc (.cells #[.int .i64 y] 3)).cell? ⟨q, 0, none⟩ = some (.slice (some ⟨b, o, none⟩) ls.length c) := (hbw.cell (p := ⟨q, 0, none⟩) (World.block_lt_of_cell? w _ hq)).trans hq
  have hy1 : (w.alloc (.cells #[.int .i64 y] 3)).cell? ⟨w.heap.size, 0, none⟩ = some (.int .i64 y) := by rw [World.cell?_alloc_mark]; simp
  unfold restI
  obtain ⟨L, hL⟩ : ∃ L, L = ls.length := ⟨_, rfl⟩
  by_cases hc : c = 1
  · have HC := Lib.hid (contains_and y w.heap.size ((h.drop1' h1 hc).below hbw) hy1 hid)
    subst hc
    obtain ⟨hl1⟩ : Nonempty (ls.length = 1) := ⟨by omega⟩
    rw [hl1] at hq1
    rw [hl1] at hq
    clear h hi hid hy1 hL hle h1 hlim hl1
    generalize (ls.drop 1).any (fun l => !decide (y ∈ l)) = bb at *
    go_enter Try.func34, Try.ntmps34
    go_wp2_with fail
    refine HC.out.mono ?_
    rintro e w1 ⟨rfl, hb⟩
    go_wp2_with fail
    go_ret
    exact ⟨rfl, nx hbw hb⟩
  · have HC := Lib.hid (contains_and y w.heap.size ((h.drop1 h1).below hbw) hy1 hid)
    have hi1 : (1 : Int) ≤ (L : Int) := by omega
    have hi2 : (L : Int) ≤ (c : Int) := by omega
    have hc2 : ¬ (c : Int) = 1 := by omega
    rw [← hL] at HC hq1 hq hlim
    clear h hi hid hy1 hL hle h1
    generalize (ls.drop 1).any (fun l => !decide (y ∈ l)) = bb at *
    go_enter Try.func34, Try.ntmps34
    go_wp2_with fail
    refine HC.out.mono ?_
    rintro e w1 ⟨rfl, hb⟩
    go_wp2_with fail
    go_ret
    exact ⟨rfl, nx hbw hb⟩

set_option maxHeartbeats 8000000 in
theorem pick_cut {A : Option Addr} {n c : Nat} {l : List Int} {w : World} (q : Nat) (x : Int) (h : IL w A n c l) (hq : w.cell? ⟨q, 0, none⟩ = some (.int .i64 x)) :
    Calls Try.prog 33 #[.slice A n c, .func (.func 47) #[] #[.pointer (some ⟨q, 0, none⟩)]] w fun e w' => OneI w w' e (l.filter (fun y => y != x)) := by
  obtain rfl := h.len
  have HL := Lib.hid h
  have hlim := h.lim
  have CK : Hid (∀ (wr : World), Below w.heap.size w wr → ∀ y : Int, Calls Try.prog 47 #[.int .i64 y, .pointer (some ⟨q, 0, none⟩)] wr fun e w' => e = .returned (.bool ((fun y => y != x) y)) ∧ Below wr.heap.size wr w') := Lib.hid (fun wr hb y => cut1_any y x q wr ((hb.cell (p := ⟨q, 0, none⟩) (World.block_lt_of_cell? w _ hq)).trans hq))
  clear h
  generalize (fun y => y != x) = p at *
  go_enter Try.func33, Try.ntmps33
  go_wp2
  go_loopw [4, 9] (fun v i wr => ∃ (vo : Value) (k : Nat), vo = v ∧ k ≤ l.length ∧ i = .int .i64 k ∧ Hid (wr.ownsRow w.heap.size 3 1 vo ((l.take k).filter p).length (iv ((l.take k).filter p))) ∧ Below w.heap.size w wr) (fun _ i _ => l.length - (intOf i).toNat)
  case atStart => exact ⟨_, 0, rfl, Nat.zero_le _, rfl, Lib.hid (World.ownsRow_nil _ _ _ _), bel0 w⟩
  case round =>
    obtain ⟨vo, k, rfl, hk, rfl, HO, hb⟩ := hrel
    by_cases hlt : k < l.length
    · obtain ⟨b, o, rfl⟩ := HL.out.plain (by omega)
      have hc := HL.out.cells hb hlt
      have haa : (⟨b, o, none⟩ : Addr).add k = ⟨b, o + k, none⟩ := addr_add _ _ _
      have CK1 := Lib.hid (CK.out wr hb l[k])
      have FS := Lib.hid (filter_snoc (p := p) hlt)
      have hfl := filter_len p l k
      have hfi := HL.out.fit _ (List.getElem_mem hlt)
      have HFI := Lib.hid hfi
      clear hfi
      generalize l[k] = y at *
      obtain ⟨bb, hbb⟩ : ∃ bb, bb = p y := ⟨_, rfl⟩
      rw [← hbb] at CK1 FS
      clear hbb
      cases bb with
      | true =>
        go_wp2_with fail
        refine CK1.out.mono ?_
        rintro e w1 ⟨rfl, hb1⟩
        have HO1 := Lib.hid (ownsRow_below HO.out hb1)
        have hb2 := nx hb hb1
        go_wp2_with (at_builtin; refine append_int rfl (.tmp 16) (.tmp 18) rfl w.heap.size vo ((l.take k).filter p) y w1 rfl HFI.out rfl HO1.out rfl (by omega) hb2.size ?_; intro v3 w3 ho3 hg3 hv3; have hb3 := grown_below hb2 hg3 (own_block HO1.out); have HO3 := Lib.hid ho3; clear ho3 hg3 hv3)
        exact ⟨⟨_, k + 1, rfl, by omega, by go_num, Lib.hid (by rw [FS.out]; exact HO3.out), hb3⟩, by simp [intOf]; omega⟩
      | false =>
        go_wp2_with fail
        refine CK1.out.mono ?_
        rintro e w1 ⟨rfl, hb1⟩
        have HO1 := Lib.hid (ownsRow_below HO.out hb1)
        go_wp2_with fail
        exact ⟨⟨_, k + 1, rfl, by omega, by go_num, Lib.hid (by rw [FS.out]; simpa using HO1.out), nx hb hb1⟩, by simp [intOf]; omega⟩
    · obtain rfl : k = l.length := by omega
      rw [List.take_length] at HO
      go_wp2
      go_ret
      exact ⟨_, rfl, HO.out, hb⟩

set_option maxHeartbeats 8000000 in
theorem pick_but {A : Option Addr} {n c : Nat} {l : List Int} {w : World} (q : Nat) {B : Option Addr} {m d : Nat} {kk : List Int} (h : IL w A n c l) (hq : w.cell? ⟨q, 0, none⟩ = some (.slice B m d)) (h2 : IL w B m d kk) (hi : Inc kk) :
    Calls Try.prog 33 #[.slice A n c, .func (.func 44) #[] #[.pointer (some ⟨q, 0, none⟩)]] w fun e w' => OneI w w' e (l.filter (fun y => !decide (y ∈ kk))) := by
  obtain rfl := h.len
  have HL := Lib.hid h
  have hlim := h.lim
  have CK : Hid (∀ (wr : World), Below w.heap.size w wr → ∀ y : Int, Calls Try.prog 44 #[.int .i64 y, .pointer (some ⟨q, 0, none⟩)] wr fun e w' => e = .returned (.bool ((fun y => !decide (y ∈ kk)) y)) ∧ Below wr.heap.size wr w') := Lib.hid (fun wr hb y => but1_any y q wr ((hb.cell (p := ⟨q, 0, none⟩) (World.block_lt_of_cell? w _ hq)).trans hq) (h2.below hb) hi)
  clear h
  generalize (fun y => !decide (y ∈ kk)) = p at *
  go_enter Try.func33, Try.ntmps33
  go_wp2
  go_loopw [4, 9] (fun v i wr => ∃ (vo : Value) (k : Nat), vo = v ∧ k ≤ l.length ∧ i = .int .i64 k ∧ Hid (wr.ownsRow w.heap.size 3 1 vo ((l.take k).filter p).length (iv ((l.take k).filter p))) ∧ Below w.heap.size w wr) (fun _ i _ => l.length - (intOf i).toNat)
  case atStart => exact ⟨_, 0, rfl, Nat.zero_le _, rfl, Lib.hid (World.ownsRow_nil _ _ _ _), bel0 w⟩
  case round =>
    obtain ⟨vo, k, rfl, hk, rfl, HO, hb⟩ := hrel
    by_cases hlt : k < l.length
    · obtain ⟨b, o, rfl⟩ := HL.out.plain (by omega)
      have hc := HL.out.cells hb hlt
      have haa : (⟨b, o, none⟩ : Addr).add k = ⟨b, o + k, none⟩ := addr_add _ _ _
      have CK1 := Lib.hid (CK.out wr hb l[k])
      have FS := Lib.hid (filter_snoc (p := p) hlt)
      have hfl := filter_len p l k
      have hfi := HL.out.fit _ (List.getElem_mem hlt)
      have HFI := Lib.hid hfi
      clear hfi
      generalize l[k] = y at *
      obtain ⟨bb, hbb⟩ : ∃ bb, bb = p y := ⟨_, rfl⟩
      rw [← hbb] at CK1 FS
      clear hbb
      cases bb with
      | true =>
        go_wp2_with fail
        refine CK1.out.mono ?_
        rintro e w1 ⟨rfl, hb1⟩
        have HO1 := Lib.hid (ownsRow_below HO.out hb1)
        have hb2 := nx hb hb1
        go_wp2_with (at_builtin; refine append_int rfl (.tmp 16) (.tmp 18) rfl w.heap.size vo ((l.take k).filter p) y w1 rfl HFI.out rfl HO1.out rfl (by omega) hb2.size ?_; intro v3 w3 ho3 hg3 hv3; have hb3 := grown_below hb2 hg3 (own_block HO1.out); have HO3 := Lib.hid ho3; clear ho3 hg3 hv3)
        exact ⟨⟨_, k + 1, rfl, by omega, by go_num, Lib.hid (by rw [FS.out]; exact HO3.out), hb3⟩, by simp [intOf]; omega⟩
      | false =>
        go_wp2_with fail
        refine CK1.out.mono ?_
        rintro e w1 ⟨rfl, hb1⟩
        have HO1 := Lib.hid (ownsRow_below HO.out hb1)
        go_wp2_with fail
        exact ⟨⟨_, k + 1, rfl, by omega, by go_num, Lib.hid (by rw [FS.out]; simpa using HO1.out), nx hb hb1⟩, by simp [intOf]; omega⟩
    · obtain rfl : k = l.length := by omega
      rw [List.take_length] at HO
      go_wp2
      go_ret
      exact ⟨_, rfl, HO.out, hb⟩

set_option maxHeartbeats 8000000 in
theorem pick_and {A : Option Addr} {n c : Nat} {l : List Int} {w : World} (q : Nat) {B : Option Addr} {m d : Nat} {ls : List (List Int)} (h : IL w A n c l) (hq : w.cell? ⟨q, 0, none⟩ = some (.slice B m d)) (h2 : LL w B m d ls) (h1 : 1 ≤ ls.length) (hi : ∀ l ∈ ls, Inc l) :
    Calls Try.prog 33 #[.slice A n c, .func (.func 34) #[] #[.pointer (some ⟨q, 0, none⟩)]] w fun e w' => OneI w w' e (l.filter (fun y => restI ls y)) := by
  obtain rfl := h.len
  have HL := Lib.hid h
  have hlim := h.lim
  have CK : Hid (∀ (wr : World), Below w.heap.size w wr → ∀ y : Int, Calls Try.prog 34 #[.int .i64 y, .pointer (some ⟨q, 0, none⟩)] wr fun e w' => e = .returned (.bool ((fun y => restI ls y) y)) ∧ Below wr.heap.size wr w') := Lib.hid (fun wr hb y => and1_any y q wr ((hb.cell (p := ⟨q, 0, none⟩) (World.block_lt_of_cell? w _ hq)).trans hq) (h2.below hb) h1 hi)
  clear h
  generalize (fun y => restI ls y) = p at *
  go_enter Try.func33, Try.ntmps33
  go_wp2
  go_loopw [4, 9] (fun v i wr => ∃ (vo : Value) (k : Nat), vo = v ∧ k ≤ l.length ∧ i = .int .i64 k ∧ Hid (wr.ownsRow w.heap.size 3 1 vo ((l.take k).filter p).length (iv ((l.take k).filter p))) ∧ Below w.heap.size w wr) (fun _ i _ => l.length - (intOf i).toNat)
  case atStart => exact ⟨_, 0, rfl, Nat.zero_le _, rfl, Lib.hid (World.ownsRow_nil _ _ _ _), bel0 w⟩
  case round =>
    obtain ⟨vo, k, rfl, hk, rfl, HO, hb⟩ := hrel
    by_cases hlt : k < l.length
    · obtain ⟨b, o, rfl⟩ := HL.out.plain (by omega)
      have hc := HL.out.cells hb hlt
      have haa : (⟨b, o, none⟩ : Addr).add k = ⟨b, o + k, none⟩ := addr_add _ _ _
      have CK1 := Lib.hid (CK.out wr hb l[k])
      have FS := Lib.hid (filter_snoc (p := p) hlt)
      have hfl := filter_len p l k
      have hfi := HL.out.fit _ (List.getElem_mem hlt)
      have HFI := Lib.hid hfi
      clear hfi
      generalize l[k] = y at *
      obtain ⟨bb, hbb⟩ : ∃ bb, bb = p y := ⟨_, rfl⟩
      rw [← hbb] at CK1 FS
      clear hbb
      cases bb with
      | true =>
        go_wp2_with fail
        refine CK1.out.mono ?_
        rintro e w1 ⟨rfl, hb1⟩
        have HO1 := Lib.hid (ownsRow_below HO.out hb1)
        have hb2 := nx hb hb1
        go_wp2_with (at_builtin; refine append_int rfl (.tmp 16) (.tmp 18) rfl w.heap.size vo ((l.take k).filter p) y w1 rfl HFI.out rfl HO1.out rfl (by omega) hb2.size ?_; intro v3 w3 ho3 hg3 hv3; have hb3 := grown_below hb2 hg3 (own_block HO1.out); have HO3 := Lib.hid ho3; clear ho3 hg3 hv3)
        exact ⟨⟨_, k + 1, rfl, by omega, by go_num, Lib.hid (by rw [FS.out]; exact HO3.out), hb3⟩, by simp [intOf]; omega⟩
      | false =>
        go_wp2_with fail
        refine CK1.out.mono ?_
        rintro e w1 ⟨rfl, hb1⟩
        have HO1 := Lib.hid (ownsRow_below HO.out hb1)
        go_wp2_with fail
        exact ⟨⟨_, k + 1, rfl, by omega, by go_num, Lib.hid (by rw [FS.out]; simpa using HO1.out), nx hb hb1⟩, by simp [intOf]; omega⟩
    · obtain rfl : k = l.length := by omega
      rw [List.take_length] at HO
      go_wp2
      go_ret
      exact ⟨_, rfl, HO.out, hb⟩

/-- What Cut, But, And answer. -/
def cutP (l : List Int) (x : Int) : List Int × Int := if Inc l then (l.filter (fun y => y != x), 0) else ([], 2)
def butP (l m : List Int) : List Int × Int := if allI [l, m] then (l.filter (fun y => !decide (y ∈ m)), 0) else ([], 2)
def andP (ls : List (List Int)) : List Int × Int := if allI ls then (match ls with | [] => ([], 0) | l :: _ => (l.filter (fun y => restI ls y), 0)) else ([], 2)
theorem allI_one (l : List Int) : allI [l] = decide (Inc l) := by simp [allI]

set_option maxHeartbeats 8000000 in
theorem Cut_any {A : Option Addr} {n c : Nat} {l : List Int} {w : World} (x : Int) (h : IL w A n c l) :
    Calls Try.prog 24 #[.slice A n c, .int .i64 x] w fun e w' => TwoI w w' e (cutP l x).1 (cutP l x).2 := by
  have HL := Lib.hid h
  obtain ⟨W1, hW1⟩ : ∃ W, W = w.alloc (.cells #[.int .i64 x] 3) := ⟨_, rfl⟩
  obtain ⟨W2, hW2⟩ : ∃ W, W = W1.alloc (.cells #[.slice A n c] 23) := ⟨_, rfl⟩
  have hb1 : Below w.heap.size w W1 := by rw [hW1]; exact (bel0 w).alloc (Nat.le_refl _) _
  have hz1 : W1.heap.size = w.heap.size + 1 := by rw [hW1, World.size_alloc]
  have hb2 : Below W1.heap.size W1 W2 := by rw [hW2]; exact (bel0 W1).alloc (Nat.le_refl _) _
  have hq1 : W1.cell? ⟨w.heap.size, 0, none⟩ = some (.int .i64 x) := by rw [hW1, World.cell?_alloc_mark]; simp
  have HM : Hid (∀ t, Calls Try.prog 32 #[.slice (some ⟨w.heap.size + 1, 0, none⟩) 1 1] (W1.alloc (.cells #[.slice A n c] t)) fun e w' => e = .returned (.bool (decide (Inc l))) ∧ Below (W1.alloc (.cells #[.slice A n c] t)).heap.size (W1.alloc (.cells #[.slice A n c] t)) w') := Lib.hid (fun t => by
    have := may_anyI (LL.one (h.below hb1) t)
    rw [allI_one, hz1] at this
    exact this)
  clear h
  unfold cutP
  by_cases hi : Inc l
  · rw [if_pos hi]
    rw [decide_eq_true hi] at HM
    have HZ := Lib.hid hz1
    have HQ := Lib.hid hq1
    clear hz1 hq1 hi
    go_enter Try.func24, Try.ntmps24
    go_wp2_with fail
    rw [← hW1]
    refine (HM.out _).mono ?_
    rintro e w3 ⟨rfl, hb3⟩
    have hb13 := nx ((bel0 W1).alloc (Nat.le_refl _) _) hb3
    have hbw3 := nx hb1 hb13
    have hq3 := (hb13.cell (p := ⟨w.heap.size, 0, none⟩) (World.block_lt_of_cell? W1 _ HQ.out)).trans HQ.out
    have PK := Lib.hid (pick_cut w.heap.size x (HL.out.below hbw3) hq3)
    clear hq3
    go_wp2_with fail
    refine PK.out.mono ?_
    rintro e w4 ⟨v, rfl, ho, hb4⟩
    have HO := Lib.hid ho
    clear ho
    go_wp2_with fail
    go_ret2
    exact ⟨v, rfl, ownsRow_base HO.out hbw3.size, nx hbw3 hb4⟩
  · rw [if_neg hi]
    rw [decide_eq_false hi] at HM
    clear hz1 hq1 hi
    go_enter Try.func24, Try.ntmps24
    go_wp2_with fail
    rw [← hW1]
    refine (HM.out _).mono ?_
    rintro e w3 ⟨rfl, hb3⟩
    go_wp2_with fail
    go_ret2
    exact ⟨_, rfl, World.ownsRow_nil _ _ _ _, nx hb1 (nx ((bel0 W1).alloc (Nat.le_refl _) _) hb3)⟩

set_option maxHeartbeats 8000000 in
theorem But_any {A B : Option Addr} {n c m d : Nat} {l k : List Int} {w : World} (h : IL w A n c l) (h2 : IL w B m d k) :
    Calls Try.prog 15 #[.slice A n c, .slice B m d] w fun e w' => TwoI w w' e (butP l k).1 (butP l k).2 := by
  have HL := Lib.hid h
  have HK := Lib.hid h2
  obtain ⟨W1, hW1⟩ : ∃ W, W = w.alloc (.cells #[.slice B m d] 23) := ⟨_, rfl⟩
  have hb1 : Below w.heap.size w W1 := by rw [hW1]; exact (bel0 w).alloc (Nat.le_refl _) _
  have hz1 : W1.heap.size = w.heap.size + 1 := by rw [hW1, World.size_alloc]
  have hq1 : W1.cell? ⟨w.heap.size, 0, none⟩ = some (.slice B m d) := by rw [hW1, World.cell?_alloc_mark]; simp
  have HM : Hid (∀ t, Calls Try.prog 32 #[.slice (some ⟨w.heap.size + 1, 0, none⟩) 2 2] (W1.alloc (.cells #[.slice A n c, .slice B m d] t)) fun e w' => e = .returned (.bool (allI [l, k])) ∧ Below (W1.alloc (.cells #[.slice A n c, .slice B m d] t)).heap.size (W1.alloc (.cells #[.slice A n c, .slice B m d] t)) w') := Lib.hid (fun t => by
    have := may_anyI (LL.two (h.below hb1) (h2.below hb1) t)
    rw [hz1] at this
    exact this)
  clear h h2
  unfold butP
  by_cases hi : allI [l, k] = true
  · rw [if_pos hi]
    have hk : Inc k := by simp [allI] at hi; exact hi.2
    rw [hi] at HM
    have HZ := Lib.hid hz1
    have HQ := Lib.hid hq1
    have HIK := Lib.hid hk
    have hq1' := hq1
    rw [hW1] at hq1'
    clear hz1 hq1 hi hk
    go_enter Try.func15, Try.ntmps15
    go_wp2_with fail
    rw [← hW1]
    refine (HM.out _).mono ?_
    rintro e w3 ⟨rfl, hb3⟩
    have hb13 := nx ((bel0 W1).alloc (Nat.le_refl _) _) hb3
    have hbw3 := nx hb1 hb13
    have hq3 := (hb13.cell (p := ⟨w.heap.size, 0, none⟩) (World.block_lt_of_cell? W1 _ HQ.out)).trans HQ.out
    have PK := Lib.hid (pick_but w.heap.size (HL.out.below hbw3) hq3 (HK.out.below hbw3) HIK.out)
    clear hq3 hq1'
    go_wp2_with fail
    refine PK.out.mono ?_
    rintro e w4 ⟨v, rfl, ho, hb4⟩
    have HO := Lib.hid ho
    clear ho
    go_wp2_with fail
    go_ret2
    exact ⟨v, rfl, ownsRow_base HO.out hbw3.size, nx hbw3 hb4⟩
  · rw [if_neg hi]
    rw [Bool.not_eq_true] at hi
    rw [hi] at HM
    have hq1' := hq1
    rw [hW1] at hq1'
    clear hz1 hq1 hi
    go_enter Try.func15, Try.ntmps15
    go_wp2_with fail
    rw [← hW1]
    refine (HM.out _).mono ?_
    rintro e w3 ⟨rfl, hb3⟩
    go_wp2_with fail
    go_ret2
    exact ⟨_, rfl, World.ownsRow_nil _ _ _ _, nx hb1 (nx ((bel0 W1).alloc (Nat.le_refl _) _) hb3)⟩

set_option maxHeartbeats 8000000 in
theorem And_any {A : Option Addr} {n c : Nat} {ls : List (List Int)} {w : World} (h : LL w A n c ls) :
    Calls Try.prog 11 #[.slice A n c] w fun e w' => TwoI w w' e (andP ls).1 (andP ls).2 := by
  have HL := Lib.hid h
  obtain ⟨W1, hW1⟩ : ∃ W, W = w.alloc (.cells #[.slice A n c] 22) := ⟨_, rfl⟩
  have hb1 : Below w.heap.size w W1 := by rw [hW1]; exact (bel0 w).alloc (Nat.le_refl _) _
  have hq1 : W1.cell? ⟨w.heap.size, 0, none⟩ = some (.slice A n c) := by rw [hW1, World.cell?_alloc_mark]; simp
  have HM := Lib.hid (may_anyI (h.below hb1))
  have hlim := h.lim
  obtain rfl := h.len
  clear h
  have HQ := Lib.hid hq1
  have hq1' := hq1
  rw [hW1] at hq1'
  by_cases hi : allI ls = true
  · rw [hi] at HM
    have HIA : Hid (∀ l ∈ ls, Inc l) := Lib.hid (by intro l hl; have := List.all_eq_true.1 hi l hl; simpa using this)
    cases ls with
    | nil =>
      have HX := Lib.hid (show andP [] = ([], 0) from by unfold andP; rw [if_pos hi])
      clear hi hq1 HL hlim
      simp only [List.length_nil] at HM hq1' HQ hW1 ⊢
      go_enter Try.func11, Try.ntmps11
      go_wp2_with fail
      rw [← hW1]
      refine HM.out.mono ?_
      rintro e w3 ⟨rfl, hb3⟩
      have hq3 := (hb3.cell (p := ⟨w.heap.size, 0, none⟩) (World.block_lt_of_cell? W1 _ HQ.out)).trans HQ.out
      clear hq1'
      go_wp2_with fail
      go_ret2
      rw [HX.out]
      exact ⟨_, rfl, World.ownsRow_nil _ _ _ _, nx hb1 hb3⟩
    | cons l0 ls =>
      have HX := Lib.hid (show andP (l0 :: ls) = (l0.filter (fun y => restI (l0 :: ls) y), 0) from by unfold andP; rw [if_pos hi])
      obtain ⟨L, hL⟩ : ∃ L, L = (l0 :: ls).length := ⟨_, rfl⟩
      have hl1 : (0 : Int) < (L : Int) := by rw [hL, List.length_cons]; omega
      have hl2 : ((L : Int) == 0) = false := by simp; omega
      have HL2 : Hid (LL w A L c (l0 :: ls)) := Lib.hid (by rw [hL]; exact HL.out)
      rw [← hL] at HM hlim hq1' HQ hW1 ⊢
      have h1L : 1 ≤ (l0 :: ls).length := by simp
      have H1L := Lib.hid h1L
      clear hi hq1 hL h1L HL
      go_enter Try.func11, Try.ntmps11
      go_wp2_with fail
      rw [← hW1]
      refine HM.out.mono ?_
      rintro e w3 ⟨rfl, hb3⟩
      have hbw3 := nx hb1 hb3
      have hq3 := (hb3.cell (p := ⟨w.heap.size, 0, none⟩) (World.block_lt_of_cell? W1 _ HQ.out)).trans HQ.out
      obtain ⟨b, o, B, m, d, rfl, hc, hI⟩ := (HL2.out.below hbw3).at' 0 (by simp)
      rw [Nat.add_zero] at hc
      simp only [List.getElem_cons_zero] at hI
      have PK := Lib.hid (pick_and w.heap.size hI hq3 (HL2.out.below hbw3) H1L.out HIA.out)
      clear hq1' hI
      go_wp2_with fail
      refine PK.out.mono ?_
      rintro e w4 ⟨v, rfl, ho, hb4⟩
      have HO := Lib.hid ho
      clear ho
      go_wp2_with fail
      go_ret2
      rw [HX.out]
      exact ⟨v, rfl, ownsRow_base HO.out hbw3.size, nx hbw3 hb4⟩
  · have HX := Lib.hid (show andP ls = ([], 2) from by unfold andP; rw [if_neg hi])
    rw [Bool.not_eq_true] at hi
    rw [hi] at HM
    clear hi hq1
    generalize ls.length = L at *
    go_enter Try.func11, Try.ntmps11
    go_wp2_with fail
    rw [← hW1]
    refine HM.out.mono ?_
    rintro e w3 ⟨rfl, hb3⟩
    go_wp2_with fail
    go_ret2
    rw [HX.out]
    exact ⟨_, rfl, World.ownsRow_nil _ _ _ _, nx hb1 hb3⟩
end Go.Proofs.Ythikhoamodcggaa
