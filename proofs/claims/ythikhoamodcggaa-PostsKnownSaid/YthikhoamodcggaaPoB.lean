/- posts.in; lists of lists; slices.ContainsFunc at posts' two closures; posts.may: contracts. No conditions. -/
import Derived.Test.YthikhoamodcggaaPoA
import Derived.Test.YthikhoamodcggaaShelf
set_option linter.unusedSimpArgs false
set_option linter.unusedVariables false
namespace Go.Proofs.Ythikhoamodcggaa
open Go.RowKit

theorem below_eqN {w w' : World} (h : ∃ q, w' = w.drewN q) : Below w.heap.size w w' := by
  obtain ⟨q, rfl⟩ := h
  exact below_drewN (bel0 w) q
/-- slices.BinarySearch of a list in order. -/
theorem bsearch_any {A : Option Addr} {n c : Nat} {l : List Int} {w : World} (x : Int) (h : IL w A n c l) (hi : Inc l) :
    Calls Try.prog 45 #[.slice A n c, .int .i64 x] w fun e w' => e = .returned (.tuple #[.int .i64 ((l.countP (· < x) : Nat) : Int), .bool (decide (x ∈ l))]) ∧ Below w.heap.size w w' := by
  obtain rfl := h.len
  by_cases h0 : l.length = 0
  · have : l = [] := List.length_eq_zero_iff.1 h0
    subst this
    refine (Try.slices_BinarySearch_int_empty A c x w).mono ?_
    rintro e w' ⟨rfl, rfl⟩
    exact ⟨by simp, bel0 _⟩
  · obtain ⟨b, o, rfl⟩ := h.plain (by omega)
    have hlim := h.lim
    refine (Try.slices_BinarySearch_int b o l.length c l x w (Nat.le_refl _) (by omega) (fun j hj => ?_) (by rw [List.take_length]; exact inc_le hi)).mono ?_
    · rw [h.cells (bel0 w) hj, List.getD_eq_getElem?_getD, List.getElem?_eq_getElem hj]; rfl
    · rintro e w' ⟨rfl, hw⟩
      rw [List.take_length]
      exact ⟨by simp [List.contains_iff_mem], below_eqN hw⟩
set_option maxHeartbeats 4000000 in
theorem in_any {A : Option Addr} {n c : Nat} {l : List Int} {w : World} (x : Int) (h : IL w A n c l) (hi : Inc l) :
    Calls Try.prog 37 #[.slice A n c, .int .i64 x] w fun e w' => e = .returned (.bool (decide (x ∈ l))) ∧ Below w.heap.size w w' := by
  have BS := Lib.hid (bsearch_any x h hi)
  clear h hi
  generalize decide (x ∈ l) = bb at *
  go_enter Try.func37, Try.ntmps37
  go_wp2_with fail
  refine BS.out.mono ?_
  rintro e w1 ⟨rfl, hb⟩
  go_wp2_with fail
  go_ret
  exact ⟨rfl, hb⟩

/-- A slice of slices of numbers. -/
structure LL (w : World) (A : Option Addr) (n c : Nat) (ls : List (List Int)) : Prop where
  len : n = ls.length
  le : ls.length ≤ c
  nil : A = none → c = 0
  at' : ∀ i (h : i < ls.length), ∃ b o B m d, A = some ⟨b, o, none⟩ ∧ w.cell? ⟨b, o + i, none⟩ = some (.slice B m d) ∧ IL w B m d ls[i]
  lim : ls.length ≤ 17592186044416
theorem LL.below {w w' : World} {A : Option Addr} {n c : Nat} {ls : List (List Int)} (h : LL w A n c ls) (hb : Below w.heap.size w w') : LL w' A n c ls := by
  refine ⟨h.len, h.le, h.nil, fun i hi => ?_, h.lim⟩
  obtain ⟨b, o, B, m, d, e, hc, hI⟩ := h.at' i hi
  exact ⟨b, o, B, m, d, e, (hb.cell (p := ⟨b, o + i, none⟩) (World.block_lt_of_cell? w _ hc)).trans hc, hI.below hb⟩
theorem LL.one {w : World} {A : Option Addr} {n c : Nat} {l : List Int} (h : IL w A n c l) (t : TypeId) : LL (w.alloc (.cells #[.slice A n c] t)) (some ⟨w.heap.size, 0, none⟩) 1 1 [l] := by
  refine ⟨rfl, Nat.le_refl _, (by intro h; cases h), fun i hi => ?_, by simp⟩
  have : i = 0 := by simpa using hi
  subst this
  exact ⟨_, _, A, n, c, rfl, by rw [World.cell?_alloc_mark]; simp, h.below ((bel0 w).alloc (Nat.le_refl _) _)⟩
theorem LL.two {w : World} {A B : Option Addr} {n c m d : Nat} {l k : List Int} (h : IL w A n c l) (h2 : IL w B m d k) (t : TypeId) : LL (w.alloc (.cells #[.slice A n c, .slice B m d] t)) (some ⟨w.heap.size, 0, none⟩) 2 2 [l, k] := by
  refine ⟨rfl, Nat.le_refl _, (by intro h; cases h), fun i hi => ?_, by simp⟩
  have hi2 : i < 2 := by simpa using hi
  match i, hi2 with
  | 0, _ => exact ⟨_, _, A, n, c, rfl, by rw [World.cell?_alloc_mark]; simp, h.below ((bel0 w).alloc (Nat.le_refl _) _)⟩
  | 1, _ => exact ⟨_, _, B, m, d, rfl, by rw [World.cell?_alloc_mark]; simp, h2.below ((bel0 w).alloc (Nat.le_refl _) _)⟩
theorem LL.drop1 {w : World} {b o n c : Nat} {ls : List (List Int)} (h : LL w (some ⟨b, o, none⟩) n c ls) (h0 : 1 ≤ ls.length) : LL w (some ⟨b, o + 1, none⟩) (n - 1) (c - 1) (ls.drop 1) := by
  refine ⟨by rw [h.len, List.length_drop], by rw [List.length_drop]; have := h.le; omega, (by intro h; cases h), fun i hi => ?_, by rw [List.length_drop]; have := h.lim; omega⟩
  rw [List.length_drop] at hi
  obtain ⟨b', o', B, m, d, e, hc, hI⟩ := h.at' (1 + i) (by omega)
  cases e
  refine ⟨b, o + 1, B, m, d, rfl, by rw [Nat.add_assoc]; exact hc, ?_⟩
  rw [List.getElem_drop]
  exact hI
theorem any_snoc {α : Type} {p : α → Bool} {l : List α} {k : Nat} (hk : k < l.length) (h : (l.take k).any p = false) (h2 : p l[k] = false) : (l.take (k + 1)).any p = false := by
  rw [List.take_succ_eq_append_getElem hk, List.any_append, h]
  simp [h2]
theorem any_yes {α : Type} {p : α → Bool} {l : List α} {k : Nat} (hk : k < l.length) (h2 : p l[k] = true) : l.any p = true := List.any_eq_true.2 ⟨_, List.getElem_mem hk, h2⟩
def idxI (b : Bool) (k : Nat) : Int := if b then (k : Int) else -1

set_option maxHeartbeats 4000000 in
theorem may1_any {A : Option Addr} {n c : Nat} {l : List Int} {w : World} (h : IL w A n c l) :
    Calls Try.prog 49 #[.slice A n c] w fun e w' => e = .returned (.bool (!decide (Inc l))) ∧ Below w.heap.size w w' := by
  have HC := Lib.hid (checkI_any h)
  clear h
  unfold chkI at HC
  by_cases hi : Inc l
  · rw [if_pos hi] at HC
    have hd : (!decide (Inc l)) = false := by simp [hi]
    rw [hd]
    clear hd hi
    go_enter Try.func49, Try.ntmps49
    go_wp2_with fail
    refine HC.out.mono ?_
    rintro e w1 ⟨rfl, hb⟩
    go_wp2_with fail
    go_ret
    exact ⟨rfl, hb⟩
  · rw [if_neg hi] at HC
    have hd : (!decide (Inc l)) = true := by simp [hi]
    rw [hd]
    clear hd hi
    go_enter Try.func49, Try.ntmps49
    go_wp2_with fail
    refine HC.out.mono ?_
    rintro e w1 ⟨rfl, hb⟩
    go_wp2_with fail
    go_ret
    exact ⟨rfl, hb⟩
set_option maxHeartbeats 4000000 in
theorem and11_any {A : Option Addr} {n c : Nat} {l : List Int} {w : World} (x : Int) (q : Nat) (hq : w.cell? ⟨q, 0, none⟩ = some (.int .i64 x)) (h : IL w A n c l) (hi : Inc l) :
    Calls Try.prog 36 #[.slice A n c, .pointer (some ⟨q, 0, none⟩)] w fun e w' => e = .returned (.bool (!decide (x ∈ l))) ∧ Below w.heap.size w w' := by
  have HC := Lib.hid (in_any x h hi)
  clear h hi
  generalize decide (x ∈ l) = bb at *
  go_enter Try.func36, Try.ntmps36
  go_wp2_with fail
  refine HC.out.mono ?_
  rintro e w1 ⟨rfl, hb⟩
  go_wp2_with fail
  go_ret
  exact ⟨rfl, hb⟩

set_option maxHeartbeats 8000000 in
theorem idx_may {A : Option Addr} {n c : Nat} {ls : List (List Int)} {w : World} (h : LL w A n c ls) :
    Calls Try.prog 50 #[.slice A n c, .func (.func 49) #[] #[]] w fun e w' => (∃ k : Nat, e = .returned (.int .i64 (idxI (ls.any (fun l => !decide (Inc l))) k)) ∧ k ≤ ls.length) ∧ Below w.heap.size w w' := by
  obtain rfl := h.len
  have HL := Lib.hid h
  have hlim := h.lim
  clear h
  have CK : Hid (∀ (wr : World), Below w.heap.size w wr → ∀ k (hk : k < ls.length) (B : Option Addr) (m d : Nat), IL wr B m d ls[k] → Calls Try.prog 49 #[.slice B m d] wr fun e w' => e = .returned (.bool ((fun l => !decide (Inc l)) ls[k])) ∧ Below wr.heap.size wr w') := Lib.hid (fun wr hb k hk B m d hI => may1_any hI)
  go_enter Try.func50, Try.ntmps50
  go_wp2
  go_loopw [8] (fun i wr => ∃ k : Nat, k ≤ ls.length ∧ i = .int .i64 k ∧ Hid ((ls.take k).any (fun l => !decide (Inc l)) = false) ∧ Below w.heap.size w wr) (fun i _ => ls.length - (intOf i).toNat)
  case atStart => exact ⟨0, Nat.zero_le _, rfl, Lib.hid (by simp), bel0 w⟩
  case round =>
    obtain ⟨k, hk, rfl, HP, hb⟩ := hrel
    by_cases hlt : k < ls.length
    · obtain ⟨b, o, B, m, d, hA, hc, hI⟩ := (HL.out.below hb).at' k hlt
      have haa : (⟨b, o, none⟩ : Addr).add k = ⟨b, o + k, none⟩ := addr_add _ _ _
      have CK1 := Lib.hid (CK.out wr hb k hlt B m d hI)
      have HS := Lib.hid (fun h2 => any_snoc (p := (fun l => !decide (Inc l))) hlt HP.out h2)
      have HY := Lib.hid (fun h2 => any_yes (p := (fun l => !decide (Inc l))) hlt h2)
      obtain ⟨bb, hbb⟩ : ∃ bb, bb = (fun l => !decide (Inc l)) ls[k] := ⟨_, rfl⟩
      dsimp only at hbb
      rw [← hbb] at CK1 HS HY
      subst hA
      clear hbb hI
      cases bb with
      | true =>
        go_wp2_with fail
        refine CK1.out.mono ?_
        rintro e w1 ⟨rfl, hb1⟩
        go_wp2_with fail
        go_ret
        rw [HY.out (by trivial)]
        exact ⟨⟨k, rfl, hk⟩, nx hb hb1⟩
      | false =>
        go_wp2_with fail
        refine CK1.out.mono ?_
        rintro e w1 ⟨rfl, hb1⟩
        go_wp2_with fail
        exact ⟨⟨k + 1, by omega, by go_num, Lib.hid (HS.out (by trivial)), nx hb hb1⟩, by simp [intOf]; omega⟩
    · obtain rfl : k = ls.length := by omega
      rw [List.take_length] at HP
      go_wp2
      go_ret
      rw [HP.out]
      exact ⟨⟨0, rfl, Nat.zero_le _⟩, hb⟩
set_option maxHeartbeats 4000000 in
theorem contains_may {A : Option Addr} {n c : Nat} {ls : List (List Int)} {w : World} (h : LL w A n c ls) :
    Calls Try.prog 35 #[.slice A n c, .func (.func 49) #[] #[]] w fun e w' => e = .returned (.bool (ls.any (fun l => !decide (Inc l)))) ∧ Below w.heap.size w w' := by
  have HI := Lib.hid (idx_may h )
  have hlim := h.lim
  clear h
  generalize ls.any (fun l => !decide (Inc l)) = bb at *
  go_enter Try.func35, Try.ntmps35
  go_wp2_with fail
  refine HI.out.mono ?_
  rintro e w1 ⟨⟨k, rfl, hk⟩, hb⟩
  cases bb with
  | true =>
    unfold idxI
    rw [if_pos rfl]
    have hk0 : (0 : Int) ≤ (k : Int) := by omega
    go_wp2_with fail
    go_ret
    exact ⟨by simp, hb⟩
  | false =>
    unfold idxI
    rw [if_neg (by decide)]
    go_wp2_with fail
    go_ret
    exact ⟨rfl, hb⟩

set_option maxHeartbeats 8000000 in
theorem idx_and {A : Option Addr} {n c : Nat} {ls : List (List Int)} {w : World} (x : Int) (q : Nat) (h : LL w A n c ls) (hq : w.cell? ⟨q, 0, none⟩ = some (.int .i64 x)) (hi : ∀ l ∈ ls, Inc l) :
    Calls Try.prog 50 #[.slice A n c, .func (.func 36) #[] #[.pointer (some ⟨q, 0, none⟩)]] w fun e w' => (∃ k : Nat, e = .returned (.int .i64 (idxI (ls.any (fun l => !decide (x ∈ l))) k)) ∧ k ≤ ls.length) ∧ Below w.heap.size w w' := by
  obtain rfl := h.len
  have HL := Lib.hid h
  have hlim := h.lim
  clear h
  have CK : Hid (∀ (wr : World), Below w.heap.size w wr → ∀ k (hk : k < ls.length) (B : Option Addr) (m d : Nat), IL wr B m d ls[k] → Calls Try.prog 36 #[.slice B m d, .pointer (some ⟨q, 0, none⟩)] wr fun e w' => e = .returned (.bool ((fun l => !decide (x ∈ l)) ls[k])) ∧ Below wr.heap.size wr w') := Lib.hid (fun wr hb k hk B m d hI => and11_any x q ((hb.cell (p := ⟨q, 0, none⟩) (World.block_lt_of_cell? w _ hq)).trans hq) hI (hi _ (List.getElem_mem hk)))
  go_enter Try.func50, Try.ntmps50
  go_wp2
  go_loopw [8] (fun i wr => ∃ k : Nat, k ≤ ls.length ∧ i = .int .i64 k ∧ Hid ((ls.take k).any (fun l => !decide (x ∈ l)) = false) ∧ Below w.heap.size w wr) (fun i _ => ls.length - (intOf i).toNat)
  case atStart => exact ⟨0, Nat.zero_le _, rfl, Lib.hid (by simp), bel0 w⟩
  case round =>
    obtain ⟨k, hk, rfl, HP, hb⟩ := hrel
    by_cases hlt : k < ls.length
    · obtain ⟨b, o, B, m, d, hA, hc, hI⟩ := (HL.out.below hb).at' k hlt
      have haa : (⟨b, o, none⟩ : Addr).add k = ⟨b, o + k, none⟩ := addr_add _ _ _
      have CK1 := Lib.hid (CK.out wr hb k hlt B m d hI)
      have HS := Lib.hid (fun h2 => any_snoc (p := (fun l => !decide (x ∈ l))) hlt HP.out h2)
      have HY := Lib.hid (fun h2 => any_yes (p := (fun l => !decide (x ∈ l))) hlt h2)
      obtain ⟨bb, hbb⟩ : ∃ bb, bb = (fun l => !decide (x ∈ l)) ls[k] := ⟨_, rfl⟩
      dsimp only at hbb
      rw [← hbb] at CK1 HS HY
      subst hA
      clear hbb hI
      cases bb with
      | true =>
        go_wp2_with fail
        refine CK1.out.mono ?_
        rintro e w1 ⟨rfl, hb1⟩
        go_wp2_with fail
        go_ret
        rw [HY.out (by trivial)]
        exact ⟨⟨k, rfl, hk⟩, nx hb hb1⟩
      | false =>
        go_wp2_with fail
        refine CK1.out.mono ?_
        rintro e w1 ⟨rfl, hb1⟩
        go_wp2_with fail
        exact ⟨⟨k + 1, by omega, by go_num, Lib.hid (HS.out (by trivial)), nx hb hb1⟩, by simp [intOf]; omega⟩
    · obtain rfl : k = ls.length := by omega
      rw [List.take_length] at HP
      go_wp2
      go_ret
      rw [HP.out]
      exact ⟨⟨0, rfl, Nat.zero_le _⟩, hb⟩
set_option maxHeartbeats 4000000 in
theorem contains_and {A : Option Addr} {n c : Nat} {ls : List (List Int)} {w : World} (x : Int) (q : Nat) (h : LL w A n c ls) (hq : w.cell? ⟨q, 0, none⟩ = some (.int .i64 x)) (hi : ∀ l ∈ ls, Inc l) :
    Calls Try.prog 35 #[.slice A n c, .func (.func 36) #[] #[.pointer (some ⟨q, 0, none⟩)]] w fun e w' => e = .returned (.bool (ls.any (fun l => !decide (x ∈ l)))) ∧ Below w.heap.size w w' := by
  have HI := Lib.hid (idx_and x q h hq hi)
  have hlim := h.lim
  clear h
  generalize ls.any (fun l => !decide (x ∈ l)) = bb at *
  go_enter Try.func35, Try.ntmps35
  go_wp2_with fail
  refine HI.out.mono ?_
  rintro e w1 ⟨⟨k, rfl, hk⟩, hb⟩
  cases bb with
  | true =>
    unfold idxI
    rw [if_pos rfl]
    have hk0 : (0 : Int) ≤ (k : Int) := by omega
    go_wp2_with fail
    go_ret
    exact ⟨by simp, hb⟩
  | false =>
    unfold idxI
    rw [if_neg (by decide)]
    go_wp2_with fail
    go_ret
    exact ⟨rfl, hb⟩

def allI (ls : List (List Int)) : Bool := ls.all (fun l => decide (Inc l))
theorem allI_any (ls : List (List Int)) : (!ls.any (fun l => !decide (Inc l))) = allI ls := by
  unfold allI
  induction ls with
  | nil => rfl
  | cons a l ih => simp only [List.any_cons, List.all_cons, Bool.not_or, Bool.not_not, ih]
set_option maxHeartbeats 4000000 in
theorem may_anyI {A : Option Addr} {n c : Nat} {ls : List (List Int)} {w : World} (h : LL w A n c ls) :
    Calls Try.prog 32 #[.slice A n c] w fun e w' => e = .returned (.bool (allI ls)) ∧ Below w.heap.size w w' := by
  have HC := Lib.hid (contains_may h)
  clear h
  rw [← allI_any]
  generalize ls.any (fun l => !decide (Inc l)) = bb at *
  go_enter Try.func32, Try.ntmps32
  go_wp2_with fail
  refine HC.out.mono ?_
  rintro e w1 ⟨rfl, hb⟩
  go_wp2_with fail
  go_ret
  exact ⟨rfl, hb⟩
end Go.Proofs.Ythikhoamodcggaa
