/- Contracts of a reader of numbers and texts: what it is in memory; New, none, Fail, Err, Left. No conditions. -/
import Derived.Test.YtmnabhennibddaaGD07
import Derived.Lib.LazyBuf
import Derived.ChangeAlike
set_option linter.unusedSimpArgs false
set_option linter.unusedVariables false
namespace Go.Proofs.Ytmnabhennibddaa
open Go.RowKit

theorem add_add2 (a : Addr) (i j : Nat) : (a.add i).add j = a.add (i + j) := by
  unfold Addr.add
  cases a with
  | mk b o p =>
    by_cases hi : i = 0 <;> by_cases hj : j = 0 <;> simp [hi, hj, Nat.add_assoc]
theorem size_u8 (w : World) : (sizeOf (Try.prog.elem 22)).run Try.prog w = .ok 1 w := by
  obtain ⟨i5, hi5, hz5, hs5, hb5⟩ := info_parts infoU8
  rw [show Try.prog.elem 22 = 5 by kernel_rfl]
  simp [sizeOf, typeInfo, hi5, hs5]
/-- Where a slice begins that is cut ahead. -/
def dropA (A : Option Addr) (c k : Nat) : Option Addr := if c = k then A else A.map (·.add k)
set_option maxRecDepth 100000 in
theorem slice_drop {w : World} {A : Option Addr} {n c : Nat} {k : Nat} (hk : k ≤ n) (hc : n ≤ c) :
    (Instr.slice 22 (.slice A n c) (some (.int .i64 (k : Int))) none none).run Try.prog w = .ok (.slice (dropA A c k) (n - k) (c - k)) w := by
  have h1 : (k : Int) ≤ (n : Int) := by omega
  rw [run_slice_l w 22 A n c Try.underlying22 .i64 k (by omega) h1]
  rw [size_u8]
  simp only [sliced, Result.andThen, Int.toNat_natCast, dropA, Nat.mul_one]
set_option maxRecDepth 100000 in
theorem slice_take {w : World} {A : Option Addr} {n c : Nat} {k : Nat} (hk : k ≤ c) :
    (Instr.slice 22 (.slice A n c) none (some (.int .i64 (k : Int))) none).run Try.prog w = .ok (.slice A k c) w := by
  have h1 : (k : Int) ≤ (c : Int) := by omega
  rw [run_slice_h w 22 A n c Try.underlying22 .i64 k (by omega) h1]
  rw [size_u8]
  simp only [sliced, Result.andThen, Int.toNat_natCast, Nat.zero_mul, Nat.sub_zero]
  split
  · rfl
  · cases A <;> simp [Addr.add]
theorem BS.dropA {w : World} {A : Option Addr} {n c : Nat} {l : List Nat} (h : BS w A n c l) {k : Nat} (hk : k ≤ l.length) : BS w (dropA A c k) (n - k) (c - k) (l.drop k) := by
  have hle := h.le
  have hln := h.len
  refine ⟨by rw [List.length_drop]; omega, by rw [List.length_drop]; omega, ?_, ?_, h.byt.drop k, by have := h.lim; rw [List.length_drop]; omega⟩
  · intro e
    unfold Go.Proofs.Ytmnabhennibddaa.dropA at e
    split at e
    · have := h.nil e; omega
    · rw [Option.map_eq_none_iff] at e
      have := h.nil e; omega
  · intro i hi
    rw [length_bv, List.length_drop] at hi
    unfold Go.Proofs.Ytmnabhennibddaa.dropA
    rw [if_neg (by omega)]
    obtain ⟨ad, e, hc⟩ := h.lies.byte (i := k + i) (by omega)
    refine ⟨ad.add k, by rw [e]; rfl, ?_⟩
    rw [add_add2, hc]
    simp [bv]

/-- A slice of bytes that was there, again. -/
def CloneR (w w' : World) (e : Ending) (l : List Nat) : Prop :=
  ∃ v, e = .returned v ∧ w'.ownsRow w.heap.size 5 1 v l.length (bv l) ∧ Below w.heap.size w w'
set_option maxHeartbeats 4000000 in
theorem clone_any (A : Option Addr) (n c : Nat) (l : List Nat) (w : World) (h : BS w A n c l) :
    Calls Try.prog 28 #[.slice A n c] w fun e w' => CloneR w w' e l := by
  have HB := Lib.hid h
  have hq := fun w' => Lib.run_eql_slice_nil w' 22 5 A n c 0 0 Try.underlying22
  have hle := h.le
  have hnil := h.nil
  have hlim := h.lim
  cases A with
  | none =>
    have hc := hnil rfl
    have hl : l = [] := List.eq_nil_of_length_eq_zero (by omega)
    subst hl hc
    obtain rfl : n = 0 := h.len
    clear h hnil
    go_enter Try.func28, Try.ntmps28
    go_wp2_with fail
    go_ret
    exact ⟨_, rfl, World.ownsRow_nil .., bel0 _⟩
  | some a =>
    clear h hnil
    go_enter Try.func28, Try.ntmps28
    have hown : (w.alloc (.cells #[] 5)).ownsRow w.heap.size 5 1 (.slice (some ⟨w.heap.size, 0, none⟩) 0 0) ([] : List Nat).length (bv []) :=
      ⟨rfl, .inr ⟨w.heap.size, 0, #[], rfl, Nat.le_refl _, heap_alloc_new w _, Nat.le_refl _, Nat.zero_le _, rfl, rfl⟩⟩
    have HO := Lib.hid hown
    clear hown
    go_wp2_with (first | (at_builtin; refine append_bytes rfl (.tmp 5) (.tmp 6) rfl w.heap.size _ _ _ rfl HO.out _ _ _ rfl (HB.out.newBlock _) (by simp; omega) (by simp) ?_; intro v' w' ho' hg _) | fail)
    go_ret
    exact ⟨v', rfl, ho', grown_below ((bel0 w).alloc (Nat.le_refl _) _) hg (own_block HO.out)⟩

/-- A reader in memory: its block, the first of its blocks, the error, what is left. -/
def Rdr (w : World) (lo g : Nat) (e : Int) (l : List Nat) : Prop :=
  ∃ A n c m, w.heap[g]? = some (.cells #[.slice A n c, .int .i64 e, .bool true] 94 (0, 0)) ∧ lo ≤ g ∧ BS w A n c m ∧ (e = 0 → m = l) ∧ (∀ ad, A = some ad → lo ≤ ad.block ∧ ad.block < g)

set_option maxHeartbeats 4000000 in
theorem New_any (A : Option Addr) (n c : Nat) (l : List Nat) (w : World) (h : BS w A n c l) :
    Calls Try.prog 22 #[.slice A n c] w fun e w' => ∃ g, e = .returned (.pointer (some ⟨g, 0, none⟩)) ∧ Rdr w' w.heap.size g 0 l ∧ Below w.heap.size w w' := by
  have hbyt := h.byt
  have hlim := h.lim
  go_enter Try.func22, Try.ntmps22
  go_wp2_with fail
  refine (clone_any A n c l _ h).mono ?_
  rintro e w1 ⟨v, rfl, ho, hb⟩
  obtain ⟨A1, n1, c1, rfl, h1, h2⟩ := ownsRow_bs ho hbyt hlim
  go_wp2_with fail
  go_ret
  refine ⟨w1.heap.size, rfl, ⟨A1, n1, c1, l, heap_alloc_new w1 _, hb.size, h1.newBlock _, fun _ => rfl, h2⟩, hb.alloc hb.size _⟩

theorem cell_of {w : World} {g : Nat} {C : Array Value} {t : TypeId} {m : Nat × Nat} (h : w.heap[g]? = some (.cells C t m)) (i : Nat) : w.cell? ⟨g, i, none⟩ = C[i]? := by
  simp [World.cell?, h]
theorem frozen_of {w : World} {g : Nat} {C : Array Value} {t : TypeId} (h : w.heap[g]? = some (.cells C t (0, 0))) (i : Nat) : w.frozen? ⟨g, i, none⟩ = false := by
  simp [World.frozen?, h]
theorem heap_set {w : World} {g : Nat} {C : Array Value} {t : TypeId} {m : Nat × Nat} (h : w.heap[g]? = some (.cells C t m)) (i : Nat) (v : Value) : (w.setCell ⟨g, i, none⟩ v).heap[g]? = some (.cells (C.setIfInBounds i v) t m) := by
  simp only [World.setCell, Array.getElem?_modify, if_true, h, Option.map_some]
  rfl
theorem grown_set (w : World) (g i : Nat) (v : Value) : w.grownBy (w.setCell ⟨g, i, none⟩ v) (some g) :=
  ⟨rfl, rfl, rfl, by simp [World.setCell], fun k hk hne => Below.heap_setCell _ _ _ _ (fun e => hne (by rw [e]))⟩
theorem block_add (a : Addr) (i : Nat) : (a.add i).block = a.block := by
  unfold Addr.add; split <;> rfl
/-- A slice of bytes is as it was where only another block was written. -/
theorem BS.grown {w w' : World} {A : Option Addr} {n c : Nat} {l : List Nat} {row : Option Nat} (h : BS w A n c l) (hg : w.grownBy w' row) (hr : ∀ ad k, A = some ad → row = some k → ad.block ≠ k) : BS w' A n c l := by
  refine ⟨h.len, h.le, h.nil, ?_, h.byt, h.lim⟩
  intro i hi
  obtain ⟨ad, e, hc⟩ := h.lies i hi
  refine ⟨ad, e, ?_⟩
  rw [← hc]
  refine World.cell?_of_block (w := w) (hg.block _ (World.block_lt_of_cell? w _ hc) ?_)
  intro e2
  exact hr ad _ e e2.symm (block_add ad i).symm
theorem Rdr.lt {w : World} {lo g : Nat} {e : Int} {l : List Nat} (h : Rdr w lo g e l) : lo ≤ g ∧ g < w.heap.size := by
  obtain ⟨A, n, c, m, h1, h2, _⟩ := h
  exact ⟨h2, (Array.getElem?_eq_some_iff.1 h1).1⟩
/-- A reader is as it was where only a block beside its own was written. -/
theorem Rdr.grown {w w' : World} {lo g : Nat} {e : Int} {l : List Nat} {row : Option Nat} (h : Rdr w lo g e l) (hg : w.grownBy w' row) (hr : ∀ k, row = some k → k < lo ∨ g < k) : Rdr w' lo g e l := by
  have hlt := h.lt.2
  obtain ⟨A, n, c, m, h1, h2, h3, h4, h5⟩ := h
  refine ⟨A, n, c, m, ?_, h2, ?_, h4, h5⟩
  · rw [hg.block g hlt (fun e => by have := hr g e.symm; omega)]; exact h1
  · exact h3.grown hg fun ad k e e2 => by have := h5 ad e; have := hr k e2; omega
theorem Rdr.below {w w' : World} {lo g : Nat} {e : Int} {l : List Nat} (h : Rdr w lo g e l) (hb : Below w.heap.size w w') : Rdr w' lo g e l :=
  h.grown (row := none) ⟨hb.os, hb.tape, hb.output, hb.size, fun k hk _ => hb.block k hk⟩ (fun k h => by cases h)

set_option maxHeartbeats 4000000 in
theorem none_any {lo g : Nat} {e : Int} {l : List Nat} {w : World} (h : Rdr w lo g e l) :
    Calls Try.prog 55 #[.pointer (some ⟨g, 0, none⟩)] w fun e w' => e = .returned (.bool false) ∧ w = w' := by
  obtain ⟨A, n, c, m, h1, _⟩ := h
  have c2 := cell_of h1 2
  simp at c2
  clear h1
  go_enter Try.func55, Try.ntmps55
  go_wp2_with fail
  go_ret
  exact ⟨rfl, rfl⟩
theorem Rdr.set1 {w : World} {lo g : Nat} {e : Int} {l : List Nat} (h : Rdr w lo g e l) (k : Int) (l' : List Nat) (hl : k = 0 → e = 0 ∧ l' = l) : Rdr (w.setCell ⟨g, 1, none⟩ (.int .i64 k)) lo g k l' := by
  obtain ⟨A, n, c, m, h1, h2, h3, h4, h5⟩ := h
  refine ⟨A, n, c, m, ?_, h2, h3.grown (grown_set w g 1 _) (fun ad k e e2 => by cases e2; have := h5 ad e; omega), fun hk => (h4 (hl hk).1).trans (hl hk).2.symm, h5⟩
  rw [heap_set h1]; rfl
theorem Rdr.any {w : World} {lo g : Nat} {e : Int} {l : List Nat} (h : Rdr w lo g e l) (he : e ≠ 0) (l' : List Nat) : Rdr w lo g e l' := by
  obtain ⟨A, n, c, m, h1, h2, h3, h4, h5⟩ := h
  exact ⟨A, n, c, m, h1, h2, h3, fun h => absurd h he, h5⟩
theorem grown_refl (w : World) (row : Option Nat) : w.grownBy w row := ⟨rfl, rfl, rfl, Nat.le_refl _, fun _ _ _ => rfl⟩

set_option maxHeartbeats 4000000 in
theorem Fail_any {lo g : Nat} {e : Int} {l : List Nat} {w : World} (k : Int) (h : Rdr w lo g e l) :
    Calls Try.prog 53 #[.pointer (some ⟨g, 0, none⟩), .int .i64 k] w fun r w' => r = .returned (.tuple #[]) ∧ Rdr w' lo g (if e = 0 then k else e) l ∧ w.grownBy w' (some g) := by
  have h0 := h
  obtain ⟨A, n, c, m, h1, _⟩ := h
  have c1 := cell_of h1 1
  have f1 := frozen_of h1 1
  simp at c1
  clear h1
  by_cases he : e = 0
  · subst he
    have HH := Lib.hid h0
    go_enter Try.func53, Try.ntmps53
    go_wp2_with fail
    refine (none_any h0).mono ?_
    rintro e w1 ⟨rfl, rfl⟩
    clear h0
    go_wp2_with fail
    go_end0
    exact ⟨rfl, HH.out.set1 k l (fun _ => ⟨rfl, rfl⟩), grown_set _ _ _ _⟩
  · have HH := Lib.hid h0
    go_enter Try.func53, Try.ntmps53
    go_wp2_with fail
    refine (none_any h0).mono ?_
    rintro e w1 ⟨rfl, rfl⟩
    clear h0
    go_wp2_with fail
    go_end0
    exact ⟨rfl, HH.out, grown_refl _ _⟩
set_option maxHeartbeats 4000000 in
theorem Err_any {lo g : Nat} {e : Int} {l : List Nat} {w : World} (h : Rdr w lo g e l) :
    Calls Try.prog 24 #[.pointer (some ⟨g, 0, none⟩)] w fun r w' => r = .returned (.int .i64 e) ∧ w = w' := by
  have h0 := h
  obtain ⟨A, n, c, m, h1, _⟩ := h
  have c1 := cell_of h1 1
  simp at c1
  clear h1
  go_enter Try.func24, Try.ntmps24
  go_wp2_with fail
  refine (none_any h0).mono ?_
  rintro e w1 ⟨rfl, rfl⟩
  clear h0
  go_wp2_with fail
  go_ret
  exact ⟨rfl, rfl⟩
set_option maxHeartbeats 4000000 in
theorem Left_any {lo g : Nat} {e : Int} {l : List Nat} {w : World} (h : Rdr w lo g e l) :
    Calls Try.prog 62 #[.pointer (some ⟨g, 0, none⟩)] w fun r w' => r = .returned (.int .i64 ((if e = 0 then l.length else 0 : Nat) : Int)) ∧ w = w' := by
  have h0 := h
  obtain ⟨A, n, c, m, h1, _, h2, h3, _⟩ := h
  have c1 := cell_of h1 1
  have c0 := cell_of h1 0
  simp at c1 c0
  have hl := h2.len
  clear h1 h2
  by_cases he : e = 0
  · subst he
    have := h3 rfl
    subst this
    clear h3
    go_enter Try.func62, Try.ntmps62
    go_wp2_with fail
    refine (none_any h0).mono ?_
    rintro e w1 ⟨rfl, rfl⟩
    clear h0
    go_wp2_with fail
    go_ret
    exact ⟨rfl, rfl⟩
  · rw [if_neg he]
    go_enter Try.func62, Try.ntmps62
    go_wp2_with fail
    refine (none_any h0).mono ?_
    rintro e w1 ⟨rfl, rfl⟩
    clear h0
    go_wp2_with fail
    go_ret
    exact ⟨rfl, rfl⟩

/-- What is taken off: is it there, the bytes, the error, what is left. -/
def tk (e n : Int) (l : List Nat) : Bool × List Nat × Int × List Nat :=
  if e ≠ 0 then (false, [], e, l) else if n < 0 then (false, [], 2, l) else if (l.length : Int) < n then (false, [], 3, l) else (true, l.take n.toNat, 0, l.drop n.toNat)
/-- .. in memory. -/
def TakeR (w w' : World) (e : Ending) (lo g : Nat) (r : Bool × List Nat × Int × List Nat) : Prop :=
  ∃ A n c, e = .returned (.tuple #[.slice A n c, .bool r.1]) ∧ BS w' A n c r.2.1 ∧ (∀ ad, A = some ad → lo ≤ ad.block ∧ ad.block < g) ∧ Rdr w' lo g r.2.2.1 r.2.2.2 ∧ w.grownBy w' (some g)
set_option maxHeartbeats 4000000 in
theorem take_any {lo g : Nat} {e : Int} {l : List Nat} {w : World} (n : Int) (h : Rdr w lo g e l) :
    Calls Try.prog 80 #[.pointer (some ⟨g, 0, none⟩), .int .i64 n] w fun r w' => TakeR w w' r lo g (tk e n l) := by
  have HH := Lib.hid h
  obtain ⟨A, k, c, m, h1, hg, h2, h3, h5⟩ := h
  have c1 := cell_of h1 1
  have f1 := frozen_of h1 1
  have c0 := cell_of h1 0
  have f0 := frozen_of h1 0
  simp at c1 c0
  have H1 := Lib.hid h1
  have H2 := Lib.hid h2
  have H5 := Lib.hid h5
  have hl := h2.len
  have hle := h2.le
  clear h1 h2 h5
  by_cases he : e = 0
  · subst he
    have := h3 rfl
    subst this
    clear h3
    by_cases hn : n < 0
    · go_enter Try.func80, Try.ntmps80
      go_wp2_with fail
      go_ret2
      unfold tk
      rw [if_neg (by simp), if_pos hn]
      exact ⟨none, 0, 0, rfl, BS.empty _, (fun _ h => by cases h), HH.out.set1 2 _ (by simp), grown_set _ _ _ _⟩
    · by_cases hx : (m.length : Int) < n
      · have hx' : (k : Int) < n := by omega
        go_enter Try.func80, Try.ntmps80
        go_wp2_with fail
        go_ret2
        unfold tk
        rw [if_neg (by simp), if_neg (show ¬ n < 0 by omega), if_pos hx]
        exact ⟨none, 0, 0, rfl, BS.empty _, (fun _ h => by cases h), HH.out.set1 3 _ (by simp), grown_set _ _ _ _⟩
      · obtain ⟨j, rfl⟩ := Int.eq_ofNat_of_zero_le (show 0 ≤ n by omega)
        have hj : j ≤ k := by omega
        have hj' : (j : Int) ≤ (k : Int) := by omega
        have q1 := fun w' => slice_take (w := w') (A := A) (n := k) (c := c) (k := j) (by omega)
        have ht : tk 0 (j : Int) m = (true, m.take j, 0, m.drop j) := by
          unfold tk
          rw [if_neg (by simp), if_neg hn, if_neg hx, Int.toNat_natCast]
        have HT := Lib.hid ht
        have HG : Hid (BS (w.setCell ⟨g, 0, none⟩ (.slice (dropA A c j) (m.length - j) (c - j))) A k c m) := Lib.hid (H2.out.grown (grown_set w g 0 _) (fun ad k e e2 => by cases e2; have := H5.out ad e; omega))
        have HR : Hid (Rdr (w.setCell ⟨g, 0, none⟩ (.slice (dropA A c j) (m.length - j) (c - j))) lo g 0 (m.drop j)) := by
          refine Lib.hid ⟨dropA A c j, k - j, c - j, m.drop j, ?_, hg, HG.out.dropA (by omega), fun _ => rfl, ?_⟩
          · rw [heap_set H1.out, hl]; rfl
          · intro ad e
            unfold dropA at e
            split at e
            · exact H5.out ad e
            · cases A with
              | none => cases e
              | some a => cases e; rw [block_add]; exact H5.out a rfl
        clear ht
        by_cases hcj : c = j
        · have hd : dropA A c j = A := if_pos hcj
          rw [hd] at HG HR
          clear hd
          subst hcj
          have hmc : m.length - c = 0 := by omega
          rw [Nat.sub_self, hmc] at HG HR
          clear hmc
          go_enter Try.func80, Try.ntmps80
          go_wp2_with fail
          go_ret2
          show TakeR ..
          rw [HT.out]
          exact ⟨A, c, c, rfl, HG.out.cutN (by omega), H5.out, HR.out, grown_set _ _ _ _⟩
        · have hd : dropA A c j = Option.map (fun x => x.add j) A := if_neg hcj
          rw [hd] at HG HR
          clear hd
          go_enter Try.func80, Try.ntmps80
          go_wp2_with fail
          go_ret2
          show TakeR ..
          rw [HT.out]
          exact ⟨A, j, c, rfl, HG.out.cutN (by omega), H5.out, HR.out, grown_set _ _ _ _⟩
  · have ht : tk e n l = (false, [], e, l) := by
      unfold tk
      rw [if_pos he]
    have HT := Lib.hid ht
    clear ht
    go_enter Try.func80, Try.ntmps80
    go_wp2_with fail
    go_ret2
    show TakeR ..
    rw [HT.out]
    exact ⟨none, 0, 0, rfl, BS.empty _, (fun _ h => by cases h), HH.out, grown_refl _ _⟩
end Go.Proofs.Ytmnabhennibddaa
