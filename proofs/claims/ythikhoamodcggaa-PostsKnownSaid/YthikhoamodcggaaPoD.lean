/- slices.Clone of numbers; posts.Put, Page, Has: contracts. No conditions. -/
import Derived.Test.YthikhoamodcggaaPoC
import Derived.ArgAppend
import Derived.OrdersHeld
import Derived.Deep.RegionHeld
import Derived.Deep.RegionLawGrows
set_option linter.unusedSimpArgs false
set_option linter.unusedVariables false
namespace Go.Proofs.Ythikhoamodcggaa
open Go.RowKit

theorem take_skip {P : Program} {md : _} {ops : Array Oper} {Q : Exit → Act → World → Prop} {S : World → Prop} {i d : Nat} {oi : Oper} {fuel : Nat} {listed : Array Bool} {a : Act} {w : World} (hi : ops[i]? = some oi) (hd : oi.dst = some d)
    (hs : Region.noSelect ops = true) (hf : Region.free md ops listed i = true) (hr : (Region.ready md ops listed).contains i = true) (hQ : ∀ c a w, Q (.panic c) (a.put (some d) undef) w → Q (.panic c) a w)
    (hw : Region.wanted oi (yielded ops a.tmps) = false) (hS : S w) (h : wpAnyH P md ops Q S fuel (listed.setIfInBounds i true) (a.put (some d) undef) w) : wpAnyH P md ops Q S (fuel + 1) listed a w :=
  wpAnyH_take hi hs hf hr (by rw [hd]; exact hQ) (Or.inr ⟨hw, rfl⟩) hS (by rw [hd]; exact h)
theorem take_val {P : Program} {md : _} {ops : Array Oper} {Q : Exit → Act → World → Prop} {S : World → Prop} {i d : Nat} {oi : Oper} {v : Value} {fuel : Nat} {listed : Array Bool} {a : Act} {w : World} (hi : ops[i]? = some oi) (hd : oi.dst = some d)
    (hs : Region.noSelect ops = true) (hf : Region.free md ops listed i = true) (hr : (Region.ready md ops listed).contains i = true) (hQ : ∀ c a w, Q (.panic c) (a.put (some d) v) w → Q (.panic c) a w)
    (hw : Region.wanted oi (yielded ops a.tmps) = true) (hy : ∀ w, S w → (execOp a.eval oi).run P w = .ok (.value v) w) (hS : S w) (h : wpAnyH P md ops Q S fuel (listed.setIfInBounds i true) (a.put (some d) v) w) : wpAnyH P md ops Q S (fuel + 1) listed a w :=
  wpAnyH_take hi hs hf hr (by rw [hd]; exact hQ) (Or.inl ⟨hw, hy⟩) hS (by rw [hd]; exact h)
theorem step_append_ints {w : World} {ops : Array Oper} {o : Oper} {a : Act} {K : Act → World → Prop} {Q : Exit → Act → World → Prop} {E : Prop} (hgd : o.guard = none) (s x : Operand)
    (ho : o.op = .call { callee := .builtin .append, args := #[s, x], argTypes := #[23, 23] })
    (base : Nat) (v : Value) (l m : List Int) (hs : a.eval s = v) (hown : w.ownsRow base 3 1 v l.length (iv l))
    (A : Option Addr) (n c : Nat) (hx : a.eval x = .slice A n c) (hm : IL w A n c m) (hb : l.length + m.length ≤ 17592186044416) (hbase : base ≤ w.heap.size)
    (h : ∀ v' w', w'.ownsRow base 3 1 v' (l ++ m).length (iv (l ++ m)) → w.grownBy w' v.ownBlock → (∀ k, v'.ownBlock = some k → v.ownBlock = some k ∨ w.heap.size ≤ k) → K (a.put o.dst v') w') :
    if Region.wanted o (yielded ops a.tmps) = true then Oper.wp Try.prog o a w K Q else E := by
  have hw : Region.wanted o (yielded ops a.tmps) = true := by simp [Region.wanted, hgd]
  rw [if_pos hw]
  exact wp_append_ints s x ho base v l m hs hown A n c hx hm hb hbase h
theorem own1 {w : World} {base : Nat} {v : Value} {k : Nat} {l : List Int} {x : Int} (h : w.ownsRow base 3 1 v (k + 1) (iv l ++ [.int .i64 x])) (hl : l.length = k) : w.ownsRow base 3 1 v (l ++ [x]).length (iv (l ++ [x])) := by
  rw [iv_append, List.length_append, hl]
  exact h

theorem add_addI2 (a : Addr) (i j : Nat) : (a.add i).add j = a.add (i + j) := by
  unfold Addr.add
  cases a with
  | mk b o p =>
    by_cases hi : i = 0 <;> by_cases hj : j = 0 <;> simp [hi, hj, Nat.add_assoc]
theorem size_i64 (w : World) : (sizeOf (Try.prog.elem 23)).run Try.prog w = .ok 1 w := by
  obtain ⟨i5, hi5, hz5, hs5, hb5⟩ := info_parts infoI64
  rw [show Try.prog.elem 23 = 3 by kernel_rfl]
  simp [sizeOf, typeInfo, hi5, hs5]
/-- Where a slice begins that is cut ahead. -/
def dropI (A : Option Addr) (c k : Nat) : Option Addr := if c = k then A else A.map (·.add k)
set_option maxRecDepth 100000 in
theorem slice_dropI {w : World} {A : Option Addr} {n c : Nat} {k : Nat} (hk : k ≤ n) (hc : n ≤ c) :
    (Instr.slice 23 (.slice A n c) (some (.int .i64 (k : Int))) none none).run Try.prog w = .ok (.slice (dropI A c k) (n - k) (c - k)) w := by
  have h1 : (k : Int) ≤ (n : Int) := by omega
  rw [run_slice_l w 23 A n c Try.underlying23 .i64 k (by omega) h1]
  rw [size_i64]
  simp only [sliced, Result.andThen, Int.toNat_natCast, dropI, Nat.mul_one]
set_option maxRecDepth 100000 in
theorem slice_takeI {w : World} {A : Option Addr} {n c : Nat} {k : Nat} (hk : k ≤ c) :
    (Instr.slice 23 (.slice A n c) none (some (.int .i64 (k : Int))) none).run Try.prog w = .ok (.slice A k c) w := by
  have h1 : (k : Int) ≤ (c : Int) := by omega
  rw [run_slice_h w 23 A n c Try.underlying23 .i64 k (by omega) h1]
  rw [size_i64]
  simp only [sliced, Result.andThen, Int.toNat_natCast, Nat.zero_mul, Nat.sub_zero]
  split
  · rfl
  · cases A <;> simp [Addr.add]
set_option maxRecDepth 100000 in
theorem slice_fullI {w : World} {A : Option Addr} {n c : Nat} {k : Nat} (hk : k ≤ c) :
    (Instr.slice 23 (.slice A n c) none (some (.int .i64 (k : Int))) (some (.int .i64 (k : Int)))).run Try.prog w = .ok (.slice A k k) w := by
  have h1 : (k : Int) ≤ (c : Int) := by omega
  rw [run_slice_hm w 23 A n c Try.underlying23 .i64 .i64 k k (by omega) (by omega) h1]
  rw [size_i64]
  simp only [sliced, Result.andThen, Int.toNat_natCast, Nat.zero_mul, Nat.sub_zero]
  split
  · rfl
  · cases A <;> simp [Addr.add]
theorem IL.dropA {w : World} {A : Option Addr} {n c : Nat} {l : List Int} (h : IL w A n c l) {k : Nat} (hk : k ≤ l.length) : IL w (dropI A c k) (n - k) (c - k) (l.drop k) := by
  have hle := h.le
  have hln := h.len
  refine ⟨by rw [List.length_drop]; omega, by rw [List.length_drop]; omega, ?_, ?_, fun x hx => h.fit x (List.mem_of_mem_drop hx), by have := h.lim; rw [List.length_drop]; omega⟩
  · intro e
    unfold dropI at e
    split at e
    · have := h.nil e; omega
    · rw [Option.map_eq_none_iff] at e
      have := h.nil e; omega
  · intro i hi
    rw [iv_length, List.length_drop] at hi
    unfold dropI
    rw [if_neg (by omega)]
    obtain ⟨ad, e, hc⟩ := h.cellAt (bel0 w) (show k + i < l.length by omega)
    refine ⟨ad.add k, by rw [e]; rfl, ?_⟩
    rw [add_addI2, hc]
    simp [iv]
theorem IL.cutN {w : World} {A : Option Addr} {n c : Nat} {l : List Int} (h : IL w A n c l) {k : Nat} (hk : k ≤ l.length) : IL w A k c (l.take k) := by
  refine ⟨by rw [List.length_take]; omega, by rw [List.length_take]; have := h.le; omega, h.nil, ?_, fun x hx => h.fit x (List.mem_of_mem_take hx), by rw [List.length_take]; have := h.lim; omega⟩
  intro i hi
  rw [iv_length, List.length_take] at hi
  obtain ⟨ad, e, hc⟩ := h.cellAt (bel0 w) (show i < l.length by omega)
  exact ⟨ad, e, by rw [hc]; simp [iv]⟩
theorem clone_ints {A : Option Addr} {n c : Nat} {l : List Int} {w : World} (h : IL w A n c l) :
    Calls Try.prog 46 #[.slice A n c] w fun e w' => OneI w w' e l := by
  obtain rfl := h.len
  have hlim := h.lim
  by_cases h0 : l.length = 0
  · have : l = [] := List.length_eq_zero_iff.1 h0
    subst this
    cases A with
    | none =>
      refine (Try.slices_Clone_int_nil 0 c w).mono ?_
      rintro e w' ⟨rfl, rfl⟩
      exact ⟨_, rfl, World.ownsRow_nil _ _ _ _, bel0 _⟩
    | some a =>
      refine (Try.slices_Clone_int_zero a c w).mono ?_
      rintro e w' ⟨v, rfl, ho, _, hb⟩
      exact ⟨v, rfl, ho, hb⟩
  · obtain ⟨b, o, rfl⟩ := h.plain (by omega)
    refine (Try.slices_Clone_int b o l.length c l w (Nat.le_refl _) (by omega) (fun j hj => ?_)).mono ?_
    · rw [h.cells (bel0 w) hj, List.getD_eq_getElem?_getD, List.getElem?_eq_getElem hj]; rfl
    · rintro e w' ⟨v, rfl, ho, _, hb⟩
      rw [List.take_length] at ho
      exact ⟨v, rfl, ho, hb⟩

/-- What Put answers. -/
def insI (l : List Int) (x : Int) : List Int := l.take (l.countP (· < x)) ++ x :: l.drop (l.countP (· < x))
def putP (l : List Int) (x : Int) : List Int × Int := if Inc l then (if x < 0 then ([], 9) else if x ∈ l then (l, 0) else (insI l x, 0)) else ([], 2)
theorem below_nx {w a b : World} (h : Below w.heap.size w a) (h2 : Below a.heap.size a b) : Below w.heap.size w b := nx h h2

set_option maxHeartbeats 16000000 in
set_option maxRecDepth 100000 in
theorem Put_any {A : Option Addr} {n c : Nat} {l : List Int} {w : World} (x : Int) (hx : I64 x) (h : IL w A n c l) (hll : l.length < 17592186044416) :
    Calls Try.prog 22 #[.slice A n c, .int .i64 x] w fun e w' => TwoI w w' e (putP l x).1 (putP l x).2 := by
  obtain ⟨L, rfl⟩ : ∃ L, L = n := ⟨_, rfl⟩
  have hL : L = l.length := h.len
  have HLL := Lib.hid hL
  have HL := Lib.hid h
  have hle : L ≤ c := by rw [hL]; exact h.le
  have hlim : L < 17592186044416 := by rw [hL]; exact hll
  clear hll
  obtain ⟨W2, hW2⟩ : ∃ W, W = w.alloc (.cells #[.slice A L c] 23) := ⟨_, rfl⟩
  have hb2 : Below w.heap.size w W2 := by rw [hW2]; exact (bel0 w).alloc (Nat.le_refl _) _
  have HM : Hid (Calls Try.prog 32 #[.slice (some ⟨w.heap.size, 0, none⟩) 1 1] W2 fun e w' => e = .returned (.bool (decide (Inc l))) ∧ Below W2.heap.size W2 w') := Lib.hid (by
    have := may_anyI (LL.one h 23)
    rw [allI_one, ← hW2] at this
    exact this)
  have hx1 := hx.1
  have hx2 := hx.2
  clear h hL hx
  unfold putP
  by_cases hi : Inc l
  · rw [if_pos hi]
    rw [decide_eq_true hi] at HM
    by_cases hneg : x < 0
    · rw [if_pos hneg]
      clear hi
      go_enter Try.func22, Try.ntmps22
      go_wp2_with fail
      rw [← hW2]
      refine HM.out.mono ?_
      rintro e w3 ⟨rfl, hb3⟩
      go_wp2_with fail
      go_ret2
      exact ⟨_, rfl, World.ownsRow_nil _ _ _ _, nx hb2 hb3⟩
    · rw [if_neg hneg]
      have HI := Lib.hid hi
      obtain ⟨k, hk⟩ : ∃ k, k = l.countP (· < x) := ⟨_, rfl⟩
      have hkl : k ≤ L := by rw [hk, HLL.out]; exact List.countP_le_length
      have HB := Lib.hid (fun (w' : World) (hb : Below w.heap.size w w') => bsearch_any x (HL.out.below hb) hi)
      rw [← hk] at HB
      by_cases hm : x ∈ l
      · rw [if_pos hm]
        rw [decide_eq_true hm] at HB
        have HC := Lib.hid (fun (w' : World) (hb : Below w.heap.size w w') => clone_ints (HL.out.below hb))
        clear hi hm hk
        go_enter Try.func22, Try.ntmps22
        go_wp2_with fail
        rw [← hW2]
        refine HM.out.mono ?_
        rintro e w3 ⟨rfl, hb3⟩
        have hbw3 := nx hb2 hb3
        go_wp2_with fail
        refine (HB.out _ hbw3).mono ?_
        rintro e w4 ⟨rfl, hb4⟩
        have hbw4 := nx hbw3 hb4
        go_wp2_with fail
        refine (HC.out _ hbw4).mono ?_
        rintro e w5 ⟨v, rfl, ho, hb5⟩
        have HO := Lib.hid ho
        clear ho
        go_wp2_with fail
        go_ret2
        exact ⟨v, rfl, ownsRow_base HO.out hbw4.size, nx hbw4 hb5⟩
      · rw [if_neg hm]
        rw [decide_eq_false hm] at HB
        unfold insI
        rw [← hk]
        have q1 := fun w' => slice_fullI (w := w') (A := A) (n := L) (c := c) (k := k) (by omega)
        have q2 := fun w' => slice_dropI (w := w') (A := A) (n := L) (c := c) (k := k) hkl hle
        have HKL : Hid (k ≤ l.length) := Lib.hid (by rw [← HLL.out]; exact hkl)
        have HNO : Hid (A = none → k = 0 ∧ k = 0) := Lib.hid (fun e => by have := HL.out.nil e; omega)
        obtain ⟨i0, hi0, hz0, hs0, hb0⟩ := info_parts infoI64
        clear hi hm hk
        go_enter Try.func22, Try.ntmps22
        go_wp2_with fail
        rw [← hW2]
        refine HM.out.mono ?_
        rintro e w3 ⟨rfl, hb3⟩
        have hbw3 := nx hb2 hb3
        go_wp2_with fail
        refine (HB.out _ hbw3).mono ?_
        rintro e w5 ⟨rfl, hb4⟩
        have hbw5 := nx hbw3 hb4
        have HCE := Lib.hid (fun (w' : World) (hb : Below w5.heap.size w5 w') => show ∀ b, A = some b → ∀ j u, (iv (l.take k))[j]? = some u → w'.cell? (b.add j) = some u from fun b e j u hj => by
          have hI := (HL.out.below (nx hbw5 hb)).cutN HKL.out
          obtain ⟨hj', rfl⟩ := List.getElem?_eq_some_iff.1 hj
          obtain ⟨ad, e', hc⟩ := hI.lies j hj'
          rw [e] at e'
          cases e'
          exact hc)
        have HDR := Lib.hid ((HL.out.below hbw5).dropA HKL.out)
        have k0 : (0 : Int) ≤ (k : Int) := by omega
        have k1 : (k : Int) ≤ (L : Int) := by omega
        have k2 : (k : Int) ≤ (c : Int) := by omega
        go_wp2_with fail
        refine wp_region_held_drew (S := (fun w' => Below w5.heap.size w5 w')) (by kernel_rfl) (bel0 w5).drew (fun hHeld => ?_)
        refine' take_val (i := 0) (d := 25) (v := _) rfl rfl (by kernel_rfl) (by kernel_rfl) (by kernel_rfl) (fun _ _ _ h => h) (by rfl) ?_ (by assumption) ?_
        rotate_left
        · (intro w hSw; (try dsimp only at hSw); go_simp; (try with_reducible rfl))
        (try simp only [Act.put, List.setIfInBounds_toArray, List.set_cons_zero, List.set_cons_succ])
        refine' take_val (i := 1) (d := 26) (v := _) rfl rfl (by kernel_rfl) (by kernel_rfl) (by kernel_rfl) (fun _ _ _ h => h) (by rfl) ?_ (by assumption) ?_
        rotate_left
        · (intro w hSw; (try dsimp only at hSw); go_simp; (try with_reducible rfl))
        (try simp only [Act.put, List.setIfInBounds_toArray, List.set_cons_zero, List.set_cons_succ])
        refine' take_val (i := 2) (d := 27) (v := _) rfl rfl (by kernel_rfl) (by kernel_rfl) (by kernel_rfl) (fun _ _ _ h => h) (by rfl) ?_ (by assumption) ?_
        rotate_left
        · (intro w hSw; (try dsimp only at hSw); go_simp; (try with_reducible rfl))
        (try simp only [Act.put, List.setIfInBounds_toArray, List.set_cons_zero, List.set_cons_succ])
        refine' take_val (i := 3) (d := 28) (v := _) rfl rfl (by kernel_rfl) (by kernel_rfl) (by kernel_rfl) (fun _ _ _ h => h) (by rfl) ?_ (by assumption) ?_
        rotate_left
        · (intro w hSw; (try dsimp only at hSw); go_simp; (try with_reducible rfl))
        (try simp only [Act.put, List.setIfInBounds_toArray, List.set_cons_zero, List.set_cons_succ])
        refine' take_val (i := 4) (d := 29) (v := _) rfl rfl (by kernel_rfl) (by kernel_rfl) (by kernel_rfl) (fun _ _ _ h => h) (by rfl) ?_ (by assumption) ?_
        rotate_left
        · (intro w hSw; (try dsimp only at hSw); go_simp; (try with_reducible rfl))
        (try simp only [Act.put, List.setIfInBounds_toArray, List.set_cons_zero, List.set_cons_succ])
        refine' take_val (i := 7) (d := 32) (v := _) rfl rfl (by kernel_rfl) (by kernel_rfl) (by kernel_rfl) (fun _ _ _ h => h) (by rfl) ?_ (by assumption) ?_
        rotate_left
        · (intro w hSw; (try dsimp only at hSw); go_simp; (try with_reducible rfl))
        (try simp only [Act.put, List.setIfInBounds_toArray, List.set_cons_zero, List.set_cons_succ])
        refine' take_val (i := 8) (d := 33) (v := _) rfl rfl (by kernel_rfl) (by kernel_rfl) (by kernel_rfl) (fun _ _ _ h => h) (by rfl) ?_ (by assumption) ?_
        rotate_left
        · (intro w hSw; (try dsimp only at hSw); go_simp; (try with_reducible rfl))
        (try simp only [Act.put, List.setIfInBounds_toArray, List.set_cons_zero, List.set_cons_succ])
        refine' take_val (i := 9) (d := 34) (v := _) rfl rfl (by kernel_rfl) (by kernel_rfl) (by kernel_rfl) (fun _ _ _ h => h) (by rfl) ?_ (by assumption) ?_
        rotate_left
        · (intro w hSw; (try dsimp only at hSw); go_simp; (try with_reducible rfl))
        (try simp only [Act.put, List.setIfInBounds_toArray, List.set_cons_zero, List.set_cons_succ])
        refine wpAnyH_ready (rs := [5]) (by kernel_rfl) (by simp) ?_
        refine AllReadyH.cons rfl (fun K hK => ?_) AllReadyH.nil
        go_simp
        refine hK.out _ _ ((bel0 w5).drew.alloc (Nat.le_refl _) _) (fun hHeld => ?_)
        clear hK K
        (try simp only [Act.put, List.getElem_toArray, List.getElem_cons_succ, List.getElem_cons_zero, List.setIfInBounds_toArray, List.set_cons_zero, List.set_cons_succ])
        (try simp only [Act.put, List.setIfInBounds_toArray, List.set_cons_zero, List.set_cons_succ])
        refine wpAnyH_ready (rs := [6]) (by kernel_rfl) (by simp) ?_
        refine AllReadyH.cons rfl (fun K hK => ?_) AllReadyH.nil
        refine step_append_grows (by rfl) (.tmp 28) (.tmp 30) 23 (by rfl) 3 i0 (.int .i64 0) 1 8 Try.underlying23 hi0 hz0 hs0 hb0 rfl (by omega) A k k (iv (l.take k)) rfl HNO.out (by rw [iv_length, List.length_take]; have := HKL.out; omega) (HCE.out _ hHeld) ⟨w5.heap.size, 0, none⟩ 1 1 [.int .i64 x] rfl rfl (by intro j u hj; have hj0 : j = 0 := (by have := (List.getElem?_eq_some_iff.1 hj).1; simpa using this); subst hj0; rw [addr_add, Nat.add_zero]; show (w5.drew.alloc _).cell? _ = _; rw [show w5.heap.size = w5.drew.heap.size from rfl, World.cell?_alloc_mark]; simpa using hj) (by intro u hu; simp at hu; subst hu; rfl) (by omega) (by unfold maxLen; omega) (by omega) ?_
        intro v1 w6 ho1 hg1
        have hb6 := hHeld.grown hg1 hHeld.size (by intro j hj; cases hj)
        have HO1 := Lib.hid ho1
        clear ho1 hg1
        refine hK.out _ _ hb6 (fun hHeld => ?_)
        clear hK K
        (try simp only [Act.put, List.getElem_toArray, List.getElem_cons_succ, List.getElem_cons_zero, List.setIfInBounds_toArray, List.set_cons_zero, List.set_cons_succ])
        (try simp only [Act.put, List.setIfInBounds_toArray, List.set_cons_zero, List.set_cons_succ])
        refine wpAnyH_ready (rs := [10]) (by kernel_rfl) (by simp) ?_
        refine AllReadyH.cons rfl (fun K hK => ?_) AllReadyH.nil
        refine step_append_ints (by rfl) (.tmp 31) (.tmp 34) (by rfl) w5.heap.size v1 (l.take k ++ [x]) (l.drop k) (by rfl) (own1 (ownsRow_base HO1.out (by show w5.heap.size ≤ (w5.drew.alloc _).heap.size; rw [World.size_alloc]; exact Nat.le_succ _)) (by rw [List.length_take]; have := HKL.out; omega)) (dropI A c k) (L - k) (c - k) (by rfl) ((HDR.out).below hb6) (by simp only [List.length_append, List.length_take, List.length_drop, List.length_cons, List.length_nil]; have := HKL.out; have := HLL.out; omega) hb6.size ?_
        intro v2 w7 ho2 hg2 hv2
        rw [show l.take k ++ [x] ++ l.drop k = l.take k ++ x :: l.drop k from by simp] at ho2
        have hb7 := grown_below hb6 hg2 (fun j hj => Nat.le_trans (by show w5.heap.size ≤ (w5.drew.alloc _).heap.size; rw [World.size_alloc]; exact Nat.le_succ _) (own_block HO1.out j hj))
        have HO2 := Lib.hid ho2
        clear ho2 hg2 hv2
        refine hK.out _ _ hb7 (fun hHeld => ?_)
        clear hK K
        (try simp only [Act.put, List.getElem_toArray, List.getElem_cons_succ, List.getElem_cons_zero, List.setIfInBounds_toArray, List.set_cons_zero, List.set_cons_succ])
        (try simp only [Act.put, List.setIfInBounds_toArray, List.set_cons_zero, List.set_cons_succ])
        refine' take_val (i := 11) (d := 4) (v := _) rfl rfl (by kernel_rfl) (by kernel_rfl) (by kernel_rfl) (fun _ _ _ h => h) (by rfl) ?_ (by assumption) ?_
        rotate_left
        · (intro w hSw; (try dsimp only at hSw); go_simp; (try with_reducible rfl))
        (try simp only [Act.put, List.setIfInBounds_toArray, List.set_cons_zero, List.set_cons_succ])
        refine' take_val (i := 12) (d := 5) (v := _) rfl rfl (by kernel_rfl) (by kernel_rfl) (by kernel_rfl) (fun _ _ _ h => h) (by rfl) ?_ (by assumption) ?_
        rotate_left
        · (intro w hSw; (try dsimp only at hSw); go_simp; (try with_reducible rfl))
        (try simp only [Act.put, List.setIfInBounds_toArray, List.set_cons_zero, List.set_cons_succ])
        refine wpAnyH_done (by kernel_rfl) ?_ _
        go_wp2_with fail
        go_ret2
        exact ⟨v2, rfl, ownsRow_base HO2.out hbw5.size, nx hbw5 hHeld⟩
  · rw [if_neg hi]
    rw [decide_eq_false hi] at HM
    clear hi
    go_enter Try.func22, Try.ntmps22
    go_wp2_with fail
    rw [← hW2]
    refine HM.out.mono ?_
    rintro e w3 ⟨rfl, hb3⟩
    go_wp2_with fail
    go_ret2
    exact ⟨_, rfl, World.ownsRow_nil _ _ _ _, nx hb2 hb3⟩

set_option maxHeartbeats 8000000 in
theorem Has_any {A : Option Addr} {n c : Nat} {l : List Int} {w : World} (x : Int) (h : IL w A n c l) :
    Calls Try.prog 29 #[.slice A n c, .int .i64 x] w fun e w' => e = .returned (.bool (decide (Inc l ∧ x ∈ l))) ∧ Below w.heap.size w w' := by
  have HL := Lib.hid h
  obtain ⟨W2, hW2⟩ : ∃ W, W = w.alloc (.cells #[.slice A n c] 23) := ⟨_, rfl⟩
  have hb2 : Below w.heap.size w W2 := by rw [hW2]; exact (bel0 w).alloc (Nat.le_refl _) _
  have HM : Hid (Calls Try.prog 32 #[.slice (some ⟨w.heap.size, 0, none⟩) 1 1] W2 fun e w' => e = .returned (.bool (decide (Inc l))) ∧ Below W2.heap.size W2 w') := Lib.hid (by
    have := may_anyI (LL.one h 23)
    rw [allI_one, ← hW2] at this
    exact this)
  clear h
  by_cases hi : Inc l
  · rw [decide_eq_true hi] at HM
    have HI := Lib.hid (fun (w' : World) (hb : Below w.heap.size w w') => in_any x (HL.out.below hb) hi)
    rw [show decide (Inc l ∧ x ∈ l) = decide (x ∈ l) from by simp [hi]]
    clear hi
    generalize decide (x ∈ l) = bb at *
    go_enter Try.func29, Try.ntmps29
    go_wp2_with fail
    rw [← hW2]
    refine HM.out.mono ?_
    rintro e w3 ⟨rfl, hb3⟩
    have hbw3 := nx hb2 hb3
    go_wp2_with fail
    refine (HI.out _ hbw3).mono ?_
    rintro e w4 ⟨rfl, hb4⟩
    go_wp2_with fail
    go_ret
    exact ⟨rfl, nx hbw3 hb4⟩
  · rw [decide_eq_false hi] at HM
    rw [show decide (Inc l ∧ x ∈ l) = false from by simp [hi]]
    clear hi
    go_enter Try.func29, Try.ntmps29
    go_wp2_with fail
    rw [← hW2]
    refine HM.out.mono ?_
    rintro e w3 ⟨rfl, hb3⟩
    go_wp2_with fail
    go_ret
    exact ⟨rfl, nx hb2 hb3⟩
end Go.Proofs.Ythikhoamodcggaa
