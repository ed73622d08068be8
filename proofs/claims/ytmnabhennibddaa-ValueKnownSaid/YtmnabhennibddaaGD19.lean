/- Lists of attributes in memory; which may be; the contract of may. No conditions. -/
import Derived.Test.YtmnabhennibddaaGD17
import Derived.Test.YtmnabhennibddaaGD18
import Derived.Deep.RegionHeld3
import Derived.BigRegion
import Derived.BigQuiet
set_option linter.unusedSimpArgs false
set_option linter.unusedVariables false
namespace Go.Proofs.Ytmnabhennibddaa
open Go.RowKit

/-- In a region that draws its order: an operation whose guard says no; one that yields. -/
theorem take_skip {P : Program} {md : _} {ops : Array Oper} {Q : Exit → Act → World → Prop} {S : World → Prop} {i d : Nat} {oi : Oper} {fuel : Nat} {listed : Array Bool} {a : Act} {w : World} (hi : ops[i]? = some oi) (hd : oi.dst = some d)
    (hs : Region.noSelect ops = true) (hf : Region.free md ops listed i = true) (hr : (Region.ready md ops listed).contains i = true) (hQ : ∀ c a w, Q (.panic c) (a.put (some d) undef) w → Q (.panic c) a w)
    (hw : Region.wanted oi (yielded ops a.tmps) = false) (hS : S w) (h : wpAnyH P md ops Q S fuel (listed.setIfInBounds i true) (a.put (some d) undef) w) : wpAnyH P md ops Q S (fuel + 1) listed a w :=
  wpAnyH_take hi hs hf hr (by rw [hd]; exact hQ) (Or.inr ⟨hw, rfl⟩) hS (by rw [hd]; exact h)
theorem take_val {P : Program} {md : _} {ops : Array Oper} {Q : Exit → Act → World → Prop} {S : World → Prop} {i d : Nat} {oi : Oper} {v : Value} {fuel : Nat} {listed : Array Bool} {a : Act} {w : World} (hi : ops[i]? = some oi) (hd : oi.dst = some d)
    (hs : Region.noSelect ops = true) (hf : Region.free md ops listed i = true) (hr : (Region.ready md ops listed).contains i = true) (hQ : ∀ c a w, Q (.panic c) (a.put (some d) v) w → Q (.panic c) a w)
    (hw : Region.wanted oi (yielded ops a.tmps) = true) (hy : ∀ w, S w → (execOp a.eval oi).run P w = .ok (.value v) w) (hS : S w) (h : wpAnyH P md ops Q S fuel (listed.setIfInBounds i true) (a.put (some d) v) w) : wpAnyH P md ops Q S (fuel + 1) listed a w :=
  wpAnyH_take hi hs hf hr (by rw [hd]; exact hQ) (Or.inl ⟨hw, hy⟩) hS (by rw [hd]; exact h)
/-- The cells of a list of attributes. -/
def acs : List Att → List Value
  | [] => []
  | a :: l => a.cells ++ acs l
theorem acs_length (l : List Att) : (acs l).length = 6 * l.length := by
  induction l with
  | nil => rfl
  | cons a l ih => rw [acs, List.length_append, ih, List.length_cons]; show 6 + _ = _; omega
theorem acs_append (l m : List Att) : acs (l ++ m) = acs l ++ acs m := by
  induction l with
  | nil => rfl
  | cons a l ih => rw [List.cons_append, acs, ih, acs, List.append_assoc]
theorem acs_at (l : List Att) (i : Nat) (h : i < l.length) (j : Nat) (hj : j < 6) : (acs l)[6 * i + j]? = l[i].cells[j]? := by
  induction l generalizing i with
  | nil => simp at h
  | cons a l ih =>
    rw [acs]
    cases i with
    | zero =>
      rw [List.getElem?_append_left (by show _ < 6; omega)]
      simp
    | succ i =>
      rw [List.getElem?_append_right (by show 6 ≤ _; omega)]
      have : 6 * (i + 1) + j - a.cells.length = 6 * i + j := by show 6 * (i + 1) + j - 6 = _; omega
      rw [this, ih i (by simpa using h)]
      simp
/-- A list of attributes in memory. -/
structure AS (w : World) (A : Option Addr) (n c : Nat) (l : List Att) : Prop where
  len : n = l.length
  le : l.length ≤ c
  nil : A = none → c = 0
  lies : Lies w A (acs l)
  pt : ∀ a ∈ l, a.lab.p < 4294967296
  lim : l.length ≤ 2199023255552
theorem AS.below {w w' : World} {A : Option Addr} {n c : Nat} {l : List Att} (h : AS w A n c l) (hb : Below w.heap.size w w') : AS w' A n c l := ⟨h.len, h.le, h.nil, h.lies.below hb, h.pt, h.lim⟩
/-- The cells of one, in a later world. -/
theorem AS.cellsAt {w wr : World} {A : Option Addr} {n c : Nat} {l : List Att} (h : AS w A n c l) (hb : Below w.heap.size w wr) {k : Nat} (hk : k < l.length) :
    ∃ g o, A = some ⟨g, o, none⟩ ∧ ∀ j (v : Value), l[k].cells[j]? = some v → wr.cell? ⟨g, o + k * 6 + j, none⟩ = some v := by
  have hlen := acs_length l
  obtain ⟨ad, hA, h0⟩ := h.lies 0 (by rw [hlen]; omega)
  have hsp : ad.spot = none := by
    unfold Addr.add at h0
    rw [if_pos rfl] at h0
    unfold World.cell? at h0
    cases hs : ad.spot with
    | none => rfl
    | some p =>
      exfalso
      revert h0
      split
      · rw [hs]; simp
      · simp
  obtain ⟨g, o, sp⟩ := ad
  simp only at hsp
  subst hsp
  refine ⟨g, o, hA, fun j v hj => ?_⟩
  have hj6 : j < 6 := (List.getElem?_eq_some_iff.1 hj).1
  obtain ⟨ad', hA', hc⟩ := (h.lies.below hb) (k * 6 + j) (by rw [hlen]; omega)
  rw [hA] at hA'
  cases hA'
  rw [addr_add, ← Nat.add_assoc] at hc
  rw [hc, ← hj, ← acs_at l k hk j hj6, show 6 * k + j = k * 6 + j by omega]
  exact (List.getElem?_eq_getElem _).symm

/-- May the attribute at a place be, behind the one before it? -/
def okAt (l : List Att) (i : Nat) : Bool :=
  match l[i]?, l[i - 1]? with
  | some a, some b => decide (chkA a = 0) && (decide (i = 0) || Op.bytesLess b.name.toList a.name.toList)
  | _, _ => false
/-- What may answers. -/
def mayA (l : List Att) : Int := if l.length ≤ 8 ∧ (List.range l.length).all (okAt l) = true then 0 else 80
theorem okAt_of {l : List Att} {i : Nat} (h : i < l.length) : okAt l i = (decide (chkA l[i] = 0) && (decide (i = 0) || Op.bytesLess (l[i - 1]'(by omega)).name.toList l[i].name.toList)) := by
  unfold okAt
  rw [List.getElem?_eq_getElem h, List.getElem?_eq_getElem (by omega)]
theorem may_no {l : List Att} {i : Nat} (h : i < l.length) (ho : okAt l i = false) : mayA l = 80 := by
  unfold mayA
  rw [if_neg]
  rintro ⟨_, h2⟩
  rw [List.all_eq_true] at h2
  rw [h2 i (List.mem_range.2 h)] at ho
  simp at ho
theorem att_keep {W a : World} {q : Nat} {x : Att} (h : W.heap[q]? = some (.cells #[.string x.name, .int .i64 x.lab.l, .int .u32 (x.lab.p : Int), .int .i64 x.val.k, .int .i64 x.val.n, .string x.val.b] 49 (0, 0))) (hb : Below W.heap.size W a) :
    Below W.heap.size W a ∧ a.cell? ⟨q, 0, none⟩ = some (.string x.name) ∧ a.cell? ⟨q, 1, none⟩ = some (.int .i64 x.lab.l) ∧ a.cell? ⟨q, 2, none⟩ = some (.int .u32 (x.lab.p : Int)) ∧
      a.cell? ⟨q, 3, none⟩ = some (.int .i64 x.val.k) ∧ a.cell? ⟨q, 4, none⟩ = some (.int .i64 x.val.n) ∧ a.cell? ⟨q, 5, none⟩ = some (.string x.val.b) := by
  have e1 := (hb.block q (Array.getElem?_eq_some_iff.1 h).1).trans h
  exact ⟨hb, cell_of e1 0, cell_of e1 1, cell_of e1 2, cell_of e1 3, cell_of e1 4, cell_of e1 5⟩
theorem range_snoc (l : List Att) (k : Nat) (h : (List.range k).all (okAt l) = true) (h2 : okAt l k = true) : (List.range (k + 1)).all (okAt l) = true := by
  rw [List.range_succ, List.all_append, h]; simp [h2]
theorem leq_less (x y : List UInt8) : (Op.bytesLess x y || x == y) = !Op.bytesLess y x := by
  rw [less_cb, less_cb, cb_swap x y]
  have h0 := cb_zero x y
  rcases cb_range x y with h | h | h
  · rw [h]; simp
  · rw [h]; simp [h0.1 h]
  · have hne : ¬ x = y := fun e => by rw [h0.2 e] at h; omega
    rw [h]; simp [hne]
theorem chkA_cases (a : Att) : chkA a = 0 ∨ chkA a = 80 := by
  unfold chkA
  split
  · exact .inl rfl
  · exact .inr rfl

set_option maxHeartbeats 8000000 in
set_option maxRecDepth 100000 in
theorem may_any {A : Option Addr} {n c : Nat} {l : List Att} {w : World} (h : AS w A n c l) :
    Calls Try.prog 46 #[.slice A n c] w fun e w' => e = .returned (.int .i64 (mayA l)) ∧ Below w.heap.size w w' := by
  obtain rfl := h.len
  have HL := Lib.hid h
  have hlim := h.lim
  clear h
  by_cases h8 : 8 < l.length
  · have h8' : (8 : Int) < (l.length : Int) := by omega
    have HX := Lib.hid (show mayA l = 80 from if_neg (fun h => by omega))
    go_enter Try.func46, Try.ntmps46
    go_wp2
    go_ret
    rw [HX.out]
    exact ⟨rfl, bel0 w⟩
  · have h8' : ¬ (8 : Int) < (l.length : Int) := by omega
    obtain ⟨X, hX⟩ : ∃ X, X = mayA l := ⟨_, rfl⟩
    rw [← hX]
    have HX := Lib.hid hX
    clear hX
    go_enter Try.func46, Try.ntmps46
    go_wp2_with fail
    go_loopw [10] (fun i wr => ∃ k : Nat, k ≤ l.length ∧ i = .int .i64 k ∧ Hid ((List.range k).all (okAt l) = true) ∧ Below w.heap.size w wr) (fun i _ => l.length - (intOf i).toNat)
    case atStart => exact ⟨0, Nat.zero_le _, rfl, Lib.hid rfl, bel0 w⟩
    case round =>
      obtain ⟨k, hk, rfl, HA, hb⟩ := hrel
      by_cases hlt : k < l.length
      · obtain ⟨g, o, hA, hc⟩ := HL.out.cellsAt hb hlt
        subst hA
        have haa : (⟨g, o, none⟩ : Addr).add (k * 6) = ⟨g, o + k * 6, none⟩ := addr_add _ _ _
        have hok := okAt_of hlt
        have hno := fun h => HX.out.trans (may_no (l := l) hlt h)
        obtain ⟨a, ha⟩ : ∃ a, a = l[k] := ⟨_, rfl⟩
        rw [← ha] at hc hok
        have hca0 : wr.cell? ⟨g, o + k * 6, none⟩ = some (.string a.name) := hc 0 _ rfl
        have hca1 := hc 1 _ rfl
        have hca2 := hc 2 _ rfl
        have hca3 := hc 3 _ rfl
        have hca4 := hc 4 _ rfl
        have hca5 := hc 5 _ rfl
        have HOK := Lib.hid hok
        have HNO := Lib.hid hno
        have hsn := fun h => range_snoc l k HA.out h
        have HSN := Lib.hid hsn
        have HCA := Lib.hid (checkAttr_any a)
        unfold Att.v Att.cells at HCA
        clear hc hok hno ha hsn
        have AK := Lib.hid (fun a' => att_keep (W := wr.alloc (.cells #[.string a.name, .int .i64 a.lab.l, .int .u32 (a.lab.p : Int), .int .i64 a.val.k, .int .i64 a.val.n, .string a.val.b] 49)) (a := a') (x := a) (heap_alloc_new wr _))
        have hbW : Below w.heap.size w (wr.alloc (.cells #[.string a.name, .int .i64 a.lab.l, .int .u32 (a.lab.p : Int), .int .i64 a.val.k, .int .i64 a.val.n, .string a.val.b] 49)) := hb.alloc hb.size _
        rcases chkA_cases a with h0 | h0
        · rw [h0] at HCA
          rw [h0] at HOK
          by_cases hk0 : k = 0
          · have zk : decide (0 < k) = false := decide_eq_false (by omega)
            have zk1 : ¬ 0 < k := by omega
            have zk2 : ¬ (0 : Int) < (k : Int) := by omega
            have zk3 : decide ((0 : Int) < (k : Int)) = false := decide_eq_false zk2
            have hnext := HSN.out (by rw [HOK.out]; simp [hk0])
            have HNX := Lib.hid hnext
            clear hnext hk0
            go_wp2_with fail
            refine wp_region_held_drew (S := (fun w' => Below (wr.alloc (.cells #[.string a.name, .int .i64 a.lab.l, .int .u32 (a.lab.p : Int), .int .i64 a.val.k, .int .i64 a.val.n, .string a.val.b] 49)).heap.size (wr.alloc (.cells #[.string a.name, .int .i64 a.lab.l, .int .u32 (a.lab.p : Int), .int .i64 a.val.k, .int .i64 a.val.n, .string a.val.b] 49)) w' ∧ w'.cell? ⟨wr.heap.size, 0, none⟩ = some (.string a.name) ∧ w'.cell? ⟨wr.heap.size, 1, none⟩ = some (.int .i64 a.lab.l) ∧ w'.cell? ⟨wr.heap.size, 2, none⟩ = some (.int .u32 (a.lab.p : Int)) ∧ w'.cell? ⟨wr.heap.size, 3, none⟩ = some (.int .i64 a.val.k) ∧ w'.cell? ⟨wr.heap.size, 4, none⟩ = some (.int .i64 a.val.n) ∧ w'.cell? ⟨wr.heap.size, 5, none⟩ = some (.string a.val.b))) (by kernel_rfl) (AK.out _ (bel0 _).drew) (fun hHeld => ?_)
            refine' take_val (i := 0) (d := 15) (v := _) rfl rfl (by kernel_rfl) (by kernel_rfl) (by kernel_rfl) (fun _ _ _ h => h) (by rfl) ?_ (by assumption) ?_
            rotate_left
            · (intro w hSw; (try dsimp only at hSw); go_simp; (try with_reducible rfl))
            (try simp only [Act.put, List.setIfInBounds_toArray, List.set_cons_zero, List.set_cons_succ])
            refine wpAnyH_ready (rs := [1]) (by kernel_rfl) (by simp) ?_
            refine AllReadyH.cons rfl (fun K hK => ?_) AllReadyH.nil
            go_simp
            go_at_call 77
            refine (HCA.out _).mono ?_
            rintro e wb ⟨rfl, hbb⟩
            go_wp2_with fail
            refine hK.out _ _ (AK.out _ (nx (bel0 _).drew hbb)) (fun hHeld => ?_)
            clear hK K
            (try simp only [Act.put, List.setIfInBounds_toArray, List.set_cons_zero, List.set_cons_succ])
            refine' take_val (i := 2) (d := 17) (v := _) rfl rfl (by kernel_rfl) (by kernel_rfl) (by kernel_rfl) (fun _ _ _ h => h) (by rfl) ?_ (by assumption) ?_
            rotate_left
            · (intro w hSw; (try dsimp only at hSw); go_simp; (try with_reducible rfl))
            (try simp only [Act.put, List.setIfInBounds_toArray, List.set_cons_zero, List.set_cons_succ])
            refine' take_val (i := 3) (d := 18) (v := _) rfl rfl (by kernel_rfl) (by kernel_rfl) (by kernel_rfl) (fun _ _ _ h => h) (by rfl) ?_ (by assumption) ?_
            rotate_left
            · (intro w hSw; (try dsimp only at hSw); go_simp; (try with_reducible rfl))
            (try simp only [Act.put, List.setIfInBounds_toArray, List.set_cons_zero, List.set_cons_succ])
            refine' take_val (i := 4) (d := 19) (v := _) rfl rfl (by kernel_rfl) (by kernel_rfl) (by kernel_rfl) (fun _ _ _ h => h) (by rfl) ?_ (by assumption) ?_
            rotate_left
            · (intro w hSw; (try dsimp only at hSw); go_simp; (try with_reducible rfl))
            (try simp only [Act.put, List.setIfInBounds_toArray, List.set_cons_zero, List.set_cons_succ])
            refine' take_val (i := 5) (d := 20) (v := _) rfl rfl (by kernel_rfl) (by kernel_rfl) (by kernel_rfl) (fun _ _ _ h => h) (by rfl) ?_ (by assumption) ?_
            rotate_left
            · (intro w hSw; (try dsimp only at hSw); go_simp; (try with_reducible rfl))
            (try simp only [Act.put, List.setIfInBounds_toArray, List.set_cons_zero, List.set_cons_succ])
            refine' take_val (i := 6) (d := 21) (v := _) rfl rfl (by kernel_rfl) (by kernel_rfl) (by kernel_rfl) (fun _ _ _ h => h) (by rfl) ?_ (by assumption) ?_
            rotate_left
            · (intro w hSw; (try dsimp only at hSw); go_simp; (try with_reducible rfl))
            (try simp only [Act.put, List.setIfInBounds_toArray, List.set_cons_zero, List.set_cons_succ])
            refine take_skip (i := 7) (d := 22) rfl rfl (by kernel_rfl) (by kernel_rfl) (by kernel_rfl) (fun _ _ _ h => h) (by rfl) (by assumption) ?_
            (try simp only [Act.put, List.setIfInBounds_toArray, List.set_cons_zero, List.set_cons_succ])
            refine take_skip (i := 8) (d := 23) rfl rfl (by kernel_rfl) (by kernel_rfl) (by kernel_rfl) (fun _ _ _ h => h) (by rfl) (by assumption) ?_
            (try simp only [Act.put, List.setIfInBounds_toArray, List.set_cons_zero, List.set_cons_succ])
            refine take_skip (i := 9) (d := 24) rfl rfl (by kernel_rfl) (by kernel_rfl) (by kernel_rfl) (fun _ _ _ h => h) (by rfl) (by assumption) ?_
            (try simp only [Act.put, List.setIfInBounds_toArray, List.set_cons_zero, List.set_cons_succ])
            refine take_skip (i := 10) (d := 25) rfl rfl (by kernel_rfl) (by kernel_rfl) (by kernel_rfl) (fun _ _ _ h => h) (by rfl) (by assumption) ?_
            (try simp only [Act.put, List.setIfInBounds_toArray, List.set_cons_zero, List.set_cons_succ])
            refine take_skip (i := 11) (d := 26) rfl rfl (by kernel_rfl) (by kernel_rfl) (by kernel_rfl) (fun _ _ _ h => h) (by rfl) (by assumption) ?_
            (try simp only [Act.put, List.setIfInBounds_toArray, List.set_cons_zero, List.set_cons_succ])
            refine take_skip (i := 12) (d := 27) rfl rfl (by kernel_rfl) (by kernel_rfl) (by kernel_rfl) (fun _ _ _ h => h) (by rfl) (by assumption) ?_
            (try simp only [Act.put, List.setIfInBounds_toArray, List.set_cons_zero, List.set_cons_succ])
            refine take_skip (i := 13) (d := 28) rfl rfl (by kernel_rfl) (by kernel_rfl) (by kernel_rfl) (fun _ _ _ h => h) (by rfl) (by assumption) ?_
            (try simp only [Act.put, List.setIfInBounds_toArray, List.set_cons_zero, List.set_cons_succ])
            refine take_skip (i := 14) (d := 29) rfl rfl (by kernel_rfl) (by kernel_rfl) (by kernel_rfl) (fun _ _ _ h => h) (by rfl) (by assumption) ?_
            (try simp only [Act.put, List.setIfInBounds_toArray, List.set_cons_zero, List.set_cons_succ])
            refine take_skip (i := 15) (d := 30) rfl rfl (by kernel_rfl) (by kernel_rfl) (by kernel_rfl) (fun _ _ _ h => h) (by rfl) (by assumption) ?_
            (try simp only [Act.put, List.setIfInBounds_toArray, List.set_cons_zero, List.set_cons_succ])
            refine' take_val (i := 16) (d := 31) (v := _) rfl rfl (by kernel_rfl) (by kernel_rfl) (by kernel_rfl) (fun _ _ _ h => h) (by rfl) ?_ (by assumption) ?_
            rotate_left
            · (intro w hSw; (try dsimp only at hSw); go_simp; (try with_reducible rfl))
            (try simp only [Act.put, List.setIfInBounds_toArray, List.set_cons_zero, List.set_cons_succ])
            refine' take_val (i := 17) (d := 32) (v := _) rfl rfl (by kernel_rfl) (by kernel_rfl) (by kernel_rfl) (fun _ _ _ h => h) (by rfl) ?_ (by assumption) ?_
            rotate_left
            · (intro w hSw; (try dsimp only at hSw); go_simp; (try with_reducible rfl))
            (try simp only [Act.put, List.setIfInBounds_toArray, List.set_cons_zero, List.set_cons_succ])
            refine wpAnyH_done (by kernel_rfl) ?_ _
            have hb2 := nx hbW (And.left (b := _) hHeld)
            go_wp2_with fail
            exact ⟨⟨k + 1, by omega, by go_num, HNX, hb2⟩, by simp [intOf]; omega⟩
          · obtain ⟨k', hk'⟩ : ∃ k', k = k' + 1 := ⟨k - 1, by omega⟩
            have hlt' : k' < l.length := by omega
            obtain ⟨g2, o2, hA2, hc2⟩ := HL.out.cellsAt (bel0 w) hlt'
            injection hA2 with hA2
            injection hA2 with e1 e2 _
            subst e1 e2
            obtain ⟨b, hb'⟩ : ∃ b, b = l[k'] := ⟨_, rfl⟩
            have hpr : w.cell? ⟨g, o + k' * 6, none⟩ = some (.string b.name) := by rw [hb']; exact hc2 0 _ rfl
            have hOK2 : okAt l k = Op.bytesLess b.name.toList a.name.toList := by
              rw [HOK.out]
              subst hk'
              simp [hb']
            have HPR : Hid (∀ a', Below (wr.alloc (.cells #[.string a.name, .int .i64 a.lab.l, .int .u32 (a.lab.p : Int), .int .i64 a.val.k, .int .i64 a.val.n, .string a.val.b] 49)).heap.size (wr.alloc (.cells #[.string a.name, .int .i64 a.lab.l, .int .u32 (a.lab.p : Int), .int .i64 a.val.k, .int .i64 a.val.n, .string a.val.b] 49)) a' → a'.cell? ⟨g, o + k' * 6, none⟩ = some (.string b.name)) := Lib.hid (fun a' hb' =>
              ((nx hbW hb').cell (World.block_lt_of_cell? w _ hpr)).trans hpr)
            have haa2 : (⟨g, o, none⟩ : Addr).add (k' * 6) = ⟨g, o + k' * 6, none⟩ := addr_add _ _ _
            have zk : 0 < k := by omega
            have zk1 : decide (0 < k) = true := decide_eq_true (by omega)
            have zk2 : (k : Int) - 1 = (k' : Int) := by omega
            have zk3 : (k' : Int) < (l.length : Int) := by omega
            have zw2 : IntKind.i64.wrap (k' : Int) = (k' : Int) := by rw [IntKind.wrap_i64]; omega
            have zk4 : (0 : Int) ≤ (k' : Int) := by omega
            have hlq := leq_less a.name.toList b.name.toList
            have HOK2 := Lib.hid hOK2
            have HK' := Lib.hid hk'
            have AK2 := Lib.hid (fun a' h => And.intro (AK.out a' h).1 (And.intro (AK.out a' h).2.1 (And.intro (AK.out a' h).2.2.1 (And.intro (AK.out a' h).2.2.2.1 (And.intro (AK.out a' h).2.2.2.2.1 (And.intro (AK.out a' h).2.2.2.2.2.1 (And.intro (AK.out a' h).2.2.2.2.2.2 (HPR.out a' h))))))))
            clear hOK2 hk' hpr hc2 hb' hk0 AK
            by_cases hls : Op.bytesLess b.name.toList a.name.toList = true
            · rw [hls] at hlq HOK2
              have HNX := Lib.hid (HSN.out HOK2.out)
              clear hls
              simp only [Bool.not_true, Bool.or_eq_false_iff] at hlq
              obtain ⟨hlq1, hlq2⟩ := hlq
              go_wp2_with fail
              go_region_held3 (fun w' => Below (wr.alloc (.cells #[.string a.name, .int .i64 a.lab.l, .int .u32 (a.lab.p : Int), .int .i64 a.val.k, .int .i64 a.val.n, .string a.val.b] 49)).heap.size (wr.alloc (.cells #[.string a.name, .int .i64 a.lab.l, .int .u32 (a.lab.p : Int), .int .i64 a.val.k, .int .i64 a.val.n, .string a.val.b] 49)) w' ∧ w'.cell? ⟨wr.heap.size, 0, none⟩ = some (.string a.name) ∧ w'.cell? ⟨wr.heap.size, 1, none⟩ = some (.int .i64 a.lab.l) ∧ w'.cell? ⟨wr.heap.size, 2, none⟩ = some (.int .u32 (a.lab.p : Int)) ∧
                  w'.cell? ⟨wr.heap.size, 3, none⟩ = some (.int .i64 a.val.k) ∧ w'.cell? ⟨wr.heap.size, 4, none⟩ = some (.int .i64 a.val.n) ∧ w'.cell? ⟨wr.heap.size, 5, none⟩ = some (.string a.val.b) ∧ w'.cell? ⟨g, o + k' * 6, none⟩ = some (.string b.name))
                (first | exact AK2.out _ (bel0 _).drew | exact AK2.out _ (nx (And.left (b := _) (by assumption)) (by assumption)) | assumption)
                (first | (go_at_call 77; (with_reducible refine (HCA.out _).mono ?_); rintro e wb ⟨rfl, hbb⟩))
              rename_i hK
              have hb2 := nx hbW (And.left (b := _) hK)
              clear hK
              go_wp2_with fail
              exact ⟨⟨k + 1, by omega, by go_num, HNX, hb2⟩, by simp [intOf]; omega⟩
            · have hls1 : Op.bytesLess b.name.toList a.name.toList = false := by simpa using hls
              rw [hls1] at hlq HOK2
              have HX1 := Lib.hid (HNO.out HOK2.out)
              clear hls hls1
              by_cases hq1 : Op.bytesLess a.name.toList b.name.toList = true
              · clear hlq
                go_wp2_with fail
                go_region_held3 (fun w' => Below (wr.alloc (.cells #[.string a.name, .int .i64 a.lab.l, .int .u32 (a.lab.p : Int), .int .i64 a.val.k, .int .i64 a.val.n, .string a.val.b] 49)).heap.size (wr.alloc (.cells #[.string a.name, .int .i64 a.lab.l, .int .u32 (a.lab.p : Int), .int .i64 a.val.k, .int .i64 a.val.n, .string a.val.b] 49)) w' ∧ w'.cell? ⟨wr.heap.size, 0, none⟩ = some (.string a.name) ∧ w'.cell? ⟨wr.heap.size, 1, none⟩ = some (.int .i64 a.lab.l) ∧ w'.cell? ⟨wr.heap.size, 2, none⟩ = some (.int .u32 (a.lab.p : Int)) ∧ w'.cell? ⟨wr.heap.size, 3, none⟩ = some (.int .i64 a.val.k) ∧ w'.cell? ⟨wr.heap.size, 4, none⟩ = some (.int .i64 a.val.n) ∧ w'.cell? ⟨wr.heap.size, 5, none⟩ = some (.string a.val.b) ∧ w'.cell? ⟨g, o + k' * 6, none⟩ = some (.string b.name))
                  (first | exact AK2.out _ (bel0 _).drew | exact AK2.out _ (nx (And.left (b := _) (by assumption)) (by assumption)) | assumption)
                  (first | (go_at_call 77; (with_reducible refine (HCA.out _).mono ?_); rintro e wb ⟨rfl, hbb⟩))
                rename_i hK
                have hb2 := nx hbW (And.left (b := _) hK)
                clear hK
                go_wp2_with fail
                go_ret
                rw [HX1.out]
                exact ⟨rfl, hb2⟩
              · have hq2 : Op.bytesLess a.name.toList b.name.toList = false := by simpa using hq1
                have hq3 : (a.name.toList == b.name.toList) = true := by rw [hq2] at hlq; simpa using hlq
                clear hlq hq1
                go_wp2_with fail
                go_region_held3 (fun w' => Below (wr.alloc (.cells #[.string a.name, .int .i64 a.lab.l, .int .u32 (a.lab.p : Int), .int .i64 a.val.k, .int .i64 a.val.n, .string a.val.b] 49)).heap.size (wr.alloc (.cells #[.string a.name, .int .i64 a.lab.l, .int .u32 (a.lab.p : Int), .int .i64 a.val.k, .int .i64 a.val.n, .string a.val.b] 49)) w' ∧ w'.cell? ⟨wr.heap.size, 0, none⟩ = some (.string a.name) ∧ w'.cell? ⟨wr.heap.size, 1, none⟩ = some (.int .i64 a.lab.l) ∧ w'.cell? ⟨wr.heap.size, 2, none⟩ = some (.int .u32 (a.lab.p : Int)) ∧ w'.cell? ⟨wr.heap.size, 3, none⟩ = some (.int .i64 a.val.k) ∧ w'.cell? ⟨wr.heap.size, 4, none⟩ = some (.int .i64 a.val.n) ∧ w'.cell? ⟨wr.heap.size, 5, none⟩ = some (.string a.val.b) ∧ w'.cell? ⟨g, o + k' * 6, none⟩ = some (.string b.name))
                  (first | exact AK2.out _ (bel0 _).drew | exact AK2.out _ (nx (And.left (b := _) (by assumption)) (by assumption)) | assumption)
                  (first | (go_at_call 77; (with_reducible refine (HCA.out _).mono ?_); rintro e wb ⟨rfl, hbb⟩))
                rename_i hK
                have hb2 := nx hbW (And.left (b := _) hK)
                clear hK
                go_wp2_with fail
                go_ret
                rw [HX1.out]
                exact ⟨rfl, hb2⟩
        · rw [h0] at HCA
          rw [h0] at HOK
          have HX1 := Lib.hid (HNO.out (by rw [HOK.out]; rfl))
          go_wp2_with fail
          refine wp_region_held_drew (S := (fun w' => Below (wr.alloc (.cells #[.string a.name, .int .i64 a.lab.l, .int .u32 (a.lab.p : Int), .int .i64 a.val.k, .int .i64 a.val.n, .string a.val.b] 49)).heap.size (wr.alloc (.cells #[.string a.name, .int .i64 a.lab.l, .int .u32 (a.lab.p : Int), .int .i64 a.val.k, .int .i64 a.val.n, .string a.val.b] 49)) w' ∧ w'.cell? ⟨wr.heap.size, 0, none⟩ = some (.string a.name) ∧ w'.cell? ⟨wr.heap.size, 1, none⟩ = some (.int .i64 a.lab.l) ∧ w'.cell? ⟨wr.heap.size, 2, none⟩ = some (.int .u32 (a.lab.p : Int)) ∧ w'.cell? ⟨wr.heap.size, 3, none⟩ = some (.int .i64 a.val.k) ∧ w'.cell? ⟨wr.heap.size, 4, none⟩ = some (.int .i64 a.val.n) ∧ w'.cell? ⟨wr.heap.size, 5, none⟩ = some (.string a.val.b))) (by kernel_rfl) (AK.out _ (bel0 _).drew) (fun hHeld => ?_)
          refine' take_val (i := 0) (d := 15) (v := _) rfl rfl (by kernel_rfl) (by kernel_rfl) (by kernel_rfl) (fun _ _ _ h => h) (by rfl) ?_ (by assumption) ?_
          rotate_left
          · (intro w hSw; (try dsimp only at hSw); go_simp; (try with_reducible rfl))
          (try simp only [Act.put, List.setIfInBounds_toArray, List.set_cons_zero, List.set_cons_succ])
          refine wpAnyH_ready (rs := [1]) (by kernel_rfl) (by simp) ?_
          refine AllReadyH.cons rfl (fun K hK => ?_) AllReadyH.nil
          go_simp
          go_at_call 77
          refine (HCA.out _).mono ?_
          rintro e wb ⟨rfl, hbb⟩
          go_wp2_with fail
          refine hK.out _ _ (AK.out _ (nx (bel0 _).drew hbb)) (fun hHeld => ?_)
          clear hK K
          (try simp only [Act.put, List.setIfInBounds_toArray, List.set_cons_zero, List.set_cons_succ])
          refine' take_val (i := 2) (d := 17) (v := _) rfl rfl (by kernel_rfl) (by kernel_rfl) (by kernel_rfl) (fun _ _ _ h => h) (by rfl) ?_ (by assumption) ?_
          rotate_left
          · (intro w hSw; (try dsimp only at hSw); go_simp; (try with_reducible rfl))
          (try simp only [Act.put, List.setIfInBounds_toArray, List.set_cons_zero, List.set_cons_succ])
          refine' take_val (i := 3) (d := 18) (v := _) rfl rfl (by kernel_rfl) (by kernel_rfl) (by kernel_rfl) (fun _ _ _ h => h) (by rfl) ?_ (by assumption) ?_
          rotate_left
          · (intro w hSw; (try dsimp only at hSw); go_simp; (try with_reducible rfl))
          (try simp only [Act.put, List.setIfInBounds_toArray, List.set_cons_zero, List.set_cons_succ])
          refine take_skip (i := 4) (d := 19) rfl rfl (by kernel_rfl) (by kernel_rfl) (by kernel_rfl) (fun _ _ _ h => h) (by rfl) (by assumption) ?_
          (try simp only [Act.put, List.setIfInBounds_toArray, List.set_cons_zero, List.set_cons_succ])
          refine take_skip (i := 5) (d := 20) rfl rfl (by kernel_rfl) (by kernel_rfl) (by kernel_rfl) (fun _ _ _ h => h) (by rfl) (by assumption) ?_
          (try simp only [Act.put, List.setIfInBounds_toArray, List.set_cons_zero, List.set_cons_succ])
          refine take_skip (i := 6) (d := 21) rfl rfl (by kernel_rfl) (by kernel_rfl) (by kernel_rfl) (fun _ _ _ h => h) (by rfl) (by assumption) ?_
          (try simp only [Act.put, List.setIfInBounds_toArray, List.set_cons_zero, List.set_cons_succ])
          refine take_skip (i := 7) (d := 22) rfl rfl (by kernel_rfl) (by kernel_rfl) (by kernel_rfl) (fun _ _ _ h => h) (by rfl) (by assumption) ?_
          (try simp only [Act.put, List.setIfInBounds_toArray, List.set_cons_zero, List.set_cons_succ])
          refine take_skip (i := 8) (d := 23) rfl rfl (by kernel_rfl) (by kernel_rfl) (by kernel_rfl) (fun _ _ _ h => h) (by rfl) (by assumption) ?_
          (try simp only [Act.put, List.setIfInBounds_toArray, List.set_cons_zero, List.set_cons_succ])
          refine take_skip (i := 9) (d := 24) rfl rfl (by kernel_rfl) (by kernel_rfl) (by kernel_rfl) (fun _ _ _ h => h) (by rfl) (by assumption) ?_
          (try simp only [Act.put, List.setIfInBounds_toArray, List.set_cons_zero, List.set_cons_succ])
          refine take_skip (i := 10) (d := 25) rfl rfl (by kernel_rfl) (by kernel_rfl) (by kernel_rfl) (fun _ _ _ h => h) (by rfl) (by assumption) ?_
          (try simp only [Act.put, List.setIfInBounds_toArray, List.set_cons_zero, List.set_cons_succ])
          refine take_skip (i := 11) (d := 26) rfl rfl (by kernel_rfl) (by kernel_rfl) (by kernel_rfl) (fun _ _ _ h => h) (by rfl) (by assumption) ?_
          (try simp only [Act.put, List.setIfInBounds_toArray, List.set_cons_zero, List.set_cons_succ])
          refine take_skip (i := 12) (d := 27) rfl rfl (by kernel_rfl) (by kernel_rfl) (by kernel_rfl) (fun _ _ _ h => h) (by rfl) (by assumption) ?_
          (try simp only [Act.put, List.setIfInBounds_toArray, List.set_cons_zero, List.set_cons_succ])
          refine take_skip (i := 13) (d := 28) rfl rfl (by kernel_rfl) (by kernel_rfl) (by kernel_rfl) (fun _ _ _ h => h) (by rfl) (by assumption) ?_
          (try simp only [Act.put, List.setIfInBounds_toArray, List.set_cons_zero, List.set_cons_succ])
          refine take_skip (i := 14) (d := 29) rfl rfl (by kernel_rfl) (by kernel_rfl) (by kernel_rfl) (fun _ _ _ h => h) (by rfl) (by assumption) ?_
          (try simp only [Act.put, List.setIfInBounds_toArray, List.set_cons_zero, List.set_cons_succ])
          refine take_skip (i := 15) (d := 30) rfl rfl (by kernel_rfl) (by kernel_rfl) (by kernel_rfl) (fun _ _ _ h => h) (by rfl) (by assumption) ?_
          (try simp only [Act.put, List.setIfInBounds_toArray, List.set_cons_zero, List.set_cons_succ])
          refine take_skip (i := 16) (d := 31) rfl rfl (by kernel_rfl) (by kernel_rfl) (by kernel_rfl) (fun _ _ _ h => h) (by rfl) (by assumption) ?_
          (try simp only [Act.put, List.setIfInBounds_toArray, List.set_cons_zero, List.set_cons_succ])
          refine' take_val (i := 17) (d := 32) (v := _) rfl rfl (by kernel_rfl) (by kernel_rfl) (by kernel_rfl) (fun _ _ _ h => h) (by rfl) ?_ (by assumption) ?_
          rotate_left
          · (intro w hSw; (try dsimp only at hSw); go_simp; (try with_reducible rfl))
          (try simp only [Act.put, List.setIfInBounds_toArray, List.set_cons_zero, List.set_cons_succ])
          refine wpAnyH_done (by kernel_rfl) ?_ _
          have hb2 := nx hbW (And.left (b := _) hHeld)
          go_wp2_with fail
          go_ret
          rw [HX1.out]
          exact ⟨rfl, hb2⟩
      · obtain rfl : k = l.length := by omega
        have HX1 := Lib.hid (HX.out.trans (if_pos ⟨by omega, HA.out⟩))
        go_wp2_with fail
        go_ret
        rw [HX1.out]
        exact ⟨rfl, hb⟩
end Go.Proofs.Ytmnabhennibddaa
