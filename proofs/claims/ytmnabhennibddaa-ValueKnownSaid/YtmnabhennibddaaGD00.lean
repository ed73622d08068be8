/- Words on memory for the walks of this seat: what lies at an address, what a call leaves as it was. No conditions. -/
import Derived.WalkKit
import Derived.RowKit
import Derived.Lib.Hide
import Derived.Laws.AppendOwnNone
import Derived.Maps.AppendAt
import Derived.RegionTactic
import Derived.Stop.BytesEq
import Derived.Handy
namespace Go.Proofs.Ytmnabhennibddaa
open Go.RowKit

/-- One call behind another; with a new block laid between. -/
theorem nx {w a b : World} (h : Below w.heap.size w a) (h' : Below a.heap.size a b) : Below w.heap.size w b := h.trans (h'.mono h.size)
theorem nxA {w a b : World} {o : Obj} (h : Below w.heap.size w a) (h' : Below (a.alloc o).heap.size (a.alloc o) b) : Below w.heap.size w b := nx (h.alloc h.size o) h'
theorem bel0 (w : World) : Below w.heap.size w w := Below.refl _ _

/-- The cells from A on hold vs. -/
def Lies (w : World) (A : Option Addr) (vs : List Value) : Prop :=
  ∀ i (h : i < vs.length), ∃ ad, A = some ad ∧ w.cell? (ad.add i) = some vs[i]

theorem Lies.at {w : World} {A : Option Addr} {vs : List Value} (h : Lies w A vs) {i : Nat} (hi : i < vs.length) :
    ∃ ad, A = some ad ∧ w.cell? (ad.add i) = some vs[i] := h i hi

theorem Lies.nil (w : World) (A : Option Addr) : Lies w A [] := fun i h => absurd h (by simp)

theorem Lies.below {w w' : World} {A : Option Addr} {vs : List Value} (h : Lies w A vs) (hb : Below w.heap.size w w') : Lies w' A vs := by
  intro i hi
  obtain ⟨ad, e, hc⟩ := h i hi
  refine ⟨ad, e, ?_⟩
  rw [← hc]
  exact hb.cell (p := ad.add i) (World.block_lt_of_cell? w _ hc)

/-- The bytes as values. -/
def bv (l : List Nat) : List Value := l.map fun b : Nat => Value.int .u8 (b : Int)
theorem length_bv (l : List Nat) : (bv l).length = l.length := by simp [bv]
/-- Each is a byte. -/
def Byt (l : List Nat) : Prop := ∀ x ∈ l, x < 256
instance (l : List Nat) : Decidable (Byt l) := inferInstanceAs (Decidable (∀ x ∈ l, x < 256))

theorem Lies.byte {w : World} {A : Option Addr} {l : List Nat} (h : Lies w A (bv l)) {i : Nat} (hi : i < l.length) :
    ∃ ad, A = some ad ∧ w.cell? (ad.add i) = some (.int .u8 (l[i] : Int)) := by
  obtain ⟨ad, e, hc⟩ := h i (by simpa [bv] using hi)
  exact ⟨ad, e, by simpa [bv] using hc⟩

theorem Byt.at {l : List Nat} (h : Byt l) {i : Nat} (hi : i < l.length) : l[i] < 256 := h _ (List.getElem_mem hi)
theorem Byt.take {l : List Nat} (h : Byt l) (k : Nat) : Byt (l.take k) := fun x hx => h x (List.mem_of_mem_take hx)
theorem Byt.drop {l : List Nat} (h : Byt l) (k : Nat) : Byt (l.drop k) := fun x hx => h x (List.mem_of_mem_drop hx)
theorem Byt.append {l m : List Nat} (h : Byt l) (h' : Byt m) : Byt (l ++ m) := fun x hx => by
  rcases List.mem_append.1 hx with h1 | h1
  · exact h x h1
  · exact h' x h1

/-- An argument that is a slice of bytes. -/
structure BS (w : World) (A : Option Addr) (n c : Nat) (l : List Nat) : Prop where
  len : n = l.length
  le : l.length ≤ c
  nil : A = none → c = 0
  lies : Lies w A (bv l)
  byt : Byt l
  lim : l.length ≤ 140737488354304

theorem BS.below {w w' : World} {A : Option Addr} {n c : Nat} {l : List Nat} (h : BS w A n c l) (hb : Below w.heap.size w w') : BS w' A n c l :=
  ⟨h.len, h.le, h.nil, h.lies.below hb, h.byt, h.lim⟩
theorem BS.empty (w : World) : BS w none 0 0 [] := ⟨rfl, Nat.le_refl _, fun _ => rfl, Lies.nil _ _, (fun x hx => absurd hx (by simp)), by simp⟩

theorem BS.newBlock {w : World} {A : Option Addr} {n c : Nat} {l : List Nat} (h : BS w A n c l) (o : Obj) : BS (w.alloc o) A n c l := h.below ((Below.refl _ _).alloc (Nat.le_refl _) _)
/-- A byte of it, in a later world. -/
theorem BS.cellAt {w wr : World} {A : Option Addr} {n c : Nat} {l : List Nat} (h : BS w A n c l) (hb : Below w.heap.size w wr) {k : Nat} (hk : k < l.length) :
    ∃ ad, A = some ad ∧ wr.cell? (ad.add k) = some (.int .u8 (l[k] : Int)) := by
  obtain ⟨ad, hA, hc⟩ := h.lies.byte hk
  exact ⟨ad, hA, (hb.cell (p := ad.add k) (World.block_lt_of_cell? w _ hc)).trans hc⟩

/-- A new block of written-out bytes. -/
theorem BS.alloc (w : World) (l : List Nat) (t : TypeId) (m : Nat × Nat) (hb : Byt l) (hl : l.length ≤ 140737488354304) : BS (w.alloc (.cells (bv l).toArray t m)) (some ⟨w.heap.size, 0, none⟩) l.length l.length l := by
  refine ⟨rfl, Nat.le_refl _, (by intro h; cases h), ?_, hb, hl⟩
  intro i hi
  refine ⟨_, rfl, ?_⟩
  have : (⟨w.heap.size, 0, none⟩ : Addr).add i = ⟨w.heap.size, i, none⟩ := by
    unfold Addr.add
    split
    · rename_i h; subst h; rfl
    · simp
  rw [this, World.cell?_alloc_mark]
  simp [hi]

/-- A beginning of it. -/
theorem BS.cut {w : World} {A : Option Addr} {n c : Nat} {l : List Nat} (h : BS w A n c l) (k : Nat) : BS w A (l.take k).length c (l.take k) := by
  refine ⟨rfl, ?_, h.nil, ?_, h.byt.take k, ?_⟩
  · have := h.le; simp only [List.length_take]; omega
  · intro i hi
    simp only [bv, List.length_map, List.length_take] at hi
    obtain ⟨ad, e, hc⟩ := h.lies.byte (i := i) (by omega)
    exact ⟨ad, e, by rw [hc]; simp [bv]⟩
  · have := h.lim; simp only [List.length_take]; omega

theorem BS.cutN {w : World} {A : Option Addr} {n c : Nat} {l : List Nat} (h : BS w A n c l) {k : Nat} (hk : k ≤ l.length) : BS w A k c (l.take k) := by
  have := h.cut k
  rwa [List.length_take, Nat.min_eq_left hk] at this

theorem addr_add (g o i : Nat) : (⟨g, o, none⟩ : Addr).add i = ⟨g, o + i, none⟩ := by
  unfold Addr.add
  split
  · rename_i h; subst h; rfl
  · rfl
/-- What stands behind k bytes. -/
theorem BS.from {w : World} {g o n c : Nat} {l : List Nat} (h : BS w (some ⟨g, o, none⟩) n c l) {k : Nat} (hk : k ≤ l.length) : BS w (some ⟨g, o + k, none⟩) (n - k) (c - k) (l.drop k) := by
  refine ⟨by rw [h.len, List.length_drop], ?_, (by intro e; cases e), ?_, h.byt.drop k, ?_⟩
  · have := h.le; rw [List.length_drop]; omega
  · intro i hi
    simp only [bv, List.length_map, List.length_drop] at hi
    obtain ⟨ad, e, hc⟩ := h.lies.byte (i := k + i) (by omega)
    cases e
    refine ⟨_, rfl, ?_⟩
    rw [addr_add] at hc ⊢
    rw [show o + k + i = o + (k + i) by omega, hc]
    simp [bv]
  · have := h.lim; rw [List.length_drop]; omega

theorem oneCell_bv (l : List Nat) : ∀ u ∈ bv l, u.oneCell' = true := by
  intro u hu
  simp only [bv, List.mem_map] at hu
  obtain ⟨x, _, rfl⟩ := hu
  rfl
theorem bv_append (l m : List Nat) : bv (l ++ m) = bv l ++ bv m := by simp [bv]

/-- What lies at an owned slice. -/
theorem ownsRow_lies {w : World} {base : Nat} {e : TypeId} {size : Nat} {v : Value} {n : Nat} {xs : List Value} (h : w.ownsRow base e size v n xs) :
    ∃ A c, v = .slice A n c ∧ n ≤ c ∧ c ≤ maxLen ∧ (A = none → c = 0) ∧ Lies w A xs ∧ (∀ ad, A = some ad → base ≤ ad.block ∧ ad.block < w.heap.size) := by
  have h0 := h
  obtain ⟨hl, h⟩ := h
  rcases h with ⟨rfl, rfl⟩ | ⟨g, cap, cur, rfl, hg, hh, hn, hm, hs, ht⟩
  · refine ⟨none, 0, rfl, Nat.le_refl _, Nat.zero_le _, fun _ => rfl, ?_, by intro ad h; cases h⟩
    have : xs = [] := by simpa using hl
    subst this
    exact Lies.nil _ _
  · refine ⟨some ⟨g, 0, none⟩, cap, rfl, hn, hm, (by intro h; cases h), ?_, ?_⟩
    · intro i hi
      exact ⟨_, rfl, h0.cells rfl i xs[i] (by simp [hi])⟩
    · intro ad e
      cases e
      exact ⟨hg, (h0.lt g rfl).2⟩

theorem ownsRow_base {w : World} {base base' : Nat} {e : TypeId} {size : Nat} {v : Value} {n : Nat} {xs : List Value} (h : w.ownsRow base e size v n xs) (hb : base' ≤ base) : w.ownsRow base' e size v n xs := by
  obtain ⟨hl, h⟩ := h
  refine ⟨hl, ?_⟩
  rcases h with h | ⟨g, cap, cur, h1, h2, h3⟩
  · exact .inl h
  · exact .inr ⟨g, cap, cur, h1, by omega, h3⟩
/-- An owned row is as it was behind a call that leaves what was there. -/
theorem ownsRow_below {w w' : World} {base : Nat} {e : TypeId} {size : Nat} {v : Value} {n : Nat} {xs : List Value} (h : w.ownsRow base e size v n xs) (hb : Below w.heap.size w w') : w'.ownsRow base e size v n xs := by
  have h0 := h
  obtain ⟨hl, h⟩ := h
  refine ⟨hl, ?_⟩
  rcases h with h | ⟨g, cap, cur, rfl, h2, h3, h4⟩
  · exact .inl h
  · exact .inr ⟨g, cap, cur, rfl, h2, by rw [hb.block g (h0.lt g rfl).2]; exact h3, h4⟩
theorem grown_below {w0 w w' : World} {row : Option Nat} (hb : Below w0.heap.size w0 w) (hg : w.grownBy w' row) (hr : ∀ k, row = some k → w0.heap.size ≤ k) : Below w0.heap.size w0 w' := hb.grown hg hb.size hr
theorem own_block {w : World} {base : Nat} {e : TypeId} {size : Nat} {v : Value} {n : Nat} {xs : List Value} (h : w.ownsRow base e size v n xs) : ∀ k, v.ownBlock = some k → base ≤ k := fun k hk => (h.lt k hk).1

/-- An owned slice of bytes as an argument. -/
theorem ownsRow_bs {w : World} {base : Nat} {e : TypeId} {v : Value} {l : List Nat} (h : w.ownsRow base e 1 v l.length (bv l)) (hb : Byt l) (hm : l.length ≤ 140737488354304) :
    ∃ A n c, v = .slice A n c ∧ BS w A n c l ∧ (∀ ad, A = some ad → base ≤ ad.block ∧ ad.block < w.heap.size) := by
  obtain ⟨A, c, rfl, h1, _, h2, h3, h4⟩ := ownsRow_lies h
  exact ⟨A, _, c, rfl, ⟨rfl, h1, h2, h3, hb, hm⟩, h4⟩

/-- append(v, x..), x nil or not: what it comes to. -/
theorem run_append_any {P : Program} (w : World) (t ty : TypeId) (base : Nat) (e : TypeId) (z : Value) (size bytes : Nat) (ht : P.underlying t = some (.slice e)) (hi : (P.info? e).map (fun i => (i.zero, i.size, i.bytes)) = some (some z, size, bytes))
    (hzs : z.cells.size = size) (hsz : 0 < size) (v : Value) (n : Nat) (xs : List Value) (hown : w.ownsRow base e size v n xs)
    (A : Option Addr) (m c : Nat) (news : List Value) (hnil : A = none → c = 0) (hmc : m ≤ c) (hl : news.length = m * size) (hnews : Lies w A news) (h1 : ∀ u ∈ news, u.oneCell' = true)
    (h63 : n + m ≤ maxLen) (hbytes : (n + m) * bytes ≤ 140737488355328) (hbase : base ≤ w.heap.size) :
    ∃ v' w', (Builtin.append_ #[t, t] ty #[v, .slice A m c]).run P w = .ok v' w' ∧ w'.ownsRow base e size v' (n + m) (xs ++ news) ∧ w.grownBy w' v.ownBlock ∧ (∀ k, v'.ownBlock = some k → v.ownBlock = some k ∨ w.heap.size ≤ k) := by
  obtain ⟨i, hi, hz, hsize, hby⟩ := info_parts hi
  cases A with
  | none =>
    have hc := hnil rfl
    subst hc
    obtain rfl : m = 0 := by omega
    have : news = [] := by simpa using hl
    subst this
    exact ⟨v, w, run_append_owned_none (P := P) (w := w) base t ty e i size ht hi v n xs hown, by simpa using hown, World.grownBy.refl _ _, fun k hk => .inl hk⟩
  | some ad =>
    have hn2 : ∀ j u, news[j]? = some u → w.cell? (ad.add j) = some u := by
      intro j u hj
      obtain ⟨hj', rfl⟩ := List.getElem?_eq_some_iff.1 hj
      obtain ⟨ad', e', hc⟩ := hnews j hj'
      cases e'
      exact hc
    obtain ⟨v', w', hr, h2, h3, _, h5⟩ := run_append_own_at (P := P) w base t ty e i z size bytes ht hi hz hsize hby hzs hsz v n xs hown ad m c news hl hn2 h1 h63 hbytes hbase
    refine ⟨v', w', hr, h2, h3, fun k hk => ?_⟩
    rcases h5 with h5 | h5
    · exact .inl (h5 ▸ hk)
    · right
      rw [h5] at hk
      injection hk with hk
      omega
/-- At the operation. -/
theorem wp_append_any {P : Program} {w : World} {o : Oper} {a : Act} {K : Act → World → Prop} {Q : Exit → Act → World → Prop} (s x : Operand) (t : TypeId)
    (ho : o.op = .call { callee := .builtin .append, args := #[s, x], argTypes := #[t, t] })
    (base : Nat) (e : TypeId) (z : Value) (size bytes : Nat) (ht : P.underlying t = some (.slice e)) (hi : (P.info? e).map (fun i => (i.zero, i.size, i.bytes)) = some (some z, size, bytes))
    (hzs : z.cells.size = size) (hsz : 0 < size)
    (v : Value) (n : Nat) (xs : List Value) (hs : a.eval s = v) (hown : w.ownsRow base e size v n xs)
    (A : Option Addr) (m c : Nat) (news : List Value) (hx : a.eval x = .slice A m c) (hnil : A = none → c = 0) (hmc : m ≤ c) (hl : news.length = m * size) (hnews : Lies w A news) (h1 : ∀ u ∈ news, u.oneCell' = true)
    (h63 : n + m ≤ maxLen) (hbytes : (n + m) * bytes ≤ 140737488355328) (hbase : base ≤ w.heap.size)
    (h : ∀ v' w', w'.ownsRow base e size v' (n + m) (xs ++ news) → w.grownBy w' v.ownBlock → (∀ k, v'.ownBlock = some k → v.ownBlock = some k ∨ w.heap.size ≤ k) → K (a.put o.dst v') w') : o.wp P a w K Q := by
  obtain ⟨v', w', hr, h2, h3, h4⟩ := run_append_any (P := P) w t o.type base e z size bytes ht hi hzs hsz v n xs hown A m c news hnil hmc hl hnews h1 h63 hbytes hbase
  unfold Oper.wp execOp
  simp only [ho, resolve, invoke, builtin, Sem.run_bind, Sem.run_pure, Result.andThen_ok, List.map_toArray, List.map_cons, List.map_nil, hs, hx, hr]
  exact h v' w' h2 h3 h4

/-- The builtin min, max of two numbers, kept whole. -/
def mnI (x y : Int) : Int := if y < x then y else x
def mxI (x y : Int) : Int := if x < y then y else x
theorem min2_mn (k k' : IntKind) (x y : Int) : Builtin.min2 (.int k x) (.int k' y) = pure (.int k (mnI x y)) := by simp only [Builtin.min2, mnI]
theorem max2_mx (k k' : IntKind) (x y : Int) : Builtin.max2 (.int k x) (.int k' y) = pure (.int k (mxI x y)) := by simp only [Builtin.max2, mxI, gt_iff_lt]
theorem min_2 (ats : Array TypeId) (ty : TypeId) (a b : Value) : Builtin.min_ ats ty #[a, b] = (Builtin.min2 a b >>= fun s => pure s) := by simp only [Builtin.min_, List.foldlM_cons, List.foldlM_nil]
theorem min_4 (ats : Array TypeId) (ty : TypeId) (a b c d : Value) : Builtin.min_ ats ty #[a, b, c, d] = (Builtin.min2 a b >>= fun s => Builtin.min2 s c >>= fun s => Builtin.min2 s d >>= fun s => pure s) := by simp only [Builtin.min_, List.foldlM_cons, List.foldlM_nil]
theorem max_2 (ats : Array TypeId) (ty : TypeId) (a b : Value) : Builtin.max_ ats ty #[a, b] = (Builtin.max2 a b >>= fun s => pure s) := by simp only [Builtin.max_, List.foldlM_cons, List.foldlM_nil]
theorem mnI_nat (a b : Nat) : mnI (a : Int) (b : Int) = ((min a b : Nat) : Int) := by unfold mnI; split <;> omega
theorem mnI_lit (a : Nat) (b : Nat) (B : Int) (h : B = (b : Int)) : mnI (a : Int) B = ((min a b : Nat) : Int) := by rw [h]; exact mnI_nat a b

theorem bv_set (l : List Nat) (k x : Nat) : (bv l).set k (.int .u8 (x : Int)) = bv (l.set k x) := by
  unfold bv
  rw [List.map_set]
/-- A store into an owned row of bytes. -/
theorem own_store {w : World} {base : Nat} {e : TypeId} {g c n : Nat} {l : List Nat} (h : w.ownsRow base e 1 (.slice (some ⟨g, 0, none⟩) n c) n (bv l)) (k x : Nat) :
    (w.setCell ⟨g, k, none⟩ (.int .u8 (x : Int))).ownsRow base e 1 (.slice (some ⟨g, 0, none⟩) n c) n (bv (l.set k x)) := by
  rw [← bv_set]
  exact (h.stored k _).1
theorem own_cell {w : World} {base : Nat} {e : TypeId} {g c n : Nat} {l : List Nat} (h : w.ownsRow base e 1 (.slice (some ⟨g, 0, none⟩) n c) n (bv l)) {k : Nat} (hk : k < l.length) :
    w.cell? ⟨g, k, none⟩ = some (.int .u8 (l[k] : Int)) := by
  have hl : (bv l).length = n * 1 := h.1
  rw [h.cellAt k (by rw [← hl]; simpa [bv] using hk)]
  simp [bv, hk]
theorem own_len {w : World} {base : Nat} {e : TypeId} {v : Value} {n : Nat} {l : List Nat} (h : w.ownsRow base e 1 v n (bv l)) : n = l.length := by
  have := h.1
  simp [bv] at this
  omega

/-- == on arrays of bytes. -/
theorem run_equalIn_bv {P : Program} (w : World) (d : Nat) (t e : TypeId) (n : Nat) (ht : P.underlying t = some (.array n e)) (he : P.underlying e = some (.int .u8)) (hsz : ∀ w, (sizeOf e).run P w = .ok 1 w)
    (l m : List Nat) (hl : l.length = n) (hm : m.length = n) (bl : Byt l) (bm : Byt m) :
    (Op.equalIn (d + 2) t (.agg (bv l).toArray) (.agg (bv m).toArray)).run P w = .ok (decide (l = m)) w := by
  have e1 : ∀ k : List Nat, Byt k → bv k = (k.map UInt8.ofNat).map Extern.Stop.cell := by
    intro k hk
    unfold bv
    rw [List.map_map]
    apply List.map_congr_left
    intro x hx
    have := hk x hx
    simp only [Function.comp_apply, Extern.Stop.cell]
    congr 1
    simp [UInt8.toNat_ofNat']
    omega
  have e2 : (l.map UInt8.ofNat == m.map UInt8.ofNat) = decide (l = m) := by
    rw [Bool.eq_iff_iff]
    simp only [beq_iff_eq, decide_eq_true_eq]
    constructor
    · intro h
      have h2 := congrArg (List.map UInt8.toNat) h
      rw [List.map_map, List.map_map] at h2
      have h3 : ∀ k : List Nat, Byt k → k.map (UInt8.toNat ∘ UInt8.ofNat) = k := by
        intro k hk
        have : k.map (UInt8.toNat ∘ UInt8.ofNat) = k.map id := by
          apply List.map_congr_left
          intro x hx
          have := hk x hx
          simp [UInt8.toNat_ofNat']
          omega
        rw [this, List.map_id]
      rwa [h3 l bl, h3 m bm] at h2
    · intro h; rw [h]
  rw [e1 l bl, e1 m bm, run_equalIn_bytes w d t e n ht he hsz _ _ (by simpa using hl) (by simpa using hm), e2]

theorem take_snoc {α : Type} (l : List α) (k : Nat) (h : k < l.length) : l.take (k + 1) = l.take k ++ [l[k]] := by
  rw [List.take_succ_eq_append_getElem h]
end Go.Proofs.Ytmnabhennibddaa
