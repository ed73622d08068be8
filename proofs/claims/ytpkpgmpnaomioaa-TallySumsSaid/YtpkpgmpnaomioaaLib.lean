/- Words on memory for the walks of this seat: what lies at an address, what a call leaves as it was. No conditions. -/
import Derived.WalkKit
import Derived.RowKit
import Derived.Lib.Hide
import Derived.Laws.AppendOwnNone
import Derived.Handy
namespace Go.Proofs.Ytpkpgmpnaomioaa
open Go.RowKit

/-- One call behind another; with a new block laid between. -/
theorem nx {w a b : World} (h : Below w.heap.size w a) (h' : Below a.heap.size a b) : Below w.heap.size w b := h.trans (h'.mono h.size)
theorem nxA {w a b : World} {o : Obj} (h : Below w.heap.size w a) (h' : Below (a.alloc o).heap.size (a.alloc o) b) : Below w.heap.size w b := nx (h.alloc h.size o) h'
theorem bel0 (w : World) : Below w.heap.size w w := Below.refl _ _

/-- The cells from A on hold vs. -/
def Lies (w : World) (A : Option Addr) (vs : List Value) : Prop :=
  ∀ i (h : i < vs.length), ∃ ad, A = some ad ∧ w.cell? (ad.add i) = some vs[i]

theorem Lies.at {w : World} {A : Option Addr} {vs : List Value} (h : Lies w A vs) {i : Nat} (hi : i < vs.length) :
    ∃ ad, A = some ad ∧ w.cell? (ad.add i) = some vs[i] := h i hi

theorem Lies.nil (w : World) (A : Option Addr) : Lies w A [] := fun i h => absurd h (by simp)

theorem Lies.below {w w' : World} {A : Option Addr} {vs : List Value} (h : Lies w A vs) (hb : Below w.heap.size w w') : Lies w' A vs := by
  intro i hi
  obtain ⟨ad, e, hc⟩ := h i hi
  refine ⟨ad, e, ?_⟩
  rw [← hc]
  exact hb.cell (p := ad.add i) (World.block_lt_of_cell? w _ hc)

/-- The bytes as values. -/
def bv (l : List Nat) : List Value := l.map fun b : Nat => Value.int .u8 (b : Int)
theorem length_bv (l : List Nat) : (bv l).length = l.length := by simp [bv]
/-- Each is a byte. -/
def Byt (l : List Nat) : Prop := ∀ x ∈ l, x < 256
instance (l : List Nat) : Decidable (Byt l) := inferInstanceAs (Decidable (∀ x ∈ l, x < 256))

theorem Lies.byte {w : World} {A : Option Addr} {l : List Nat} (h : Lies w A (bv l)) {i : Nat} (hi : i < l.length) :
    ∃ ad, A = some ad ∧ w.cell? (ad.add i) = some (.int .u8 (l[i] : Int)) := by
  obtain ⟨ad, e, hc⟩ := h i (by simpa [bv] using hi)
  exact ⟨ad, e, by simpa [bv] using hc⟩

theorem Byt.at {l : List Nat} (h : Byt l) {i : Nat} (hi : i < l.length) : l[i] < 256 := h _ (List.getElem_mem hi)
theorem Byt.take {l : List Nat} (h : Byt l) (k : Nat) : Byt (l.take k) := fun x hx => h x (List.mem_of_mem_take hx)
theorem Byt.drop {l : List Nat} (h : Byt l) (k : Nat) : Byt (l.drop k) := fun x hx => h x (List.mem_of_mem_drop hx)
theorem Byt.append {l m : List Nat} (h : Byt l) (h' : Byt m) : Byt (l ++ m) := fun x hx => by
  rcases List.mem_append.1 hx with h1 | h1
  · exact h x h1
  · exact h' x h1

/-- An argument that is a slice of bytes. -/
structure BS (w : World) (A : Option Addr) (n c : Nat) (l : List Nat) : Prop where
  len : n = l.length
  le : l.length ≤ c
  nil : A = none → c = 0
  lies : Lies w A (bv l)
  byt : Byt l
  lim : l.length ≤ 140737488351232

theorem BS.below {w w' : World} {A : Option Addr} {n c : Nat} {l : List Nat} (h : BS w A n c l) (hb : Below w.heap.size w w') : BS w' A n c l :=
  ⟨h.len, h.le, h.nil, h.lies.below hb, h.byt, h.lim⟩
theorem BS.empty (w : World) : BS w none 0 0 [] := ⟨rfl, Nat.le_refl _, fun _ => rfl, Lies.nil _ _, (fun x hx => absurd hx (by simp)), by simp⟩

theorem BS.newBlock {w : World} {A : Option Addr} {n c : Nat} {l : List Nat} (h : BS w A n c l) (o : Obj) : BS (w.alloc o) A n c l := h.below ((Below.refl _ _).alloc (Nat.le_refl _) _)
/-- A byte of it, in a later world. -/
theorem BS.cellAt {w wr : World} {A : Option Addr} {n c : Nat} {l : List Nat} (h : BS w A n c l) (hb : Below w.heap.size w wr) {k : Nat} (hk : k < l.length) :
    ∃ ad, A = some ad ∧ wr.cell? (ad.add k) = some (.int .u8 (l[k] : Int)) := by
  obtain ⟨ad, hA, hc⟩ := h.lies.byte hk
  exact ⟨ad, hA, (hb.cell (p := ad.add k) (World.block_lt_of_cell? w _ hc)).trans hc⟩

/-- A new block of written-out bytes. -/
theorem BS.alloc (w : World) (l : List Nat) (t : TypeId) (m : Nat × Nat) (hb : Byt l) (hl : l.length ≤ 140737488351232) : BS (w.alloc (.cells (bv l).toArray t m)) (some ⟨w.heap.size, 0, none⟩) l.length l.length l := by
  refine ⟨rfl, Nat.le_refl _, (by intro h; cases h), ?_, hb, hl⟩
  intro i hi
  refine ⟨_, rfl, ?_⟩
  have : (⟨w.heap.size, 0, none⟩ : Addr).add i = ⟨w.heap.size, i, none⟩ := by
    unfold Addr.add
    split
    · rename_i h; subst h; rfl
    · simp
  rw [this, World.cell?_alloc_mark]
  simp [hi]

/-- A beginning of it. -/
theorem BS.cut {w : World} {A : Option Addr} {n c : Nat} {l : List Nat} (h : BS w A n c l) (k : Nat) : BS w A (l.take k).length c (l.take k) := by
  refine ⟨rfl, ?_, h.nil, ?_, h.byt.take k, ?_⟩
  · have := h.le; simp only [List.length_take]; omega
  · intro i hi
    simp only [bv, List.length_map, List.length_take] at hi
    obtain ⟨ad, e, hc⟩ := h.lies.byte (i := i) (by omega)
    exact ⟨ad, e, by rw [hc]; simp [bv]⟩
  · have := h.lim; simp only [List.length_take]; omega

theorem oneCell_bv (l : List Nat) : ∀ u ∈ bv l, u.oneCell' = true := by
  intro u hu
  simp only [bv, List.mem_map] at hu
  obtain ⟨x, _, rfl⟩ := hu
  rfl
theorem bv_append (l m : List Nat) : bv (l ++ m) = bv l ++ bv m := by simp [bv]

/-- What lies at an owned slice. -/
theorem ownsRow_lies {w : World} {base : Nat} {e : TypeId} {size : Nat} {v : Value} {n : Nat} {xs : List Value} (h : w.ownsRow base e size v n xs) :
    ∃ A c, v = .slice A n c ∧ n ≤ c ∧ c ≤ maxLen ∧ (A = none → c = 0) ∧ Lies w A xs ∧ (∀ ad, A = some ad → base ≤ ad.block ∧ ad.block < w.heap.size) := by
  have h0 := h
  obtain ⟨hl, h⟩ := h
  rcases h with ⟨rfl, rfl⟩ | ⟨g, cap, cur, rfl, hg, hh, hn, hm, hs, ht⟩
  · refine ⟨none, 0, rfl, Nat.le_refl _, Nat.zero_le _, fun _ => rfl, ?_, by intro ad h; cases h⟩
    have : xs = [] := by simpa using hl
    subst this
    exact Lies.nil _ _
  · refine ⟨some ⟨g, 0, none⟩, cap, rfl, hn, hm, (by intro h; cases h), ?_, ?_⟩
    · intro i hi
      exact ⟨_, rfl, h0.cells rfl i xs[i] (by simp [hi])⟩
    · intro ad e
      cases e
      exact ⟨hg, (h0.lt g rfl).2⟩

/-- An owned slice of bytes as an argument. -/
theorem ownsRow_bs {w : World} {base : Nat} {e : TypeId} {v : Value} {l : List Nat} (h : w.ownsRow base e 1 v l.length (bv l)) (hb : Byt l) (hm : l.length ≤ 140737488351232) :
    ∃ A c, v = .slice A l.length c ∧ BS w A l.length c l ∧ (∀ ad, A = some ad → base ≤ ad.block ∧ ad.block < w.heap.size) := by
  obtain ⟨A, c, rfl, h1, _, h2, h3, h4⟩ := ownsRow_lies h
  exact ⟨A, c, rfl, ⟨rfl, h1, h2, h3, hb, hm⟩, h4⟩

/-- append(v, x..): x nil or not. -/
theorem wpList_append_lies {P : Program} {w : World} {ops : Array Oper} {rest : List Oper} {o : Oper} {a : Act} {Q : Exit → Act → World → Prop} (hgd : o.guard = none) (s x : Operand) (t : TypeId)
    (ho : o.op = .call { callee := .builtin .append, args := #[s, x], argTypes := #[t, t] })
    (base : Nat) (e : TypeId) (z : Value) (size bytes : Nat) (ht : P.underlying t = some (.slice e)) (hi : (P.info? e).map (fun i => (i.zero, i.size, i.bytes)) = some (some z, size, bytes))
    (hzs : z.cells.size = size) (hsz : 0 < size)
    (v : Value) (n : Nat) (xs : List Value) (hs : a.eval s = v) (hown : w.ownsRow base e size v n xs)
    (A : Option Addr) (m c : Nat) (news : List Value) (hx : a.eval x = .slice A m c) (hnil : A = none → c = 0) (hmc : m ≤ c) (hl : news.length = m * size) (hnews : Lies w A news) (h1 : ∀ u ∈ news, u.oneCell' = true)
    (h63 : n + m ≤ maxLen) (hbytes : (n + m) * bytes ≤ 140737488355328) (hbase : base ≤ w.heap.size)
    (h : ∀ v' w', w'.ownsRow base e size v' (n + m) (xs ++ news) → w.grownBy w' v.ownBlock → wpList P ops Q rest (a.put o.dst v') w') : wpList P ops Q (o :: rest) a w := by
  obtain ⟨i, hi, hz, hsize, hby⟩ := info_parts hi
  cases A with
  | none =>
    have hc := hnil rfl
    subst hc
    obtain rfl : m = 0 := by omega
    have : news = [] := by simpa using hl
    subst this
    refine wpList_append_own_none hgd s x t ho base e i size ht hi v n xs hs hown hx ?_
    exact h v w (by simpa using hown) (World.grownBy.refl _ _)
  | some ad =>
    refine wpList_append_own w hgd s x t ho base e i z size bytes ht hi hz hsize hby hzs hsz v n xs hs hown ad m c news hx hl ?_ h1 h63 hbytes hbase ?_
    · intro j u hj
      obtain ⟨hj', rfl⟩ := List.getElem?_eq_some_iff.1 hj
      obtain ⟨ad', e', hc⟩ := hnews j hj'
      cases e'
      exact hc
    · intro v' w' h2 h3 _
      exact h v' w' h2 h3

theorem take_snoc {α : Type} (l : List α) (k : Nat) (h : k < l.length) : l.take (k + 1) = l.take k ++ [l[k]] := by
  rw [List.take_succ_eq_append_getElem h]
end Go.Proofs.Ytpkpgmpnaomioaa
