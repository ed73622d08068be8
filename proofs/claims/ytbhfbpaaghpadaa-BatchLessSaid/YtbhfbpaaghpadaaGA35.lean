/- What is written of a batch is what is read, in plain words. No conditions. -/
import Derived.Test.YtbhfbpaaghpadaaGA34
set_option linter.unusedSimpArgs false
set_option linter.unusedVariables false
namespace Go.Proofs.Ytbhfbpaaghpadaa
open Go.RowKit

theorem tkU_to : ∀ (l : List Int) (m : List Nat), (∀ n ∈ l, 0 ≤ n ∧ n ≤ 9007199254740991) → tkU l.length 0 (uN l ++ m) = (l.map Int.toNat, 0, m)
  | [], m, _ => rfl
  | n :: l, m, h => by
    have h1 := h n (by simp)
    have e1 : (uP n).1 = Dig.enc n.toNat := by unfold uP; rw [if_pos h1]
    have e2 : uN (n :: l) ++ m = Dig.enc n.toNat ++ (uN l ++ m) := by
      unfold uN
      rw [List.map_cons, List.flatten_cons, e1, List.append_assoc]
    have e3 := nbv_enc (most := 9007199254740991) n.toNat (by omega) (by omega) (uN l ++ m)
    rw [e2, List.length_cons]
    simp only [tkU, e3, tkU_to l m (fun k hk => h k (List.mem_cons_of_mem _ hk)), List.map_cons]
theorem txt_tP (most : Int) (s : ByteArray) (hs : s.size ≤ 65535) (hm : (s.size : Int) ≤ most) (m : List Nat) : txt most 0 ((tP s).1 ++ m) = (sb s, 0, m) := by
  have e1 : (tP s).1 = Dig.enc (sb s).length ++ sb s := by
    unfold tP
    rw [if_pos hs, sb_length]
  rw [e1]
  exact txt_to most (sb s) m (by rw [sb_length]; exact hs) (by rw [sb_length]; exact hm)
theorem gi_map (l : List Int) (k : Nat) (h : k < l.length) (h0 : ∀ n ∈ l, 0 ≤ n) : gi (l.map Int.toNat) k = l[k] := by
  unfold gi
  have h1 := h0 l[k] (List.getElem_mem h)
  rw [List.getD_eq_getElem?_getD, List.getElem?_map, List.getElem?_eq_getElem h]
  simp only [Option.map_some, Option.getD_some]
  omega
theorem tkSp_to {s : Spn} (h : OkS s) (hp : ∀ a ∈ s.ats, a.lab.p < 4294967296) (m : List Nat) : tkSp 0 (spB s ++ m) = (s, 0, m) := by
  have h1 := h.tr; have h2 := h.id; have h3 := h.pa; have h4 := h.st; have h5 := h.ln
  have n1 := nm_size h.sv; have n2 := nm_size h.op; have n3 := h.sj
  have hr : ∀ n ∈ sN s, 0 ≤ n ∧ n ≤ 9007199254740991 := by
    intro n hn
    simp only [sN, List.mem_cons, List.not_mem_nil, or_false] at hn
    rcases hn with rfl | rfl | rfl | rfl | rfl <;> omega
  have e0 : spB s ++ m = uN (sN s) ++ ((tP s.sv).1 ++ ((tP s.op).1 ++ ((tP s.sj).1 ++ (asB s.ats ++ m)))) := by
    unfold spB sT tN
    simp [List.append_assoc]
  have e1 := tkU_to (sN s) ((tP s.sv).1 ++ ((tP s.op).1 ++ ((tP s.sj).1 ++ (asB s.ats ++ m)))) hr
  rw [show (sN s).length = 5 from rfl] at e1
  unfold tkSp
  rw [e0]
  simp only [e1]
  simp only [txt_tP 24 s.sv (by omega) (by omega)]
  simp only [txt_tP 24 s.op (by omega) (by omega)]
  simp only [txt_tP 64 s.sj (by omega) (by omega)]
  simp only [tkAs_to h.ats hp, bs_sb]
  have g := fun k hk => gi_map (sN s) k hk (fun n hn => (hr n hn).1)
  rw [g 0 (by simp [sN]), g 1 (by simp [sN]), g 2 (by simp [sN]), g 3 (by simp [sN]), g 4 (by simp [sN])]
  rfl
theorem tkSN_to : ∀ (l : List Spn) (m : List Nat), (∀ s ∈ l, OkS s ∧ ∀ a ∈ s.ats, a.lab.p < 4294967296) → tkSN l.length 0 ((l.map spB).flatten ++ m) = (l, 0, m)
  | [], m, _ => rfl
  | s :: l, m, h => by
    have h1 := h s (by simp)
    have e := tkSp_to h1.1 h1.2 ((l.map spB).flatten ++ m)
    rw [List.map_cons, List.flatten_cons, List.append_assoc, List.length_cons]
    simp only [tkSN, if_true, e, tkSN_to l m (fun k hk => h k (List.mem_cons_of_mem _ hk))]
/-- Parts of a label in all of a batch. -/
def PtB (b : Bat) : Prop := ∀ s ∈ b.sp, ∀ a ∈ s.ats, a.lab.p < 4294967296
theorem tkB_to {b : Bat} (h : OkC b) (hp : PtB b) (m : List Nat) : tkB (btB b ++ m) = (b, 0, m) := by
  have h1 := h.ag; have h2 := h.sq; have h3 := h.n
  have hr : ∀ n ∈ [b.ag, b.sq, (b.sp.length : Int)], 0 ≤ n ∧ n ≤ 9007199254740991 := by
    intro n hn
    simp only [List.mem_cons, List.not_mem_nil, or_false] at hn
    rcases hn with rfl | rfl | rfl <;> omega
  have e1 := tkU_to [b.ag, b.sq, (b.sp.length : Int)] ((b.sp.map spB).flatten ++ m) hr
  have g := fun k hk => gi_map [b.ag, b.sq, (b.sp.length : Int)] k hk (fun n hn => (hr n hn).1)
  have g0 := g 0 (by simp)
  have g1 := g 1 (by simp)
  unfold tkB btB
  rw [List.append_assoc]
  rw [show [b.ag, b.sq, (b.sp.length : Int)].length = 3 from rfl] at e1
  simp only [e1]
  rw [show (List.map Int.toNat [b.ag, b.sq, (b.sp.length : Int)]).getD 2 0 = b.sp.length by simp]
  rw [tkSN_to b.sp m (fun s hs => ⟨h.sp s hs, hp s hs⟩), g0, g1]
  rfl
theorem tkU_b {b : Bat} (h : OkC b) (m : List Nat) : (tkU 3 0 (btB b ++ m)).1.getD 2 0 = b.sp.length := by
  have h1 := h.ag; have h2 := h.sq; have h3 := h.n
  have e1 := tkU_to [b.ag, b.sq, (b.sp.length : Int)] ((b.sp.map spB).flatten ++ m) (by
    intro n hn
    simp only [List.mem_cons, List.not_mem_nil, or_false] at hn
    rcases hn with rfl | rfl | rfl <;> omega)
  unfold btB
  rw [List.append_assoc]
  rw [show [b.ag, b.sq, (b.sp.length : Int)].length = 3 from rfl] at e1
  rw [e1]
  simp
/-- What was written is read. -/
theorem prB_to {b : Bat} (h : OkB b) (hp : PtB b) : prB (btB b) = (b, 0) := by
  have e := tkB_to h.1 hp []
  have e2 := tkU_b h.1 []
  rw [List.append_nil] at e e2
  unfold prB
  rw [e, e2, if_pos ⟨h.1.n.2, rfl, rfl, h⟩]
theorem prB_more {b : Bat} (h : OkB b) (hp : PtB b) {m : List Nat} (hm : m ≠ []) : prB (btB b ++ m) = (noBat, 90) := by
  have e := tkB_to h.1 hp m
  unfold prB
  rw [e, if_neg (fun q => hm q.2.2.1)]
theorem tkB_pt (l : List Nat) : PtB (tkB l).1 := fun s hs => (tkSN_pt _ _ _ s hs).1
theorem prB_pt (l : List Nat) : PtB (prB l).1 := by
  unfold prB
  split
  · exact tkB_pt l
  · intro s hs; cases hs
theorem prB_or (l : List Nat) : (prB l).2 = 0 ∨ prB l = (noBat, 90) := by
  unfold prB
  split
  · exact .inl rfl
  · exact .inr rfl
theorem prB_yes {l : List Nat} (hl : Byt l) (h : (prB l).2 = 0) : OkB (prB l).1 ∧ l = btB (prB l).1 := by
  unfold prB at h ⊢
  split
  · rename_i q
    refine ⟨q.2.2.2, ?_⟩
    have := tkB_yes hl q.2.1
    rw [q.2.2.1, List.append_nil] at this
    exact this
  · rename_i q
    rw [if_neg q] at h
    exact absurd h (by decide)
theorem prB_len (l : List Nat) : (prB l).1.sp.length ≤ 16 := by
  unfold prB
  split
  · rename_i q
    exact q.2.2.2.1.n.2
  · exact Nat.zero_le _
theorem prB_ats (l : List Nat) : ∀ s ∈ (prB l).1.sp, s.ats.length ≤ 2199023255552 := by
  unfold prB
  split
  · intro s hs
    have := (tkSN_pt _ _ _ s hs).2
    omega
  · intro s hs; cases hs
/-- With a byte less it is none. -/
theorem prB_less {l : List Nat} (hl : Byt l) {x : Nat} (h : (prB (l ++ [x])).2 = 0) : prB l = (noBat, 90) := by
  rcases prB_or l with q | q
  · exfalso
    have hl' : Byt l := hl
    obtain ⟨h1, h2⟩ := prB_yes hl' q
    have := prB_more h1 (prB_pt l) (m := [x]) (by simp)
    rw [← h2] at this
    rw [this] at h
    exact absurd h (by decide)
  · exact q
theorem btB_inj {a b : Bat} (ha : OkC a) (hb : OkC b) (pa : PtB a) (pb : PtB b) (h : btB a = btB b) : a = b := by
  have e1 := tkB_to ha pa []
  have e2 := tkB_to hb pb []
  rw [h] at e1
  have := e1.symm.trans e2
  injection this
end Go.Proofs.Ytbhfbpaaghpadaa
